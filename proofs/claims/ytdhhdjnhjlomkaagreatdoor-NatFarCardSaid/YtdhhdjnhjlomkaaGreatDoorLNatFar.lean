/- The law NatFar on trees: shifts beyond a hundred thousand bits are nought. -/
import Derived.Test.YtdhhdjnhjlomkaaGreatDoorTX
import Derived.Test.YtdhhdjnhjlomkaaGreatDoorBG
set_option linter.unusedSimpArgs false
set_option linter.unusedVariables false
set_option maxRecDepth 100000
set_option maxHeartbeats 4000000
open Go Go.Avm
namespace Va
def ir_law1_NatFar : IF := (.mk (.seq (.reg [sX 4 (.mov (.v (.bool false)))]) (.seq (.reg [sX 8 (.call n_law1_begun []), mX 5 8]) (.seq (.seq (.reg [mX 9 5, sX 10 (.not (.t 9))]) (.cond (.t 10) (.seq (.reg [sX 4 (.mov (.v (.bool false)))]) .ret) .skip)) (.seq (.reg [mX 12 0, sX 13 (.call n_law1_N [(.t 12)]), mX 11 13, sX 14 (.ext (.t 11) 0), sX 15 (.ext (.t 11) 1), mX 6 14, mX 7 15]) (.seq (.reg [mX 16 1, sX 17 (.bin .rem (.t 16) (.v (iv .i64 1000))), sX 18 (.bin .add (.t 17) (.v (iv .i64 1000))), sX 19 (.bin .rem (.t 18) (.v (iv .i64 1000))), sX 20 (.bin .add (.v (iv .i64 100001)) (.t 19)), mX 1 20]) (.seq (.reg [mX 21 6, mX 22 1, sX 23 (.call n_nat_Nat_Shl [(.t 21), (.t 22)]), sX 24 (.call n_nat_Nat_Text [(.t 23)]), sX 25 (.bin .eql (.t 24) (.v (.str [48]))), mX 26 25, ⟨(some 27), (.mov (.t 6)), (some (26, true))⟩, ⟨(some 28), (.mov (.t 1)), (some (26, true))⟩, ⟨(some 29), (.call n_nat_Nat_Shr [(.t 27), (.t 28)]), (some (26, true))⟩, ⟨(some 30), (.call n_nat_Nat_Text [(.t 29)]), (some (26, true))⟩, ⟨(some 31), (.bin .eql (.t 30) (.v (.str [48]))), (some (26, true))⟩, sX 32 (.pick (.t 26) (.t 31) (.v (.bool false))), mX 33 32, ⟨(some 34), (.mov (.t 6)), (some (33, true))⟩, ⟨(some 35), (.mov (.t 1)), (some (33, true))⟩, ⟨(some 36), (.neg (.t 35)), (some (33, true))⟩, ⟨(some 37), (.call n_nat_Nat_Shl [(.t 34), (.t 36)]), (some (33, true))⟩, ⟨(some 38), (.call n_nat_Nat_Text [(.t 37)]), (some (33, true))⟩, ⟨(some 39), (.bin .eql (.t 38) (.v (.str [48]))), (some (33, true))⟩, sX 40 (.pick (.t 33) (.t 39) (.v (.bool false))), mX 41 40, ⟨(some 42), (.mov (.t 6)), (some (41, true))⟩, ⟨(some 43), (.mov (.t 1)), (some (41, true))⟩, ⟨(some 44), (.neg (.t 43)), (some (41, true))⟩, ⟨(some 45), (.call n_nat_Nat_Shr [(.t 42), (.t 44)]), (some (41, true))⟩, ⟨(some 46), (.call n_nat_Nat_Text [(.t 45)]), (some (41, true))⟩, ⟨(some 47), (.bin .eql (.t 46) (.v (.str [48]))), (some (41, true))⟩, sX 48 (.pick (.t 41) (.t 47) (.v (.bool false))), mX 49 48, ⟨(some 50), (.mov (.t 6)), (some (49, true))⟩, ⟨(some 51), (.call n_nat_Nat_Shl [(.t 50), (.v (iv .i64 99000))]), (some (49, true))⟩, ⟨(some 52), (.call n_nat_Nat_Shr [(.t 51), (.v (iv .i64 99000))]), (some (49, true))⟩, ⟨(some 53), (.mov (.t 6)), (some (49, true))⟩, ⟨(some 54), (.call n_nat_Nat_Cmp [(.t 52), (.t 53)]), (some (49, true))⟩, ⟨(some 55), (.bin .eql (.t 54) (.v (iv .i64 0))), (some (49, true))⟩, sX 56 (.pick (.t 49) (.t 55) (.v (.bool false))), mX 4 56]) .ret)))))) [(.t 4)] 57)
theorem low_law1_NatFar : lowF P n_law1_NatFar = some ir_law1_NatFar := by kernel_rfl
variable {G : Glob}
theorem NatFar_px (hG : GOK G) (s : List UInt8) (k : Int) (hs : s.length ≤ 9223372036854775807) (hk : -9223372036854775808 ≤ k ∧ k ≤ 9223372036854775807) : PX P G n_law1_NatFar [.str s, .int .i64 k] (.bool true) := by
  refine PX_of_awp low_law1_NatFar fol (by simp only [avmF, and_true]) (by simp only [avmF, and_true]) ?_
  obtain ⟨m, hm, hm2⟩ := wrapmod k 1000 (by decide) (by decide)
  have hN := law1_N_px (G := G) s hs
  obtain ⟨a, ha⟩ : ∃ a, a = nv s := ⟨_, rfl⟩
  have hd := nv_dl s
  rw [← ha] at hN hd
  obtain ⟨K, hK⟩ : ∃ K, K = 100001 + m := ⟨_, rfl⟩
  have w1 : IntKind.i64.wrap ((K : Nat) : Int) = ((K : Nat) : Int) := wi64 (by omega)
  have w2 : IntKind.i64.wrap (-((K : Nat) : Int)) = -((K : Nat) : Int) := wi64_in (by omega) (by omega)
  obtain ⟨f1, f2⟩ := shN_far a K (by omega)
  have S1 := nat_Shl_px (G := G) a (K : Int) (by omega)
  have S2 := nat_Shr_px (G := G) a (K : Int) (by omega)
  have S3 := nat_Shl_px (G := G) a (-(K : Int)) (by omega)
  have S4 := nat_Shr_px (G := G) a (-(K : Int)) (by omega)
  rw [f1] at S1
  rw [f2] at S2 S3
  rw [Int.neg_neg, f1] at S4
  have T := nat_Text_zero hG
  have e48 : ([48] == ([48] : List UInt8)) = true := rfl
  obtain ⟨M, hM, hU, hB⟩ := up_back (G := G) a 99000 (by decide) (by omega)
  have hC := nat_Cmp_px (G := G) a a (by omega) (by omega)
  rw [cmpI_eq] at hC
  simp only [ir_law1_NatFar, sX, mX, initF, List.replicate, Nat.reduceAdd, Nat.reduceSub, iv, avmL]
  simp (maxSteps := 2000000) only [↓avp, avq, ↓reduceIte, Nat.reduceAdd, Nat.reduceMul, Nat.reduceSub, Nat.reduceLT, Nat.reduceLeDiff, Nat.reduceEqDiff, Nat.reducePow, Nat.reduceMod]
  refine (begun_px hG).call ?_
  simp (maxSteps := 2000000) only [↓avp, avq, ↓reduceIte, Nat.reduceAdd, Nat.reduceMul, Nat.reduceSub, Nat.reduceLT, Nat.reduceLeDiff, Nat.reduceEqDiff, Nat.reducePow, Nat.reduceMod]
  refine hN.call ?_
  simp (maxSteps := 2000000) only [↓avp, avq, ↓reduceIte, Nat.reduceAdd, Nat.reduceMul, Nat.reduceSub, Nat.reduceLT, Nat.reduceLeDiff, Nat.reduceEqDiff, Nat.reducePow, Nat.reduceMod, hm, ← hK, w1]
  refine S1.call ?_
  simp (maxSteps := 2000000) only [↓avp, avq, ↓reduceIte, Nat.reduceAdd, Nat.reduceMul, Nat.reduceSub, Nat.reduceLT, Nat.reduceLeDiff, Nat.reduceEqDiff, Nat.reducePow, Nat.reduceMod]
  refine T.call ?_
  simp (maxSteps := 2000000) only [↓avp, avq, ↓reduceIte, Nat.reduceAdd, Nat.reduceMul, Nat.reduceSub, Nat.reduceLT, Nat.reduceLeDiff, Nat.reduceEqDiff, Nat.reducePow, Nat.reduceMod, e48]
  refine S2.call ?_
  simp (maxSteps := 2000000) only [↓avp, avq, ↓reduceIte, Nat.reduceAdd, Nat.reduceMul, Nat.reduceSub, Nat.reduceLT, Nat.reduceLeDiff, Nat.reduceEqDiff, Nat.reducePow, Nat.reduceMod]
  refine T.call ?_
  simp (maxSteps := 2000000) only [↓avp, avq, ↓reduceIte, Nat.reduceAdd, Nat.reduceMul, Nat.reduceSub, Nat.reduceLT, Nat.reduceLeDiff, Nat.reduceEqDiff, Nat.reducePow, Nat.reduceMod, e48, w2]
  refine S3.call ?_
  simp (maxSteps := 2000000) only [↓avp, avq, ↓reduceIte, Nat.reduceAdd, Nat.reduceMul, Nat.reduceSub, Nat.reduceLT, Nat.reduceLeDiff, Nat.reduceEqDiff, Nat.reducePow, Nat.reduceMod]
  refine T.call ?_
  simp (maxSteps := 2000000) only [↓avp, avq, ↓reduceIte, Nat.reduceAdd, Nat.reduceMul, Nat.reduceSub, Nat.reduceLT, Nat.reduceLeDiff, Nat.reduceEqDiff, Nat.reducePow, Nat.reduceMod, e48, w2]
  refine S4.call ?_
  simp (maxSteps := 2000000) only [↓avp, avq, ↓reduceIte, Nat.reduceAdd, Nat.reduceMul, Nat.reduceSub, Nat.reduceLT, Nat.reduceLeDiff, Nat.reduceEqDiff, Nat.reducePow, Nat.reduceMod]
  refine T.call ?_
  simp (maxSteps := 2000000) only [↓avp, avq, ↓reduceIte, Nat.reduceAdd, Nat.reduceMul, Nat.reduceSub, Nat.reduceLT, Nat.reduceLeDiff, Nat.reduceEqDiff, Nat.reducePow, Nat.reduceMod, e48]
  refine hU.call ?_
  simp (maxSteps := 2000000) only [↓avp, avq, ↓reduceIte, Nat.reduceAdd, Nat.reduceMul, Nat.reduceSub, Nat.reduceLT, Nat.reduceLeDiff, Nat.reduceEqDiff, Nat.reducePow, Nat.reduceMod]
  refine hB.call ?_
  simp (maxSteps := 2000000) only [↓avp, avq, ↓reduceIte, Nat.reduceAdd, Nat.reduceMul, Nat.reduceSub, Nat.reduceLT, Nat.reduceLeDiff, Nat.reduceEqDiff, Nat.reducePow, Nat.reduceMod]
  refine hC.call ?_
  simp (maxSteps := 2000000) only [↓avp, avq, ↓reduceIte, Nat.reduceAdd, Nat.reduceMul, Nat.reduceSub, Nat.reduceLT, Nat.reduceLeDiff, Nat.reduceEqDiff, Nat.reducePow, Nat.reduceMod]
  refine ret_now ?_
  simp (maxSteps := 2000000) only [↓avp, avq, ↓reduceIte, Nat.reduceAdd, Nat.reduceMul, Nat.reduceSub, Nat.reduceLT, Nat.reduceLeDiff, Nat.reduceEqDiff, Nat.reducePow, Nat.reduceMod]
end Va
