/- The law NatOwn on trees: numbers that were reckoned with are as they were. -/
import Derived.Test.YtdhhdjnhjlomkaaGreatDoorTX
import Derived.Test.YtdhhdjnhjlomkaaGreatDoorBG
set_option linter.unusedSimpArgs false
set_option linter.unusedVariables false
set_option maxRecDepth 100000
set_option maxHeartbeats 4000000
open Go Go.Avm
namespace Va
def ir_law1_NatOwn : IF := (.mk (.seq (.reg [sX 4 (.mov (.v (.bool false)))]) (.seq (.reg [sX 12 (.call n_law1_begun []), mX 5 12]) (.seq (.seq (.reg [mX 13 5, sX 14 (.not (.t 13))]) (.cond (.t 14) (.seq (.reg [sX 4 (.mov (.v (.bool false)))]) .ret) .skip)) (.seq (.reg [mX 16 0, sX 17 (.call n_law1_N [(.t 16)]), mX 15 17, sX 18 (.ext (.t 15) 0), sX 19 (.ext (.t 15) 1), mX 6 18, mX 7 19]) (.seq (.reg [mX 21 1, sX 22 (.call n_law1_N [(.t 21)]), mX 20 22, sX 23 (.ext (.t 20) 0), sX 24 (.ext (.t 20) 1), mX 8 23, mX 9 24]) (.seq (.reg [mX 25 6, sX 26 (.call n_nat_Nat_Text [(.t 25)]), mX 27 8, sX 28 (.call n_nat_Nat_Text [(.t 27)]), mX 10 26, mX 11 28]) (.seq (.reg [mX 29 6, mX 30 8, sX 31 (.call n_nat_Nat_Add [(.t 29), (.t 30)])]) (.seq (.reg [mX 32 6, mX 33 8, sX 34 (.call n_nat_Nat_Mul [(.t 32), (.t 33)])]) (.seq (.reg [mX 35 6, mX 36 8, sX 37 (.call n_nat_Nat_Less [(.t 35), (.t 36)])]) (.seq (.reg [mX 38 6, mX 39 8, sX 40 (.call n_nat_Nat_Div [(.t 38), (.t 39)])]) (.seq (.reg [mX 41 6, mX 42 8, sX 43 (.call n_nat_Nat_Gcd [(.t 41), (.t 42)])]) (.seq (.reg [mX 44 6, sX 45 (.call n_nat_Nat_Shl [(.t 44), (.v (iv .i64 70))])]) (.seq (.reg [mX 46 6, sX 47 (.call n_nat_Nat_Shr [(.t 46), (.v (iv .i64 3))])]) (.seq (.reg [mX 48 6, sX 49 (.call n_nat_Nat_Text [(.t 48)]), mX 50 10, sX 51 (.bin .eql (.t 49) (.t 50)), mX 52 51, ⟨(some 53), (.mov (.t 8)), (some (52, true))⟩, ⟨(some 54), (.call n_nat_Nat_Text [(.t 53)]), (some (52, true))⟩, ⟨(some 55), (.mov (.t 11)), (some (52, true))⟩, ⟨(some 56), (.bin .eql (.t 54) (.t 55)), (some (52, true))⟩, sX 57 (.pick (.t 52) (.t 56) (.v (.bool false))), mX 4 57]) .ret)))))))))))))) [(.t 4)] 58)
theorem low_law1_NatOwn : lowF P n_law1_NatOwn = some ir_law1_NatOwn := by kernel_rfl
variable {G : Glob}
theorem own_less (a b : Nat) (ha : dl 4294967296 a ≤ 1000000000) (hb : dl 4294967296 b ≤ 1000000000) : ∃ v, PX P G n_nat_Nat_Less [natV a, natV b] v := by
  by_cases h : b ≤ a
  · exact ⟨_, nat_Less_px a b ha hb h⟩
  · exact ⟨_, nat_Less_no a b ha hb (by omega)⟩
theorem own_div (a b : Nat) (ha : dl 4294967296 a ≤ 1000000) (hb : dl 4294967296 b ≤ 1000000) : ∃ v, PX P G n_nat_Nat_Div [natV a, natV b] v := by
  rcases Nat.eq_zero_or_pos b with h | h
  · subst h; exact ⟨_, nat_Div_zero a⟩
  · exact ⟨_, nat_Div_px a b h (by omega) (by omega)⟩
theorem NatOwn_px (hG : GOK G) (s t : List UInt8) (hs : s.length ≤ 9223372036854775807) (ht : t.length ≤ 9223372036854775807) : PX P G n_law1_NatOwn [.str s, .str t] (.bool true) := by
  refine PX_of_awp low_law1_NatOwn fol (by simp only [avmF, and_true]) (by simp only [avmF, and_true]) ?_
  have hN1 := law1_N_px (G := G) s hs
  have hN2 := law1_N_px (G := G) t ht
  obtain ⟨a, ha⟩ : ∃ a, a = nv s := ⟨_, rfl⟩
  obtain ⟨b, hb⟩ : ∃ a, a = nv t := ⟨_, rfl⟩
  have da := nv_dl s
  have db := nv_dl t
  rw [← ha] at hN1 da
  rw [← hb] at hN2 db
  have T1 := nat_Text_px hG a (by omega)
  have T2 := nat_Text_px hG b (by omega)
  have A := nat_Add_px (G := G) a b (by omega) (by omega)
  have M := nat_Mul_px (G := G) a b (by omega) (by omega)
  obtain ⟨l, L⟩ := own_less (G := G) a b (by omega) (by omega)
  obtain ⟨d, D⟩ := own_div (G := G) a b (by omega) (by omega)
  have Gc := nat_Gcd_px (G := G) a b (by omega) (by omega)
  have S1 := nat_Shl_px (G := G) a ((70 : Nat) : Int) (by omega)
  have S2 := nat_Shr_px (G := G) a ((3 : Nat) : Int) (by omega)
  have e1 := beq_txt (txt a)
  have e2 := beq_txt (txt b)
  simp only [ir_law1_NatOwn, sX, mX, initF, List.replicate, Nat.reduceAdd, Nat.reduceSub, iv, avmL]
  simp (maxSteps := 2000000) only [↓avp, avq, ↓reduceIte, Nat.reduceAdd, Nat.reduceMul, Nat.reduceSub, Nat.reduceLT, Nat.reduceLeDiff, Nat.reduceEqDiff, Nat.reducePow, Nat.reduceMod]
  refine (begun_px hG).call ?_
  simp (maxSteps := 2000000) only [↓avp, avq, ↓reduceIte, Nat.reduceAdd, Nat.reduceMul, Nat.reduceSub, Nat.reduceLT, Nat.reduceLeDiff, Nat.reduceEqDiff, Nat.reducePow, Nat.reduceMod]
  refine hN1.call ?_
  simp (maxSteps := 2000000) only [↓avp, avq, ↓reduceIte, Nat.reduceAdd, Nat.reduceMul, Nat.reduceSub, Nat.reduceLT, Nat.reduceLeDiff, Nat.reduceEqDiff, Nat.reducePow, Nat.reduceMod]
  refine hN2.call ?_
  simp (maxSteps := 2000000) only [↓avp, avq, ↓reduceIte, Nat.reduceAdd, Nat.reduceMul, Nat.reduceSub, Nat.reduceLT, Nat.reduceLeDiff, Nat.reduceEqDiff, Nat.reducePow, Nat.reduceMod]
  refine T1.call ?_
  simp (maxSteps := 2000000) only [↓avp, avq, ↓reduceIte, Nat.reduceAdd, Nat.reduceMul, Nat.reduceSub, Nat.reduceLT, Nat.reduceLeDiff, Nat.reduceEqDiff, Nat.reducePow, Nat.reduceMod]
  refine T2.call ?_
  simp (maxSteps := 2000000) only [↓avp, avq, ↓reduceIte, Nat.reduceAdd, Nat.reduceMul, Nat.reduceSub, Nat.reduceLT, Nat.reduceLeDiff, Nat.reduceEqDiff, Nat.reducePow, Nat.reduceMod]
  refine A.call ?_
  simp (maxSteps := 2000000) only [↓avp, avq, ↓reduceIte, Nat.reduceAdd, Nat.reduceMul, Nat.reduceSub, Nat.reduceLT, Nat.reduceLeDiff, Nat.reduceEqDiff, Nat.reducePow, Nat.reduceMod]
  refine M.call ?_
  simp (maxSteps := 2000000) only [↓avp, avq, ↓reduceIte, Nat.reduceAdd, Nat.reduceMul, Nat.reduceSub, Nat.reduceLT, Nat.reduceLeDiff, Nat.reduceEqDiff, Nat.reducePow, Nat.reduceMod]
  refine L.call ?_
  simp (maxSteps := 2000000) only [↓avp, avq, ↓reduceIte, Nat.reduceAdd, Nat.reduceMul, Nat.reduceSub, Nat.reduceLT, Nat.reduceLeDiff, Nat.reduceEqDiff, Nat.reducePow, Nat.reduceMod]
  refine D.call ?_
  simp (maxSteps := 2000000) only [↓avp, avq, ↓reduceIte, Nat.reduceAdd, Nat.reduceMul, Nat.reduceSub, Nat.reduceLT, Nat.reduceLeDiff, Nat.reduceEqDiff, Nat.reducePow, Nat.reduceMod]
  refine Gc.call ?_
  simp (maxSteps := 2000000) only [↓avp, avq, ↓reduceIte, Nat.reduceAdd, Nat.reduceMul, Nat.reduceSub, Nat.reduceLT, Nat.reduceLeDiff, Nat.reduceEqDiff, Nat.reducePow, Nat.reduceMod]
  refine S1.call ?_
  simp (maxSteps := 2000000) only [↓avp, avq, ↓reduceIte, Nat.reduceAdd, Nat.reduceMul, Nat.reduceSub, Nat.reduceLT, Nat.reduceLeDiff, Nat.reduceEqDiff, Nat.reducePow, Nat.reduceMod]
  refine S2.call ?_
  simp (maxSteps := 2000000) only [↓avp, avq, ↓reduceIte, Nat.reduceAdd, Nat.reduceMul, Nat.reduceSub, Nat.reduceLT, Nat.reduceLeDiff, Nat.reduceEqDiff, Nat.reducePow, Nat.reduceMod]
  refine T1.call ?_
  simp (maxSteps := 2000000) only [↓avp, avq, ↓reduceIte, Nat.reduceAdd, Nat.reduceMul, Nat.reduceSub, Nat.reduceLT, Nat.reduceLeDiff, Nat.reduceEqDiff, Nat.reducePow, Nat.reduceMod, e1]
  refine T2.call ?_
  simp (maxSteps := 2000000) only [↓avp, avq, ↓reduceIte, Nat.reduceAdd, Nat.reduceMul, Nat.reduceSub, Nat.reduceLT, Nat.reduceLeDiff, Nat.reduceEqDiff, Nat.reducePow, Nat.reduceMod, e1, e2]
  refine ret_now ?_
  simp (maxSteps := 2000000) only [↓avp, avq, ↓reduceIte, Nat.reduceAdd, Nat.reduceMul, Nat.reduceSub, Nat.reduceLT, Nat.reduceLeDiff, Nat.reduceEqDiff, Nat.reducePow, Nat.reduceMod]
end Va
