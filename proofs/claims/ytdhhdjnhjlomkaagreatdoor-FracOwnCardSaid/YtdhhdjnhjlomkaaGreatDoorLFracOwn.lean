/- The law FracOwn on trees: what is told of a fraction is no way into it. -/
import Derived.Test.YtdhhdjnhjlomkaaGreatDoorFQ
import Derived.Test.YtdhhdjnhjlomkaaGreatDoorBG
set_option linter.unusedSimpArgs false
set_option linter.unusedVariables false
set_option maxRecDepth 100000
set_option maxHeartbeats 4000000
open Go Go.Avm
namespace Va
def ir_law1_FracOwn : IF := (.mk (.seq (.reg [sX 6 (.mov (.v (.bool false)))]) (.seq (.reg [sX 14 (.call n_law1_begun []), mX 7 14]) (.seq (.seq (.reg [mX 15 7, sX 16 (.not (.t 15))]) (.cond (.t 16) (.seq (.reg [sX 6 (.mov (.v (.bool false)))]) .ret) .skip)) (.seq (.reg [mX 18 0, mX 19 1, mX 20 2, sX 21 (.call n_law1_R [(.t 18), (.t 19), (.t 20)]), mX 17 21, sX 22 (.ext (.t 17) 0), sX 23 (.ext (.t 17) 1), sX 9 (.alloc t_ref1_Q [(.bool false), .nils, .nils]), mX 8 22, ⟨none, (.store 3 (.t 9) (.t 23)), none⟩]) (.seq (.reg [mX 24 8, sX 25 (.call n_frac_Frac_Text [(.t 24)]), mX 10 25]) (.seq (.reg [mX 27 8, sX 28 (.call n_frac_Frac_Parts [(.t 27)]), mX 26 28, sX 29 (.ext (.t 26) 0), sX 30 (.ext (.t 26) 1), sX 31 (.ext (.t 26) 2), mX 11 29, mX 12 30, mX 13 31]) (.seq (.reg [mX 32 12, mX 33 13, sX 34 (.call n_nat_Nat_Add [(.t 32), (.t 33)])]) (.seq (.reg [mX 35 12, sX 36 (.call n_nat_Nat_Shl [(.t 35), (.v (iv .i64 3))])]) (.seq (.reg [mX 37 8, mX 38 8, sX 39 (.call n_frac_Frac_Add [(.t 37), (.t 38)])]) (.seq (.reg [mX 40 8, sX 41 (.call n_frac_Frac_Neg [(.t 40)])]) (.seq (.reg [mX 42 8, sX 43 (.call n_frac_Frac_Floor [(.t 42)])]) (.seq (.reg [mX 44 8, sX 45 (.call n_frac_Frac_Text [(.t 44)]), mX 46 10, sX 47 (.bin .eql (.t 45) (.t 46)), mX 6 47]) .ret)))))))))))) [(.t 6)] 48)
theorem low_law1_FracOwn : lowF P n_law1_FracOwn = some ir_law1_FracOwn := by kernel_rfl
variable {G : Glob}
theorem FracOwn_px (hG : GOK G) (s t : List UInt8) (neg : Bool) (hs : s.length ≤ 9223372036854775807) (ht : t.length ≤ 9223372036854775807) : PX P G n_law1_FracOwn [.str s, .str t, .bool neg] (.bool true) := by
  refine PX_of_awp low_law1_FracOwn fol (by simp only [avmF, and_true]) (by simp only [avmF, and_true]) ?_
  have R := law1_R_px (G := G) s t neg hs ht
  obtain ⟨a1, a2⟩ := digS_ok s (n := 25) (by decide) (by decide)
  obtain ⟨c1, c2, c3⟩ := denS_ok t
  obtain ⟨e1, e2⟩ := small_dl a1 a2
  obtain ⟨e3, e4⟩ := small_dl c1 c2
  have hq : qb 25 (mkRat (sgn neg (num (digS s 25))) (num (denS t))) := qb_mk c3 e1 e3
  obtain ⟨q, hqe⟩ : ∃ q, q = mkRat (sgn neg (num (digS s 25))) (num (denS t)) := ⟨_, rfl⟩
  rw [← hqe] at R hq
  have T := frac_Text_px hG q (qb_mono hq (by decide))
  have Pt := frac_Parts_px (G := G) q
  obtain ⟨q1, q2⟩ := id hq
  have A := nat_Add_px (G := G) q.num.natAbs q.den (by omega) (by omega)
  have S := nat_Shl_px (G := G) q.num.natAbs ((3 : Nat) : Int) (by omega)
  have FA := frac_Add_gen (FV.mk (G := G) q) (FV.mk (G := G) q) (qb_mono hq (by decide)) (qb_mono hq (by decide))
  have FN := frac_Neg_gen (FV.mk (G := G) q) (by omega)
  obtain ⟨v, FF⟩ := frac_Floor_ex (G := G) q (qb_mono hq (by decide))
  have e := beq_txt (ratTxt q)
  simp only [ir_law1_FracOwn, sX, mX, initF, List.replicate, Nat.reduceAdd, Nat.reduceSub, iv, avmL]
  simp (maxSteps := 2000000) only [↓avp, avq, ↓reduceIte, Nat.reduceAdd, Nat.reduceMul, Nat.reduceSub, Nat.reduceLT, Nat.reduceLeDiff, Nat.reduceEqDiff, Nat.reducePow, Nat.reduceMod]
  refine (begun_px hG).call ?_
  simp (maxSteps := 2000000) only [↓avp, avq, ↓reduceIte, Nat.reduceAdd, Nat.reduceMul, Nat.reduceSub, Nat.reduceLT, Nat.reduceLeDiff, Nat.reduceEqDiff, Nat.reducePow, Nat.reduceMod]
  refine R.call ?_
  simp (maxSteps := 2000000) only [↓avp, avq, ↓reduceIte, Nat.reduceAdd, Nat.reduceMul, Nat.reduceSub, Nat.reduceLT, Nat.reduceLeDiff, Nat.reduceEqDiff, Nat.reducePow, Nat.reduceMod, avmU]
  refine T.call ?_
  simp (maxSteps := 2000000) only [↓avp, avq, ↓reduceIte, Nat.reduceAdd, Nat.reduceMul, Nat.reduceSub, Nat.reduceLT, Nat.reduceLeDiff, Nat.reduceEqDiff, Nat.reducePow, Nat.reduceMod]
  refine Pt.call ?_
  simp (maxSteps := 2000000) only [↓avp, avq, ↓reduceIte, Nat.reduceAdd, Nat.reduceMul, Nat.reduceSub, Nat.reduceLT, Nat.reduceLeDiff, Nat.reduceEqDiff, Nat.reducePow, Nat.reduceMod]
  refine A.call ?_
  simp (maxSteps := 2000000) only [↓avp, avq, ↓reduceIte, Nat.reduceAdd, Nat.reduceMul, Nat.reduceSub, Nat.reduceLT, Nat.reduceLeDiff, Nat.reduceEqDiff, Nat.reducePow, Nat.reduceMod]
  refine S.call ?_
  simp (maxSteps := 2000000) only [↓avp, avq, ↓reduceIte, Nat.reduceAdd, Nat.reduceMul, Nat.reduceSub, Nat.reduceLT, Nat.reduceLeDiff, Nat.reduceEqDiff, Nat.reducePow, Nat.reduceMod]
  refine FA.call ?_
  simp (maxSteps := 2000000) only [↓avp, avq, ↓reduceIte, Nat.reduceAdd, Nat.reduceMul, Nat.reduceSub, Nat.reduceLT, Nat.reduceLeDiff, Nat.reduceEqDiff, Nat.reducePow, Nat.reduceMod]
  refine FN.call ?_
  simp (maxSteps := 2000000) only [↓avp, avq, ↓reduceIte, Nat.reduceAdd, Nat.reduceMul, Nat.reduceSub, Nat.reduceLT, Nat.reduceLeDiff, Nat.reduceEqDiff, Nat.reducePow, Nat.reduceMod]
  refine FF.call ?_
  simp (maxSteps := 2000000) only [↓avp, avq, ↓reduceIte, Nat.reduceAdd, Nat.reduceMul, Nat.reduceSub, Nat.reduceLT, Nat.reduceLeDiff, Nat.reduceEqDiff, Nat.reducePow, Nat.reduceMod]
  refine T.call ?_
  simp (maxSteps := 2000000) only [↓avp, avq, ↓reduceIte, Nat.reduceAdd, Nat.reduceMul, Nat.reduceSub, Nat.reduceLT, Nat.reduceLeDiff, Nat.reduceEqDiff, Nat.reducePow, Nat.reduceMod, e]
  refine ret_now ?_
  simp (maxSteps := 2000000) only [↓avp, avq, ↓reduceIte, Nat.reduceAdd, Nat.reduceMul, Nat.reduceSub, Nat.reduceLT, Nat.reduceLeDiff, Nat.reduceEqDiff, Nat.reducePow, Nat.reduceMod]
end Va
