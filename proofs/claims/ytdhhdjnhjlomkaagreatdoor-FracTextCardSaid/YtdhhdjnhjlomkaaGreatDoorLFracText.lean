/- The law FracText on trees: any text is a fraction, its own, or none; of whole numbers. -/
import Derived.Test.YtdhhdjnhjlomkaaGreatDoorFQ
import Derived.Test.YtdhhdjnhjlomkaaGreatDoorFG
import Derived.Test.YtdhhdjnhjlomkaaGreatDoorBG
set_option linter.unusedSimpArgs false
set_option linter.unusedVariables false
set_option maxRecDepth 100000
set_option maxHeartbeats 4000000
open Go Go.Avm
namespace Va
attribute [local irreducible] ACallF FCallF
def ir_law1_FracText : IF := (.mk (.seq (.reg [sX 4 (.mov (.v (.bool false)))]) (.seq (.reg [sX 10 (.call n_law1_begun []), mX 5 10]) (.seq (.seq (.reg [mX 11 5, sX 12 (.not (.t 11))]) (.cond (.t 12) (.seq (.reg [sX 4 (.mov (.v (.bool false)))]) .ret) .skip)) (.seq (.reg [mX 13 0, sX 14 (.call n_law1_Text [(.t 13), (.v (iv .i64 60))]), mX 0 14]) (.seq (.reg [mX 16 0, sX 17 (.call n_frac_Get [(.t 16)]), mX 15 17, sX 18 (.ext (.t 15) 0), sX 19 (.ext (.t 15) 1), mX 6 18, mX 7 19]) (.seq (.reg [mX 21 0, sX 22 (.call n_ref1_Get [(.t 21)]), mX 20 22, sX 23 (.ext (.t 20) 0), sX 24 (.ext (.t 20) 1), sX 8 (.alloc t_ref1_Q [(.bool false), .nils, .nils]), ⟨none, (.store 3 (.t 8) (.t 23)), none⟩, mX 9 24]) (.seq (.reg [mX 25 7, mX 26 9, sX 27 (.eqb false (.t 25) (.t 26)), mX 28 27, ⟨(some 29), (.mov (.t 7)), (some (28, true))⟩, ⟨(some 30), (.mov (.t 29)), (some (28, true))⟩, ⟨(some 31), (.mov (.t 6)), (some (30, true))⟩, ⟨(some 32), (.call n_frac_Frac_Text [(.t 31)]), (some (30, true))⟩, ⟨(some 33), (.mov (.t 0)), (some (30, true))⟩, ⟨(some 34), (.bin .eql (.t 32) (.t 33)), (some (30, true))⟩, ⟨(some 35), (.pick (.t 30) (.t 34) (.v (.bool false))), (some (28, true))⟩, ⟨(some 36), (.mov (.t 35)), (some (28, true))⟩, ⟨(some 37), (.load (some 3) (.t 8)), (some (36, true))⟩, ⟨(some 38), (.call n_ref1_Q_Text [(.t 37)]), (some (36, true))⟩, ⟨(some 39), (.mov (.t 0)), (some (36, true))⟩, ⟨(some 40), (.bin .eql (.t 38) (.t 39)), (some (36, true))⟩, ⟨(some 41), (.pick (.t 36) (.t 40) (.v (.bool false))), (some (28, true))⟩, ⟨(some 42), (.mov (.t 41)), (some (28, true))⟩, ⟨(some 43), (.mov (.t 7)), (some (42, false))⟩, ⟨(some 44), (.not (.t 43)), (some (42, false))⟩, ⟨(some 45), (.mov (.t 44)), (some (42, false))⟩, ⟨(some 46), (.mov (.t 6)), (some (45, true))⟩, ⟨(some 47), (.eqpn false (.t 46)), (some (45, true))⟩, ⟨(some 48), (.pick (.t 45) (.t 47) (.v (.bool false))), (some (42, false))⟩, ⟨(some 49), (.pick (.t 42) (.v (.bool true)) (.t 48)), (some (28, true))⟩, sX 50 (.pick (.t 28) (.t 49) (.v (.bool false))), mX 51 50, ⟨(some 52), (.mov (.t 1)), (some (51, true))⟩, ⟨(some 53), (.call n_frac_Of [(.t 52)]), (some (51, true))⟩, ⟨(some 54), (.call n_frac_Frac_Text [(.t 53)]), (some (51, true))⟩, ⟨(some 55), (.mov (.t 1)), (some (51, true))⟩, ⟨(some 56), (.call n_ref1_Of [(.t 55)]), (some (51, true))⟩, ⟨(some 57), (.call n_ref1_Q_Text [(.t 56)]), (some (51, true))⟩, ⟨(some 58), (.bin .eql (.t 54) (.t 57)), (some (51, true))⟩, sX 59 (.pick (.t 51) (.t 58) (.v (.bool false))), mX 4 59]) .ret))))))) [(.t 4)] 60)
theorem low_law1_FracText : lowF P n_law1_FracText = some ir_law1_FracText := by kernel_rfl
variable {G : Glob}
theorem FracText_px (hG : GOK G) (s : List UInt8) (x : Int) (hs : s.length ≤ 9223372036854775807) (hx : -9223372036854775808 ≤ x ∧ x ≤ 9223372036854775807) : PX P G n_law1_FracText [.str s, .int .i64 x] (.bool true) := by
  refine PX_of_awp low_law1_FracText fol (by simp only [avmF, and_true]) (by simp only [avmF, and_true]) ?_
  have hT := law1_Text_px (G := G) s 60
  obtain ⟨t, ht⟩ : ∃ t, t = s.take 60 := ⟨_, rfl⟩
  rw [← ht] at hT
  have htl : t.length ≤ 60 := by rw [ht, List.length_take]; omega
  have G1 := frac_Get_px hG t (by omega)
  have G2 := ref_Get_px (G := G) t (by omega)
  have O1 := frac_Of_px (G := G) x hx
  have O2 := ref_Of_px (G := G) x hx
  have dx : x.natAbs < 10 ^ 20 := by omega
  have d1 : dl 4294967296 1 ≤ 1 := (dl_le_iff (by decide)).2 (by decide)
  have d2 : dl 10000 1 ≤ 1 := (dl_le_iff (by decide)).2 (by decide)
  have hq : qb 20 (x : Rat) := qb_int (dl_small dx) (by decide)
  have T1 := frac_Text_px hG (x : Rat) (qb_mono hq (by decide))
  have T2 := ref_QText_px (G := G) (decide (x < 0)) x.natAbs 1 (by decide) (by have := dlr dx; omega) (by omega)
  rw [qv_int] at T2
  have e1 := beq_txt (ratTxt (x : Rat))
  have n1 : (!true) = false := rfl
  have n2 : (!false) = true := rfl
  cases hq : getQ t with
  | some q =>
    obtain ⟨f1, f2, f3, f4⟩ := getQ_facts hq
    rw [fgetV, hq] at G1
    rw [rgetV, hq] at G2
    have T3 := frac_Text_px hG q (qb_mono f2 (by decide))
    have T4 := ref_QText_px (G := G) (decide (q.num < 0)) q.num.natAbs q.den q.den_nz (by omega) (by omega)
    rw [qv_self, f1] at T4
    rw [f1] at T3
    have e2 := beq_txt t
    simp only [ir_law1_FracText, sX, mX, initF, List.replicate, Nat.reduceAdd, Nat.reduceSub, iv, avmL]
    simp (maxSteps := 2000000) only [↓avp, ↓avmD, avq, ↓reduceIte, Nat.reduceAdd, Nat.reduceMul, Nat.reduceSub, Nat.reduceLT, Nat.reduceLeDiff, Nat.reduceEqDiff, Nat.reducePow, Nat.reduceMod]
    repeat ((first | refine (begun_px hG).call ?_ | refine hT.call ?_ | refine G1.call ?_ | refine G2.call ?_ | refine T3.call ?_); simp (maxSteps := 2000000) only [↓avp, ↓avmD, avq, ↓reduceIte, Nat.reduceAdd, Nat.reduceMul, Nat.reduceSub, Nat.reduceLT, Nat.reduceLeDiff, Nat.reduceEqDiff, Nat.reducePow, Nat.reduceMod, avmU, n1, n2, e2])
    have hrq : AV.agg (List.take 3 [AV.bool (decide (q.num < 0)), refV q.num.natAbs, refV q.den]) = refQ (decide (q.num < 0)) q.num.natAbs q.den := rfl
    rw [hrq]
    repeat ((first | refine T4.call ?_ | refine O1.call ?_ | refine T1.call ?_ | refine O2.call ?_ | refine T2.call ?_); simp (maxSteps := 2000000) only [↓avp, ↓avmD, avq, ↓reduceIte, Nat.reduceAdd, Nat.reduceMul, Nat.reduceSub, Nat.reduceLT, Nat.reduceLeDiff, Nat.reduceEqDiff, Nat.reducePow, Nat.reduceMod, e2, n1, n2, e1])
    refine ret_now ?_
    simp (maxSteps := 2000000) only [↓avp, ↓avmD, avq, ↓reduceIte, Nat.reduceAdd, Nat.reduceMul, Nat.reduceSub, Nat.reduceLT, Nat.reduceLeDiff, Nat.reduceEqDiff, Nat.reducePow, Nat.reduceMod]
  | none =>
    rw [fgetV, hq] at G1
    rw [rgetV, hq] at G2
    simp only [ir_law1_FracText, sX, mX, initF, List.replicate, Nat.reduceAdd, Nat.reduceSub, iv, avmL]
    simp (maxSteps := 2000000) only [↓avp, ↓avmD, avq, ↓reduceIte, Nat.reduceAdd, Nat.reduceMul, Nat.reduceSub, Nat.reduceLT, Nat.reduceLeDiff, Nat.reduceEqDiff, Nat.reducePow, Nat.reduceMod]
    repeat ((first | refine (begun_px hG).call ?_ | refine hT.call ?_ | refine G1.call ?_ | refine G2.call ?_ | refine O1.call ?_ | refine T1.call ?_ | refine O2.call ?_ | refine T2.call ?_); simp (maxSteps := 2000000) only [↓avp, ↓avmD, avq, ↓reduceIte, Nat.reduceAdd, Nat.reduceMul, Nat.reduceSub, Nat.reduceLT, Nat.reduceLeDiff, Nat.reduceEqDiff, Nat.reducePow, Nat.reduceMod, avmU, n1, n2, e1])
    refine ret_now ?_
    simp (maxSteps := 2000000) only [↓avp, ↓avmD, avq, ↓reduceIte, Nat.reduceAdd, Nat.reduceMul, Nat.reduceSub, Nat.reduceLT, Nat.reduceLeDiff, Nat.reduceEqDiff, Nat.reducePow, Nat.reduceMod]
end Va
