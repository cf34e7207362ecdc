/- The law NatText on trees: any text is a number, its own, or none; words, and back. -/
import Derived.Test.YtdhhdjnhjlomkaaGreatDoorTX
import Derived.Test.YtdhhdjnhjlomkaaGreatDoorBG
set_option linter.unusedSimpArgs false
set_option linter.unusedVariables false
set_option maxRecDepth 100000
set_option exponentiation.threshold 3000
set_option maxHeartbeats 4000000
open Go Go.Avm
namespace Va
def ir_law1_NatText : IF := (.mk (.seq (.reg [sX 4 (.mov (.v (.bool false)))]) (.seq (.reg [sX 15 (.call n_law1_begun []), mX 5 15]) (.seq (.seq (.reg [mX 16 5, sX 17 (.not (.t 16))]) (.cond (.t 17) (.seq (.reg [sX 4 (.mov (.v (.bool false)))]) .ret) .skip)) (.seq (.reg [mX 18 0, sX 19 (.call n_law1_Text [(.t 18), (.v (iv .i64 100))]), mX 0 19]) (.seq (.reg [mX 21 0, sX 22 (.call n_nat_Get [(.t 21)]), mX 20 22, sX 23 (.ext (.t 20) 0), sX 24 (.ext (.t 20) 1), mX 6 23, mX 7 24]) (.seq (.reg [mX 26 0, sX 27 (.call n_ref1_GetN [(.t 26)]), mX 25 27, sX 28 (.ext (.t 25) 0), sX 29 (.ext (.t 25) 1), mX 8 28, mX 9 29]) (.seq (.seq (.reg [mX 30 7, mX 31 9, sX 32 (.eqb true (.t 30) (.t 31)), mX 33 32, ⟨(some 34), (.mov (.t 7)), (some (33, false))⟩, ⟨(some 35), (.mov (.t 34)), (some (33, false))⟩, ⟨(some 36), (.mov (.t 6)), (some (35, true))⟩, ⟨(some 37), (.call n_nat_Nat_Text [(.t 36)]), (some (35, true))⟩, ⟨(some 38), (.mov (.t 0)), (some (35, true))⟩, ⟨(some 39), (.bin .neq (.t 37) (.t 38)), (some (35, true))⟩, ⟨(some 40), (.mov (.t 39)), (some (35, true))⟩, ⟨(some 41), (.mov (.t 8)), (some (40, false))⟩, ⟨(some 42), (.call n_ref1_N_Text [(.t 41)]), (some (40, false))⟩, ⟨(some 43), (.mov (.t 0)), (some (40, false))⟩, ⟨(some 44), (.bin .neq (.t 42) (.t 43)), (some (40, false))⟩, ⟨(some 45), (.pick (.t 40) (.v (.bool true)) (.t 44)), (some (35, true))⟩, ⟨(some 46), (.pick (.t 35) (.t 45) (.v (.bool false))), (some (33, false))⟩, sX 47 (.pick (.t 33) (.v (.bool true)) (.t 46)), mX 48 47, ⟨(some 49), (.mov (.t 7)), (some (48, false))⟩, ⟨(some 50), (.not (.t 49)), (some (48, false))⟩, ⟨(some 51), (.mov (.t 50)), (some (48, false))⟩, ⟨(some 52), (.mov (.t 6)), (some (51, true))⟩, ⟨(some 53), (.eqpn true (.t 52)), (some (51, true))⟩, ⟨(some 54), (.pick (.t 51) (.t 53) (.v (.bool false))), (some (48, false))⟩, sX 55 (.pick (.t 48) (.v (.bool true)) (.t 54))]) (.cond (.t 55) (.seq (.reg [sX 4 (.mov (.v (.bool false)))]) .ret) .skip)) (.seq (.reg [mX 56 1, sX 57 (.call n_nat_Of [(.t 56)]), mX 10 57]) (.seq (.reg [mX 59 10, sX 60 (.call n_nat_Nat_Word [(.t 59)]), mX 58 60, sX 61 (.ext (.t 58) 0), sX 62 (.ext (.t 58) 1), mX 11 61, mX 12 62]) (.seq (.reg [mX 64 10, sX 65 (.call n_nat_Of [(.v (iv .u64 18446744073709551615))]), sX 66 (.call n_nat_Nat_Add [(.t 64), (.t 65)]), sX 67 (.call n_nat_Nat_Word [(.t 66)]), mX 63 67, sX 68 (.ext (.t 63) 0), sX 69 (.ext (.t 63) 1), mX 13 68, mX 14 69]) (.seq (.reg [mX 70 12, mX 71 70, ⟨(some 72), (.mov (.t 11)), (some (71, true))⟩, ⟨(some 73), (.mov (.t 1)), (some (71, true))⟩, ⟨(some 74), (.bin .eql (.t 72) (.t 73)), (some (71, true))⟩, sX 75 (.pick (.t 71) (.t 74) (.v (.bool false))), mX 76 75, ⟨(some 77), (.mov (.t 14)), (some (76, true))⟩, ⟨(some 78), (.mov (.t 1)), (some (76, true))⟩, ⟨(some 79), (.bin .eql (.t 78) (.v (iv .u64 0))), (some (76, true))⟩, ⟨(some 80), (.eqb false (.t 77) (.t 79)), (some (76, true))⟩, sX 81 (.pick (.t 76) (.t 80) (.v (.bool false))), mX 82 81, ⟨(some 83), (.mov (.t 10)), (some (82, true))⟩, ⟨(some 84), (.call n_nat_Nat_Text [(.t 83)]), (some (82, true))⟩, ⟨(some 85), (.mov (.t 1)), (some (82, true))⟩, ⟨(some 86), (.call n_ref1_OfU [(.t 85)]), (some (82, true))⟩, ⟨(some 87), (.call n_ref1_N_Text [(.t 86)]), (some (82, true))⟩, ⟨(some 88), (.bin .eql (.t 84) (.t 87)), (some (82, true))⟩, sX 89 (.pick (.t 82) (.t 88) (.v (.bool false))), mX 4 89]) .ret))))))))))) [(.t 4)] 90)
theorem low_law1_NatText : lowF P n_law1_NatText = some ir_law1_NatText := by kernel_rfl
variable {G : Glob}
theorem okN_facts {s : List UInt8} (h : okN s = true) : txt (num s) = s ∧ num s < 10 ^ 2000 := by
  simp only [okN, Bool.and_eq_true, decide_eq_true_iff, Bool.not_eq_true', Bool.and_eq_false_iff, decide_eq_false_iff_not] at h
  obtain ⟨⟨⟨h1, h2⟩, h3⟩, ha⟩ := h
  refine ⟨txt_num h1 (fun hl => ?_) ha, Nat.lt_of_lt_of_le (num_lt ha) (Nat.pow_le_pow_right (by decide) h2)⟩
  rcases h3 with h3 | h3
  · exact absurd hl h3
  · exact h3
theorem NatText_px (hG : GOK G) (s : List UInt8) (u : Nat) (hs : s.length ≤ 9223372036854775807) (hu : u < 18446744073709551616) : PX P G n_law1_NatText [.str s, .int .u64 u] (.bool true) := by
  refine PX_of_awp low_law1_NatText fol (by simp only [avmF, and_true]) (by simp only [avmF, and_true]) ?_
  have hT := law1_Text_px (G := G) s 100
  obtain ⟨t, ht⟩ : ∃ t, t = s.take 100 := ⟨_, rfl⟩
  rw [← ht] at hT
  have htl : t.length ≤ 100 := by rw [ht, List.length_take]; omega
  have hR := ref_GetN_px (G := G) t (by omega)
  have O1 := nat_Of_px (G := G) u hu
  have du : dl 4294967296 u ≤ 2 := (dl_le_iff (by decide)).2 hu
  have W1 := nat_Word_px (G := G) u (by omega)
  rw [if_pos hu] at W1
  have O2 := nat_Of_px (G := G) 18446744073709551615 (by decide)
  have dm : dl 4294967296 18446744073709551615 ≤ 2 := (dl_le_iff (by decide)).2 (by decide)
  have A := nat_Add_px (G := G) u 18446744073709551615 (by omega) (by omega)
  have dA := dl_add (B := 4294967296) (by decide) u 18446744073709551615
  have W2 : PX P G n_nat_Nat_Word [natV (u + 18446744073709551615)] (.tup [.int .u64 (((if u = 0 then 18446744073709551615 else 0 : Nat)) : Int), .bool (decide (u = 0))]) := by
    have h := nat_Word_px (G := G) (u + 18446744073709551615) (by omega)
    by_cases h0 : u = 0
    · subst h0
      exact h
    · rw [if_neg (by omega)] at h
      rw [if_neg h0, decide_eq_false h0]
      exact h
  have T1 := nat_Text_px hG u (by omega)
  have OU := ref_OfU_px (G := G) u hu
  have du2 : dl 10000 u ≤ 5 := (dl_le_iff (by decide)).2 (Nat.lt_of_lt_of_le hu (by decide))
  have T2 := ref_Text_px (G := G) u (by omega)
  have e2 := beq_txt (txt u)
  have ee : (decide (u = 0) == decide (u = 0)) = true := by simp
  have n2 : (!false) = true := rfl
  have n1 : (!true) = false := rfl
  cases ho : okN t with
  | true =>
    obtain ⟨k1, k2⟩ := okN_facts ho
    have hG1 := nat_Get_yes (G := G) t ho
    rw [ho, if_pos rfl] at hR
    have T3 := nat_Text_px hG (num t) (by have := dl_small k2; omega)
    have T4 := ref_Text_px (G := G) (num t) (by have := dlr k2; omega)
    rw [k1] at T3 T4
    have e1 := beq_txt t
    simp only [ir_law1_NatText, sX, mX, initF, List.replicate, Nat.reduceAdd, Nat.reduceSub, iv, avmL]
    simp (maxSteps := 2000000) only [↓avp, avq, ↓reduceIte, Nat.reduceAdd, Nat.reduceMul, Nat.reduceSub, Nat.reduceLT, Nat.reduceLeDiff, Nat.reduceEqDiff, Nat.reducePow, Nat.reduceMod]
    refine (begun_px hG).call ?_
    simp (maxSteps := 2000000) only [↓avp, avq, ↓reduceIte, Nat.reduceAdd, Nat.reduceMul, Nat.reduceSub, Nat.reduceLT, Nat.reduceLeDiff, Nat.reduceEqDiff, Nat.reducePow, Nat.reduceMod]
    refine hT.call ?_
    simp (maxSteps := 2000000) only [↓avp, avq, ↓reduceIte, Nat.reduceAdd, Nat.reduceMul, Nat.reduceSub, Nat.reduceLT, Nat.reduceLeDiff, Nat.reduceEqDiff, Nat.reducePow, Nat.reduceMod]
    refine hG1.call ?_
    simp (maxSteps := 2000000) only [↓avp, avq, ↓reduceIte, Nat.reduceAdd, Nat.reduceMul, Nat.reduceSub, Nat.reduceLT, Nat.reduceLeDiff, Nat.reduceEqDiff, Nat.reducePow, Nat.reduceMod]
    refine hR.call ?_
    simp (maxSteps := 2000000) only [↓avp, avq, ↓reduceIte, Nat.reduceAdd, Nat.reduceMul, Nat.reduceSub, Nat.reduceLT, Nat.reduceLeDiff, Nat.reduceEqDiff, Nat.reducePow, Nat.reduceMod]
    refine T3.call ?_
    simp (maxSteps := 2000000) only [↓avp, avq, ↓reduceIte, Nat.reduceAdd, Nat.reduceMul, Nat.reduceSub, Nat.reduceLT, Nat.reduceLeDiff, Nat.reduceEqDiff, Nat.reducePow, Nat.reduceMod, e1, n1]
    refine T4.call ?_
    simp (maxSteps := 2000000) only [↓avp, avq, ↓reduceIte, Nat.reduceAdd, Nat.reduceMul, Nat.reduceSub, Nat.reduceLT, Nat.reduceLeDiff, Nat.reduceEqDiff, Nat.reducePow, Nat.reduceMod, e1, n1]
    refine O1.call ?_
    simp (maxSteps := 2000000) only [↓avp, avq, ↓reduceIte, Nat.reduceAdd, Nat.reduceMul, Nat.reduceSub, Nat.reduceLT, Nat.reduceLeDiff, Nat.reduceEqDiff, Nat.reducePow, Nat.reduceMod]
    refine W1.call ?_
    simp (maxSteps := 2000000) only [↓avp, avq, ↓reduceIte, Nat.reduceAdd, Nat.reduceMul, Nat.reduceSub, Nat.reduceLT, Nat.reduceLeDiff, Nat.reduceEqDiff, Nat.reducePow, Nat.reduceMod]
    refine O2.call ?_
    simp (maxSteps := 2000000) only [↓avp, avq, ↓reduceIte, Nat.reduceAdd, Nat.reduceMul, Nat.reduceSub, Nat.reduceLT, Nat.reduceLeDiff, Nat.reduceEqDiff, Nat.reducePow, Nat.reduceMod]
    refine A.call ?_
    simp (maxSteps := 2000000) only [↓avp, avq, ↓reduceIte, Nat.reduceAdd, Nat.reduceMul, Nat.reduceSub, Nat.reduceLT, Nat.reduceLeDiff, Nat.reduceEqDiff, Nat.reducePow, Nat.reduceMod]
    refine W2.call ?_
    simp (maxSteps := 2000000) only [↓avp, avq, ↓reduceIte, Nat.reduceAdd, Nat.reduceMul, Nat.reduceSub, Nat.reduceLT, Nat.reduceLeDiff, Nat.reduceEqDiff, Nat.reducePow, Nat.reduceMod, ee]
    refine T1.call ?_
    simp (maxSteps := 2000000) only [↓avp, avq, ↓reduceIte, Nat.reduceAdd, Nat.reduceMul, Nat.reduceSub, Nat.reduceLT, Nat.reduceLeDiff, Nat.reduceEqDiff, Nat.reducePow, Nat.reduceMod]
    refine OU.call ?_
    simp (maxSteps := 2000000) only [↓avp, avq, ↓reduceIte, Nat.reduceAdd, Nat.reduceMul, Nat.reduceSub, Nat.reduceLT, Nat.reduceLeDiff, Nat.reduceEqDiff, Nat.reducePow, Nat.reduceMod]
    refine T2.call ?_
    simp (maxSteps := 2000000) only [↓avp, avq, ↓reduceIte, Nat.reduceAdd, Nat.reduceMul, Nat.reduceSub, Nat.reduceLT, Nat.reduceLeDiff, Nat.reduceEqDiff, Nat.reducePow, Nat.reduceMod, e2]
    refine ret_now ?_
    simp (maxSteps := 2000000) only [↓avp, avq, ↓reduceIte, Nat.reduceAdd, Nat.reduceMul, Nat.reduceSub, Nat.reduceLT, Nat.reduceLeDiff, Nat.reduceEqDiff, Nat.reducePow, Nat.reduceMod]
  | false =>
    have hG1 := nat_Get_no (G := G) t (by omega) ho
    rw [ho, if_neg (by decide)] at hR
    simp only [ir_law1_NatText, sX, mX, initF, List.replicate, Nat.reduceAdd, Nat.reduceSub, iv, avmL]
    simp (maxSteps := 2000000) only [↓avp, avq, ↓reduceIte, Nat.reduceAdd, Nat.reduceMul, Nat.reduceSub, Nat.reduceLT, Nat.reduceLeDiff, Nat.reduceEqDiff, Nat.reducePow, Nat.reduceMod]
    refine (begun_px hG).call ?_
    simp (maxSteps := 2000000) only [↓avp, avq, ↓reduceIte, Nat.reduceAdd, Nat.reduceMul, Nat.reduceSub, Nat.reduceLT, Nat.reduceLeDiff, Nat.reduceEqDiff, Nat.reducePow, Nat.reduceMod]
    refine hT.call ?_
    simp (maxSteps := 2000000) only [↓avp, avq, ↓reduceIte, Nat.reduceAdd, Nat.reduceMul, Nat.reduceSub, Nat.reduceLT, Nat.reduceLeDiff, Nat.reduceEqDiff, Nat.reducePow, Nat.reduceMod]
    refine hG1.call ?_
    simp (maxSteps := 2000000) only [↓avp, avq, ↓reduceIte, Nat.reduceAdd, Nat.reduceMul, Nat.reduceSub, Nat.reduceLT, Nat.reduceLeDiff, Nat.reduceEqDiff, Nat.reducePow, Nat.reduceMod]
    refine hR.call ?_
    simp (maxSteps := 2000000) only [↓avp, avq, ↓reduceIte, Nat.reduceAdd, Nat.reduceMul, Nat.reduceSub, Nat.reduceLT, Nat.reduceLeDiff, Nat.reduceEqDiff, Nat.reducePow, Nat.reduceMod, n2]
    refine O1.call ?_
    simp (maxSteps := 2000000) only [↓avp, avq, ↓reduceIte, Nat.reduceAdd, Nat.reduceMul, Nat.reduceSub, Nat.reduceLT, Nat.reduceLeDiff, Nat.reduceEqDiff, Nat.reducePow, Nat.reduceMod]
    refine W1.call ?_
    simp (maxSteps := 2000000) only [↓avp, avq, ↓reduceIte, Nat.reduceAdd, Nat.reduceMul, Nat.reduceSub, Nat.reduceLT, Nat.reduceLeDiff, Nat.reduceEqDiff, Nat.reducePow, Nat.reduceMod]
    refine O2.call ?_
    simp (maxSteps := 2000000) only [↓avp, avq, ↓reduceIte, Nat.reduceAdd, Nat.reduceMul, Nat.reduceSub, Nat.reduceLT, Nat.reduceLeDiff, Nat.reduceEqDiff, Nat.reducePow, Nat.reduceMod]
    refine A.call ?_
    simp (maxSteps := 2000000) only [↓avp, avq, ↓reduceIte, Nat.reduceAdd, Nat.reduceMul, Nat.reduceSub, Nat.reduceLT, Nat.reduceLeDiff, Nat.reduceEqDiff, Nat.reducePow, Nat.reduceMod]
    refine W2.call ?_
    simp (maxSteps := 2000000) only [↓avp, avq, ↓reduceIte, Nat.reduceAdd, Nat.reduceMul, Nat.reduceSub, Nat.reduceLT, Nat.reduceLeDiff, Nat.reduceEqDiff, Nat.reducePow, Nat.reduceMod, ee]
    refine T1.call ?_
    simp (maxSteps := 2000000) only [↓avp, avq, ↓reduceIte, Nat.reduceAdd, Nat.reduceMul, Nat.reduceSub, Nat.reduceLT, Nat.reduceLeDiff, Nat.reduceEqDiff, Nat.reducePow, Nat.reduceMod]
    refine OU.call ?_
    simp (maxSteps := 2000000) only [↓avp, avq, ↓reduceIte, Nat.reduceAdd, Nat.reduceMul, Nat.reduceSub, Nat.reduceLT, Nat.reduceLeDiff, Nat.reduceEqDiff, Nat.reducePow, Nat.reduceMod]
    refine T2.call ?_
    simp (maxSteps := 2000000) only [↓avp, avq, ↓reduceIte, Nat.reduceAdd, Nat.reduceMul, Nat.reduceSub, Nat.reduceLT, Nat.reduceLeDiff, Nat.reduceEqDiff, Nat.reducePow, Nat.reduceMod, e2]
    refine ret_now ?_
    simp (maxSteps := 2000000) only [↓avp, avq, ↓reduceIte, Nat.reduceAdd, Nat.reduceMul, Nat.reduceSub, Nat.reduceLT, Nat.reduceLeDiff, Nat.reduceEqDiff, Nat.reducePow, Nat.reduceMod]
end Va
