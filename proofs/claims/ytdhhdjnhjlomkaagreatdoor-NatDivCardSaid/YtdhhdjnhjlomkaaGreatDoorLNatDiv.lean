/- The law NatDiv on trees: quotients of numbers of high words, where a first guess is too great. -/
import Derived.Test.YtdhhdjnhjlomkaaGreatDoorTX
import Derived.Test.YtdhhdjnhjlomkaaGreatDoorBG
set_option linter.unusedSimpArgs false
set_option linter.unusedVariables false
set_option maxRecDepth 100000
set_option exponentiation.threshold 3000
set_option maxHeartbeats 4000000
open Go Go.Avm
namespace Va
def ir_law1_NatDiv : IF := (.mk (.seq (.reg [sX 8 (.mov (.v (.bool false)))]) (.seq (.reg [sX 24 (.call n_law1_begun []), mX 9 24]) (.seq (.seq (.reg [mX 25 9, sX 26 (.not (.t 25))]) (.cond (.t 26) (.seq (.reg [sX 8 (.mov (.v (.bool false)))]) .ret) .skip)) (.seq (.reg [mX 27 2, sX 28 (.bin .rem (.t 27) (.v (iv .i64 4))), sX 29 (.bin .add (.t 28) (.v (iv .i64 4))), sX 30 (.bin .rem (.t 29) (.v (iv .i64 4))), sX 31 (.bin .add (.v (iv .i64 1)) (.t 30)), mX 32 3, sX 33 (.bin .rem (.t 32) (.v (iv .i64 4))), sX 34 (.bin .add (.t 33) (.v (iv .i64 4))), sX 35 (.bin .rem (.t 34) (.v (iv .i64 4))), mX 2 31, mX 3 35]) (.seq (.reg [mX 36 0, sX 37 (.bin .shr (.t 36) (.v (iv .u64 1))), sX 38 (.bin .add (.v (iv .u64 9223372036854775808)) (.t 37)), sX 39 (.call n_nat_Of [(.t 38)]), mX 10 39]) (.seq (.seq (.reg [sX 11 (.mov (.v (iv .i64 0)))]) (.block 0 (.loop (.seq (.seq (.reg [mX 40 11, mX 41 2, sX 42 (.bin .lss (.t 40) (.t 41))]) (.cond (.t 42) .skip (.exit 0))) (.seq (.block 1 (.reg [mX 45 10, sX 46 (.call n_nat_Nat_Shl [(.t 45), (.v (iv .i64 64))]), mX 47 1, sX 48 (.call n_nat_Of [(.t 47)]), sX 49 (.call n_nat_Nat_Add [(.t 46), (.t 48)]), mX 10 49])) (.reg [mX 43 11, sX 44 (.bin .add (.t 43) (.v (iv .i64 1))), mX 11 44])))))) (.seq (.reg [mX 50 10, mX 51 3, sX 52 (.bin .add (.t 51) (.v (iv .i64 1))), sX 53 (.bin .mul (.v (iv .i64 64)) (.t 52)), sX 54 (.call n_nat_Nat_Shl [(.t 50), (.t 53)]), mX 12 54]) (.seq (.seq (.reg [mX 56 12, mX 57 0, sX 58 (.bin .add (.v (iv .u64 1)) (.t 57)), sX 59 (.call n_nat_Of [(.t 58)]), sX 60 (.call n_nat_Nat_Less [(.t 56), (.t 59)]), mX 55 60, sX 61 (.ext (.t 55) 0), sX 62 (.ext (.t 55) 1), mX 13 61, mX 14 62]) (.seq (.reg [mX 63 14]) (.cond (.t 63) (.reg [mX 64 13, mX 12 64]) .skip))) (.seq (.reg [mX 66 12, mX 67 10, sX 68 (.call n_nat_Nat_Div [(.t 66), (.t 67)]), mX 65 68, sX 69 (.ext (.t 65) 0), sX 70 (.ext (.t 65) 1), sX 71 (.ext (.t 65) 2), mX 15 69, mX 16 70, mX 17 71]) (.seq (.reg [mX 73 12, sX 74 (.call n_nat_Nat_Text [(.t 73)]), sX 75 (.call n_ref1_GetN [(.t 74)]), mX 72 75, sX 76 (.ext (.t 72) 0), sX 77 (.ext (.t 72) 1), mX 18 76, mX 19 77]) (.seq (.reg [mX 79 10, sX 80 (.call n_nat_Nat_Text [(.t 79)]), sX 81 (.call n_ref1_GetN [(.t 80)]), mX 78 81, sX 82 (.ext (.t 78) 0), sX 83 (.ext (.t 78) 1), mX 20 82, mX 21 83]) (.seq (.reg [mX 85 18, mX 86 20, sX 87 (.call n_ref1_Div [(.t 85), (.t 86)]), mX 84 87, sX 88 (.ext (.t 84) 0), sX 89 (.ext (.t 84) 1), mX 22 88, mX 23 89]) (.seq (.reg [mX 90 17, mX 91 90, ⟨(some 92), (.mov (.t 15)), (some (91, true))⟩, ⟨(some 93), (.call n_nat_Nat_Text [(.t 92)]), (some (91, true))⟩, ⟨(some 94), (.mov (.t 22)), (some (91, true))⟩, ⟨(some 95), (.call n_ref1_N_Text [(.t 94)]), (some (91, true))⟩, ⟨(some 96), (.bin .eql (.t 93) (.t 95)), (some (91, true))⟩, sX 97 (.pick (.t 91) (.t 96) (.v (.bool false))), mX 98 97, ⟨(some 99), (.mov (.t 16)), (some (98, true))⟩, ⟨(some 100), (.call n_nat_Nat_Text [(.t 99)]), (some (98, true))⟩, ⟨(some 101), (.mov (.t 23)), (some (98, true))⟩, ⟨(some 102), (.call n_ref1_N_Text [(.t 101)]), (some (98, true))⟩, ⟨(some 103), (.bin .eql (.t 100) (.t 102)), (some (98, true))⟩, sX 104 (.pick (.t 98) (.t 103) (.v (.bool false))), mX 8 104]) .ret))))))))))))) [(.t 8)] 105)
theorem low_law1_NatDiv : lowF P n_law1_NatDiv = some ir_law1_NatDiv := by kernel_rfl
variable {G : Glob}
theorem NatDiv_px (hG : GOK G) (x y : Nat) (k j : Int) (hx : x < 18446744073709551616) (hy : y < 18446744073709551616) (hk : -9223372036854775808 ≤ k ∧ k ≤ 9223372036854775807) (hj : -9223372036854775808 ≤ j ∧ j ≤ 9223372036854775807) : PX P G n_law1_NatDiv [.int .u64 x, .int .u64 y, .int .i64 k, .int .i64 j] (.bool true) := by
  refine PX_of_awp low_law1_NatDiv fol (by simp only [avmF, and_true]) (by simp only [avmF, and_true]) ?_
  obtain ⟨m, hm, hm2⟩ := wrapmod k 4 (by decide) (by decide)
  obtain ⟨n, hn, hn2⟩ := wrapmod j 4 (by decide) (by decide)
  have w1 : IntKind.i64.wrap ((1 + m : Nat) : Int) = ((1 + m : Nat) : Int) := wi64 (by omega)
  have m1 : x / 2 % 18446744073709551616 = x / 2 := m64 (by omega)
  have m2 : (9223372036854775808 + x / 2) % 18446744073709551616 = 9223372036854775808 + x / 2 := m64 (by omega)
  have O1 := nat_Of_px (G := G) (9223372036854775808 + x / 2) (by omega)
  have p64 : (18446744073709551616 : Nat) = 2 ^ 64 := rfl
  simp only [ir_law1_NatDiv, sX, mX, initF, List.replicate, Nat.reduceAdd, Nat.reduceSub, iv, avmL]
  simp (maxSteps := 2000000) only [↓avp, avq, ↓reduceIte, Nat.reduceAdd, Nat.reduceMul, Nat.reduceSub, Nat.reduceLT, Nat.reduceLeDiff, Nat.reduceEqDiff, Nat.reducePow, Nat.reduceMod]
  refine (begun_px hG).call ?_
  simp (maxSteps := 2000000) only [↓avp, avq, ↓reduceIte, Nat.reduceAdd, Nat.reduceMul, Nat.reduceSub, Nat.reduceLT, Nat.reduceLeDiff, Nat.reduceEqDiff, Nat.reducePow, Nat.reduceMod, hm, hn, w1, m1, m2, Nat.min_eq_left, Nat.pow_one]
  refine O1.call ?_
  simp (maxSteps := 2000000) only [↓avp, avq, ↓reduceIte, Nat.reduceAdd, Nat.reduceMul, Nat.reduceSub, Nat.reduceLT, Nat.reduceLeDiff, Nat.reduceEqDiff, Nat.reducePow, Nat.reduceMod]
  refine loop_of (fun c : Nat × Nat => ⟨[.int .u64 x,.int .u64 y,.int .i64 ((1 + m : Nat) : Int),.int .i64 n,J,J,J,J,J,J,natV c.2,.int .i64 c.1,J,J,J,J,J,J,J,J,J,J,J,J,J,J,J,J,J,J,J,J,J,J,J,J,J,J,J,J,J,J,J,J,J,J,J,J,J,J,J,J,J,J,J,J,J,J,J,J,J,J,J,J,J,J,J,J,J,J,J,J,J,J,J,J,J,J,J,J,J,J,J,J,J,J,J,J,J,J,J,J,J,J,J,J,J,J,J,J,J,J,J,J,J], []⟩)
    (fun c => c.1 ≤ 1 + m ∧ c.2 < 2 ^ (64 * (c.1 + 1)) ∧ 9223372036854775808 ≤ c.2) (fun c => 1 + m - c.1) (0, 9223372036854775808 + x / 2) [0, 1, 2, 3, 10, 11] rfl ⟨Nat.zero_le _, by simp only; rw [Nat.zero_add, Nat.mul_one, ← p64]; omega, by simp only; omega⟩ ?_
  rintro ⟨i, b⟩ ⟨hi, hb, hb2⟩
  simp only at hi hb hb2
  by_cases h0 : i < 1 + m
  · have hbp : b < 10 ^ (64 * (i + 1)) := two_ten hb
    have db := dl_small hbp
    have S := nat_Shl_px (G := G) b ((64 : Nat) : Int) (by omega)
    rw [shN_up _ 64 (by decide)] at S
    have O := nat_Of_px (G := G) y hy
    have du := dl_up b 64
    have dy : dl 4294967296 y ≤ 2 := (dl_le_iff (by decide)).2 hy
    have A := nat_Add_px (G := G) (b * 2 ^ 64) y (by omega) (by omega)
    have w2 : IntKind.i64.wrap ((i + 1 : Nat) : Int) = ((i + 1 : Nat) : Int) := wi64 (by omega)
    simp (maxSteps := 2000000) only [↓avp, avq, ↓reduceIte, Nat.reduceAdd, Nat.reduceMul, Nat.reduceSub, Nat.reduceLT, Nat.reduceLeDiff, Nat.reduceEqDiff, Nat.reducePow, Nat.reduceMod, h0]
    refine S.call ?_
    simp (maxSteps := 2000000) only [↓avp, avq, ↓reduceIte, Nat.reduceAdd, Nat.reduceMul, Nat.reduceSub, Nat.reduceLT, Nat.reduceLeDiff, Nat.reduceEqDiff, Nat.reducePow, Nat.reduceMod]
    refine O.call ?_
    simp (maxSteps := 2000000) only [↓avp, avq, ↓reduceIte, Nat.reduceAdd, Nat.reduceMul, Nat.reduceSub, Nat.reduceLT, Nat.reduceLeDiff, Nat.reduceEqDiff, Nat.reducePow, Nat.reduceMod]
    refine A.call ?_
    simp (maxSteps := 2000000) only [↓avp, avq, ↓reduceIte, Nat.reduceAdd, Nat.reduceMul, Nat.reduceSub, Nat.reduceLT, Nat.reduceLeDiff, Nat.reduceEqDiff, Nat.reducePow, Nat.reduceMod, w2]
    refine LN.next (i + 1, b * 2 ^ 64 + y) [0, 1, 2, 3, 10, 11] ⟨by simp only; omega, ?_, ?_⟩ (by simp only; omega) rfl
    · simp only
      rw [show 64 * (i + 1 + 1) = 64 * (i + 1) + 64 by omega, Nat.pow_add]
      have : (b + 1) * 2 ^ 64 ≤ 2 ^ (64 * (i + 1)) * 2 ^ 64 := Nat.mul_le_mul_right _ hb
      rw [Nat.add_mul, Nat.one_mul] at this
      omega
    · simp only
      have : b * 1 ≤ b * 2 ^ 64 := Nat.mul_le_mul_left _ (Nat.pow_pos (by decide))
      omega
  · have hi4 : i ≤ 4 := by omega
    clear O1 m1 m2
    have hb5 : b < 2 ^ 320 := Nat.lt_of_lt_of_le hb (Nat.pow_le_pow_right (by decide) (by omega))
    obtain ⟨q, hq⟩ : ∃ q, q = 64 * (n + 1) := ⟨_, rfl⟩
    have hq2 : q ≤ 256 := by omega
    have hq3 : 64 ≤ q := by omega
    have w3 : IntKind.i64.wrap ((n + 1 : Nat) : Int) = ((n + 1 : Nat) : Int) := wi64 (by omega)
    have w4 : IntKind.i64.wrap ((64 * (n + 1) : Nat) : Int) = ((q : Nat) : Int) := by rw [← hq]; exact wi64 (by omega)
    have db := dl_small (two_ten hb5)
    have dbr := dlr (two_ten hb5)
    have S := nat_Shl_px (G := G) b ((q : Nat) : Int) (by omega)
    rw [shN_up _ q (by omega)] at S
    have hA1 : b * 2 ^ q < 2 ^ 576 := by
      have h1 : 2 ^ q ≤ 2 ^ 256 := Nat.pow_le_pow_right (by decide) hq2
      have h2 : b * 2 ^ q < 2 ^ 320 * 2 ^ 256 := Nat.lt_of_lt_of_le (Nat.mul_lt_mul_of_pos_right hb5 (Nat.pow_pos (by decide))) (Nat.mul_le_mul_left _ h1)
      rw [← Nat.pow_add] at h2
      exact h2
    have hA2 : 18446744073709551616 ≤ b * 2 ^ q := by
      have h1 : 2 ^ 64 ≤ 2 ^ q := Nat.pow_le_pow_right (by decide) hq3
      rw [← p64] at h1
      have h2 : 1 * 2 ^ q ≤ b * 2 ^ q := Nat.mul_le_mul_right _ (by omega)
      omega
    obtain ⟨A, hA⟩ : ∃ A, A = b * 2 ^ q := ⟨_, rfl⟩
    rw [← hA] at S hA1 hA2
    obtain ⟨u, hu⟩ : ∃ u, u = (1 + x) % 18446744073709551616 := ⟨_, rfl⟩
    have hu2 : u < 18446744073709551616 := by rw [hu]; exact Nat.mod_lt _ (by decide)
    have O := nat_Of_px (G := G) u hu2
    have du : dl 4294967296 u ≤ 2 := (dl_le_iff (by decide)).2 hu2
    have dA := dl_small (two_ten hA1)
    have L := nat_Less_px (G := G) A u (by omega) (by omega) (by omega)
    obtain ⟨C, hC⟩ : ∃ C, C = A - u := ⟨_, rfl⟩
    rw [← hC] at L
    have hC1 : C < 2 ^ 576 := by omega
    have hCp := two_ten hC1
    have hbp := two_ten hb5
    have dC := dl_small hCp
    have dCr := dlr hCp
    have D := nat_Div_px (G := G) C b (by omega) (by omega) (by omega)
    have T1 := nat_Text_px hG C (by omega)
    have T2 := nat_Text_px hG b (by omega)
    have l1 := txt_len hCp (by decide)
    have l2 := txt_len hbp (by decide)
    have R1 := ref_GetN_px (G := G) (txt C) (by omega)
    have R2 := ref_GetN_px (G := G) (txt b) (by omega)
    rw [okN_txt (by omega), if_pos rfl, num_txt] at R1 R2
    have RD := ref_Div_px (G := G) C b (by omega) (by omega) (by omega)
    have hqC : C / b < 10 ^ 576 := Nat.lt_of_le_of_lt (Nat.div_le_self _ _) hCp
    have hrC : C % b < 10 ^ 576 := Nat.lt_of_le_of_lt (Nat.mod_le _ _) hCp
    have T3 := nat_Text_px hG (C / b) (by have := dl_small hqC; omega)
    have T4 := ref_Text_px (G := G) (C / b) (by have := dlr hqC; omega)
    have T5 := nat_Text_px hG (C % b) (by have := dl_small hrC; omega)
    have T6 := ref_Text_px (G := G) (C % b) (by have := dlr hrC; omega)
    have e1 := beq_txt (txt (C / b))
    have e2 := beq_txt (txt (C % b))
    clear hA1 hC1 hCp hbp hqC hrC hb5 hb
    simp (maxSteps := 2000000) only [↓avp, avq, ↓reduceIte, Nat.reduceAdd, Nat.reduceMul, Nat.reduceSub, Nat.reduceLT, Nat.reduceLeDiff, Nat.reduceEqDiff, Nat.reducePow, Nat.reduceMod, h0, w3, w4]
    refine S.call ?_
    simp (maxSteps := 2000000) only [↓avp, avq, ↓reduceIte, Nat.reduceAdd, Nat.reduceMul, Nat.reduceSub, Nat.reduceLT, Nat.reduceLeDiff, Nat.reduceEqDiff, Nat.reducePow, Nat.reduceMod, ← hu]
    refine O.call ?_
    simp (maxSteps := 2000000) only [↓avp, avq, ↓reduceIte, Nat.reduceAdd, Nat.reduceMul, Nat.reduceSub, Nat.reduceLT, Nat.reduceLeDiff, Nat.reduceEqDiff, Nat.reducePow, Nat.reduceMod]
    refine L.call ?_
    simp (maxSteps := 2000000) only [↓avp, avq, ↓reduceIte, Nat.reduceAdd, Nat.reduceMul, Nat.reduceSub, Nat.reduceLT, Nat.reduceLeDiff, Nat.reduceEqDiff, Nat.reducePow, Nat.reduceMod]
    refine D.call ?_
    simp (maxSteps := 2000000) only [↓avp, avq, ↓reduceIte, Nat.reduceAdd, Nat.reduceMul, Nat.reduceSub, Nat.reduceLT, Nat.reduceLeDiff, Nat.reduceEqDiff, Nat.reducePow, Nat.reduceMod]
    refine T1.call ?_
    simp (maxSteps := 2000000) only [↓avp, avq, ↓reduceIte, Nat.reduceAdd, Nat.reduceMul, Nat.reduceSub, Nat.reduceLT, Nat.reduceLeDiff, Nat.reduceEqDiff, Nat.reducePow, Nat.reduceMod]
    refine R1.call ?_
    simp (maxSteps := 2000000) only [↓avp, avq, ↓reduceIte, Nat.reduceAdd, Nat.reduceMul, Nat.reduceSub, Nat.reduceLT, Nat.reduceLeDiff, Nat.reduceEqDiff, Nat.reducePow, Nat.reduceMod]
    refine T2.call ?_
    simp (maxSteps := 2000000) only [↓avp, avq, ↓reduceIte, Nat.reduceAdd, Nat.reduceMul, Nat.reduceSub, Nat.reduceLT, Nat.reduceLeDiff, Nat.reduceEqDiff, Nat.reducePow, Nat.reduceMod]
    refine R2.call ?_
    simp (maxSteps := 2000000) only [↓avp, avq, ↓reduceIte, Nat.reduceAdd, Nat.reduceMul, Nat.reduceSub, Nat.reduceLT, Nat.reduceLeDiff, Nat.reduceEqDiff, Nat.reducePow, Nat.reduceMod]
    refine RD.call ?_
    simp (maxSteps := 2000000) only [↓avp, avq, ↓reduceIte, Nat.reduceAdd, Nat.reduceMul, Nat.reduceSub, Nat.reduceLT, Nat.reduceLeDiff, Nat.reduceEqDiff, Nat.reducePow, Nat.reduceMod]
    refine T3.call ?_
    simp (maxSteps := 2000000) only [↓avp, avq, ↓reduceIte, Nat.reduceAdd, Nat.reduceMul, Nat.reduceSub, Nat.reduceLT, Nat.reduceLeDiff, Nat.reduceEqDiff, Nat.reducePow, Nat.reduceMod]
    refine T4.call ?_
    simp (maxSteps := 2000000) only [↓avp, avq, ↓reduceIte, Nat.reduceAdd, Nat.reduceMul, Nat.reduceSub, Nat.reduceLT, Nat.reduceLeDiff, Nat.reduceEqDiff, Nat.reducePow, Nat.reduceMod, e1]
    refine T5.call ?_
    simp (maxSteps := 2000000) only [↓avp, avq, ↓reduceIte, Nat.reduceAdd, Nat.reduceMul, Nat.reduceSub, Nat.reduceLT, Nat.reduceLeDiff, Nat.reduceEqDiff, Nat.reducePow, Nat.reduceMod]
    refine T6.call ?_
    simp (maxSteps := 2000000) only [↓avp, avq, ↓reduceIte, Nat.reduceAdd, Nat.reduceMul, Nat.reduceSub, Nat.reduceLT, Nat.reduceLeDiff, Nat.reduceEqDiff, Nat.reducePow, Nat.reduceMod, e2]
    refine ret_now ?_
    simp (maxSteps := 2000000) only [↓avp, avq, ↓reduceIte, Nat.reduceAdd, Nat.reduceMul, Nat.reduceSub, Nat.reduceLT, Nat.reduceLeDiff, Nat.reduceEqDiff, Nat.reducePow, Nat.reduceMod]
end Va
