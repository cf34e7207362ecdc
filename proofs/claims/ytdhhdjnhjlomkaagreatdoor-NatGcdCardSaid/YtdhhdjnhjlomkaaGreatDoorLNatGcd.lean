/- The law NatGcd on trees: of products of one number the greatest measure is that number's by that of the others; by shifts alone, too. -/
import Derived.Test.YtdhhdjnhjlomkaaGreatDoorTX
import Derived.Test.YtdhhdjnhjlomkaaGreatDoorBG
set_option linter.unusedSimpArgs false
set_option linter.unusedVariables false
set_option maxRecDepth 100000
set_option maxHeartbeats 4000000
open Go Go.Avm
namespace Va
def ir_law1_NatGcd : IF := (.mk (.seq (.reg [sX 8 (.mov (.v (.bool false)))]) (.seq (.reg [sX 17 (.call n_law1_begun []), mX 9 17]) (.seq (.seq (.reg [mX 18 9, sX 19 (.not (.t 18))]) (.cond (.t 19) (.seq (.reg [sX 8 (.mov (.v (.bool false)))]) .ret) .skip)) (.seq (.reg [mX 21 0, sX 22 (.call n_law1_N [(.t 21)]), mX 20 22, sX 23 (.ext (.t 20) 0), sX 24 (.ext (.t 20) 1), mX 10 23, mX 11 24]) (.seq (.reg [mX 26 1, sX 27 (.call n_law1_N [(.t 26)]), mX 25 27, sX 28 (.ext (.t 25) 0), sX 29 (.ext (.t 25) 1), mX 12 28, mX 13 29]) (.seq (.reg [mX 31 2, sX 32 (.call n_law1_N [(.t 31)]), mX 30 32, sX 33 (.ext (.t 30) 0), sX 34 (.ext (.t 30) 1), mX 14 33, mX 15 34]) (.seq (.reg [mX 35 3, sX 36 (.bin .rem (.t 35) (.v (iv .i64 100))), sX 37 (.bin .add (.t 36) (.v (iv .i64 100))), sX 38 (.bin .rem (.t 37) (.v (iv .i64 100))), mX 3 38]) (.seq (.reg [mX 39 10, mX 40 12, sX 41 (.call n_nat_Nat_Gcd [(.t 39), (.t 40)]), mX 16 41]) (.seq (.reg [mX 42 10, mX 43 14, sX 44 (.call n_nat_Nat_Mul [(.t 42), (.t 43)]), mX 45 12, mX 46 14, sX 47 (.call n_nat_Nat_Mul [(.t 45), (.t 46)]), sX 48 (.call n_nat_Nat_Gcd [(.t 44), (.t 47)]), mX 49 16, mX 50 14, sX 51 (.call n_nat_Nat_Mul [(.t 49), (.t 50)]), sX 52 (.call n_nat_Nat_Cmp [(.t 48), (.t 51)]), sX 53 (.bin .eql (.t 52) (.v (iv .i64 0))), mX 54 53, ⟨(some 55), (.mov (.t 10)), (some (54, true))⟩, ⟨(some 56), (.mov (.t 3)), (some (54, true))⟩, ⟨(some 57), (.call n_nat_Nat_Shl [(.t 55), (.t 56)]), (some (54, true))⟩, ⟨(some 58), (.mov (.t 12)), (some (54, true))⟩, ⟨(some 59), (.mov (.t 3)), (some (54, true))⟩, ⟨(some 60), (.call n_nat_Nat_Shl [(.t 58), (.t 59)]), (some (54, true))⟩, ⟨(some 61), (.call n_nat_Nat_Gcd [(.t 57), (.t 60)]), (some (54, true))⟩, ⟨(some 62), (.mov (.t 16)), (some (54, true))⟩, ⟨(some 63), (.mov (.t 3)), (some (54, true))⟩, ⟨(some 64), (.call n_nat_Nat_Shl [(.t 62), (.t 63)]), (some (54, true))⟩, ⟨(some 65), (.call n_nat_Nat_Cmp [(.t 61), (.t 64)]), (some (54, true))⟩, ⟨(some 66), (.bin .eql (.t 65) (.v (iv .i64 0))), (some (54, true))⟩, sX 67 (.pick (.t 54) (.t 66) (.v (.bool false))), mX 68 67, ⟨(some 69), (.mov (.t 16)), (some (68, true))⟩, ⟨(some 70), (.mov (.t 12)), (some (68, true))⟩, ⟨(some 71), (.mov (.t 10)), (some (68, true))⟩, ⟨(some 72), (.call n_nat_Nat_Gcd [(.t 70), (.t 71)]), (some (68, true))⟩, ⟨(some 73), (.call n_nat_Nat_Cmp [(.t 69), (.t 72)]), (some (68, true))⟩, ⟨(some 74), (.bin .eql (.t 73) (.v (iv .i64 0))), (some (68, true))⟩, sX 75 (.pick (.t 68) (.t 74) (.v (.bool false))), mX 76 75, ⟨(some 77), (.mov (.t 10)), (some (76, true))⟩, ⟨(some 78), (.call n_nat_Nat_Gcd [(.t 77), (.v .nilp)]), (some (76, true))⟩, ⟨(some 79), (.mov (.t 10)), (some (76, true))⟩, ⟨(some 80), (.call n_nat_Nat_Cmp [(.t 78), (.t 79)]), (some (76, true))⟩, ⟨(some 81), (.bin .eql (.t 80) (.v (iv .i64 0))), (some (76, true))⟩, sX 82 (.pick (.t 76) (.t 81) (.v (.bool false))), mX 8 82]) .ret))))))))) [(.t 8)] 83)
theorem low_law1_NatGcd : lowF P n_law1_NatGcd = some ir_law1_NatGcd := by kernel_rfl
variable {G : Glob}
theorem NatGcd_px (hG : GOK G) (s t u : List UInt8) (k : Int) (hs : s.length ≤ 9223372036854775807) (ht : t.length ≤ 9223372036854775807) (hu : u.length ≤ 9223372036854775807) (hk : -9223372036854775808 ≤ k ∧ k ≤ 9223372036854775807) : PX P G n_law1_NatGcd [.str s, .str t, .str u, .int .i64 k] (.bool true) := by
  refine PX_of_awp low_law1_NatGcd fol (by simp only [avmF, and_true]) (by simp only [avmF, and_true]) ?_
  obtain ⟨m, hm, hm2⟩ := wrapmod k 100 (by decide) (by decide)
  have hN1 := law1_N_px (G := G) s hs
  have hN2 := law1_N_px (G := G) t ht
  have hN3 := law1_N_px (G := G) u hu
  obtain ⟨a, ha⟩ : ∃ a, a = nv s := ⟨_, rfl⟩
  obtain ⟨b, hb⟩ : ∃ a, a = nv t := ⟨_, rfl⟩
  obtain ⟨c, hc⟩ : ∃ a, a = nv u := ⟨_, rfl⟩
  have da := nv_dl s
  have db := nv_dl t
  have dc := nv_dl u
  rw [← ha] at hN1 da
  rw [← hb] at hN2 db
  rw [← hc] at hN3 dc
  obtain ⟨g, hg⟩ : ∃ g, g = Nat.gcd a b := ⟨_, rfl⟩
  have dg : dl 4294967296 g ≤ 120 := by
    rcases Nat.eq_zero_or_pos a with h | h
    · rw [hg, h, Nat.gcd_zero_left]; exact db
    · rw [hg]; exact Nat.le_trans (dl_mono (by decide) (Nat.le_of_dvd h (Nat.gcd_dvd_left a b))) da
  have G1 := nat_Gcd_px (G := G) a b (by omega) (by omega)
  have d1 := dl_mul (B := 4294967296) (by decide) a c
  have d2 := dl_mul (B := 4294967296) (by decide) b c
  have d3 := dl_mul (B := 4294967296) (by decide) g c
  have M1 := nat_Mul_px (G := G) a c (by omega) (by omega)
  have M2 := nat_Mul_px (G := G) b c (by omega) (by omega)
  have G2 := nat_Gcd_px (G := G) (a * c) (b * c) (by omega) (by omega)
  rw [Nat.gcd_mul_right] at G2
  rw [← hg] at G1 G2
  have M3 := nat_Mul_px (G := G) g c (by omega) (by omega)
  have C1 := nat_Cmp_px (G := G) (g * c) (g * c) (by omega) (by omega)
  rw [cmpI_eq] at C1
  have u1 := dl_up a m
  have u2 := dl_up b m
  have u3 := dl_up g m
  have S1 := nat_Shl_px (G := G) a ((m : Nat) : Int) (by omega)
  have S2 := nat_Shl_px (G := G) b ((m : Nat) : Int) (by omega)
  have S3 := nat_Shl_px (G := G) g ((m : Nat) : Int) (by omega)
  rw [shN_up _ m (by omega)] at S1 S2 S3
  have G3 := nat_Gcd_px (G := G) (a * 2 ^ m) (b * 2 ^ m) (by omega) (by omega)
  rw [Nat.gcd_mul_right, ← hg] at G3
  have C2 := nat_Cmp_px (G := G) (g * 2 ^ m) (g * 2 ^ m) (by omega) (by omega)
  rw [cmpI_eq] at C2
  have G4 := nat_Gcd_px (G := G) b a (by omega) (by omega)
  rw [Nat.gcd_comm, ← hg] at G4
  have C3 := nat_Cmp_px (G := G) g g (by omega) (by omega)
  rw [cmpI_eq] at C3
  have G5 := nat_Gcd_nil (G := G) a (by omega)
  have C4 := nat_Cmp_px (G := G) a a (by omega) (by omega)
  rw [cmpI_eq] at C4
  simp only [ir_law1_NatGcd, sX, mX, initF, List.replicate, Nat.reduceAdd, Nat.reduceSub, iv, avmL]
  simp (maxSteps := 2000000) only [↓avp, avq, ↓reduceIte, Nat.reduceAdd, Nat.reduceMul, Nat.reduceSub, Nat.reduceLT, Nat.reduceLeDiff, Nat.reduceEqDiff, Nat.reducePow, Nat.reduceMod]
  refine (begun_px hG).call ?_
  simp (maxSteps := 2000000) only [↓avp, avq, ↓reduceIte, Nat.reduceAdd, Nat.reduceMul, Nat.reduceSub, Nat.reduceLT, Nat.reduceLeDiff, Nat.reduceEqDiff, Nat.reducePow, Nat.reduceMod]
  refine hN1.call ?_
  simp (maxSteps := 2000000) only [↓avp, avq, ↓reduceIte, Nat.reduceAdd, Nat.reduceMul, Nat.reduceSub, Nat.reduceLT, Nat.reduceLeDiff, Nat.reduceEqDiff, Nat.reducePow, Nat.reduceMod]
  refine hN2.call ?_
  simp (maxSteps := 2000000) only [↓avp, avq, ↓reduceIte, Nat.reduceAdd, Nat.reduceMul, Nat.reduceSub, Nat.reduceLT, Nat.reduceLeDiff, Nat.reduceEqDiff, Nat.reducePow, Nat.reduceMod]
  refine hN3.call ?_
  simp (maxSteps := 2000000) only [↓avp, avq, ↓reduceIte, Nat.reduceAdd, Nat.reduceMul, Nat.reduceSub, Nat.reduceLT, Nat.reduceLeDiff, Nat.reduceEqDiff, Nat.reducePow, Nat.reduceMod, hm]
  refine G1.call ?_
  simp (maxSteps := 2000000) only [↓avp, avq, ↓reduceIte, Nat.reduceAdd, Nat.reduceMul, Nat.reduceSub, Nat.reduceLT, Nat.reduceLeDiff, Nat.reduceEqDiff, Nat.reducePow, Nat.reduceMod]
  refine M1.call ?_
  simp (maxSteps := 2000000) only [↓avp, avq, ↓reduceIte, Nat.reduceAdd, Nat.reduceMul, Nat.reduceSub, Nat.reduceLT, Nat.reduceLeDiff, Nat.reduceEqDiff, Nat.reducePow, Nat.reduceMod]
  refine M2.call ?_
  simp (maxSteps := 2000000) only [↓avp, avq, ↓reduceIte, Nat.reduceAdd, Nat.reduceMul, Nat.reduceSub, Nat.reduceLT, Nat.reduceLeDiff, Nat.reduceEqDiff, Nat.reducePow, Nat.reduceMod]
  refine G2.call ?_
  simp (maxSteps := 2000000) only [↓avp, avq, ↓reduceIte, Nat.reduceAdd, Nat.reduceMul, Nat.reduceSub, Nat.reduceLT, Nat.reduceLeDiff, Nat.reduceEqDiff, Nat.reducePow, Nat.reduceMod]
  refine M3.call ?_
  simp (maxSteps := 2000000) only [↓avp, avq, ↓reduceIte, Nat.reduceAdd, Nat.reduceMul, Nat.reduceSub, Nat.reduceLT, Nat.reduceLeDiff, Nat.reduceEqDiff, Nat.reducePow, Nat.reduceMod]
  refine C1.call ?_
  simp (maxSteps := 2000000) only [↓avp, avq, ↓reduceIte, Nat.reduceAdd, Nat.reduceMul, Nat.reduceSub, Nat.reduceLT, Nat.reduceLeDiff, Nat.reduceEqDiff, Nat.reducePow, Nat.reduceMod]
  refine S1.call ?_
  simp (maxSteps := 2000000) only [↓avp, avq, ↓reduceIte, Nat.reduceAdd, Nat.reduceMul, Nat.reduceSub, Nat.reduceLT, Nat.reduceLeDiff, Nat.reduceEqDiff, Nat.reducePow, Nat.reduceMod]
  refine S2.call ?_
  simp (maxSteps := 2000000) only [↓avp, avq, ↓reduceIte, Nat.reduceAdd, Nat.reduceMul, Nat.reduceSub, Nat.reduceLT, Nat.reduceLeDiff, Nat.reduceEqDiff, Nat.reducePow, Nat.reduceMod]
  refine G3.call ?_
  simp (maxSteps := 2000000) only [↓avp, avq, ↓reduceIte, Nat.reduceAdd, Nat.reduceMul, Nat.reduceSub, Nat.reduceLT, Nat.reduceLeDiff, Nat.reduceEqDiff, Nat.reducePow, Nat.reduceMod]
  refine S3.call ?_
  simp (maxSteps := 2000000) only [↓avp, avq, ↓reduceIte, Nat.reduceAdd, Nat.reduceMul, Nat.reduceSub, Nat.reduceLT, Nat.reduceLeDiff, Nat.reduceEqDiff, Nat.reducePow, Nat.reduceMod]
  refine C2.call ?_
  simp (maxSteps := 2000000) only [↓avp, avq, ↓reduceIte, Nat.reduceAdd, Nat.reduceMul, Nat.reduceSub, Nat.reduceLT, Nat.reduceLeDiff, Nat.reduceEqDiff, Nat.reducePow, Nat.reduceMod]
  refine G4.call ?_
  simp (maxSteps := 2000000) only [↓avp, avq, ↓reduceIte, Nat.reduceAdd, Nat.reduceMul, Nat.reduceSub, Nat.reduceLT, Nat.reduceLeDiff, Nat.reduceEqDiff, Nat.reducePow, Nat.reduceMod]
  refine C3.call ?_
  simp (maxSteps := 2000000) only [↓avp, avq, ↓reduceIte, Nat.reduceAdd, Nat.reduceMul, Nat.reduceSub, Nat.reduceLT, Nat.reduceLeDiff, Nat.reduceEqDiff, Nat.reducePow, Nat.reduceMod]
  refine G5.call ?_
  simp (maxSteps := 2000000) only [↓avp, avq, ↓reduceIte, Nat.reduceAdd, Nat.reduceMul, Nat.reduceSub, Nat.reduceLT, Nat.reduceLeDiff, Nat.reduceEqDiff, Nat.reducePow, Nat.reduceMod]
  refine C4.call ?_
  simp (maxSteps := 2000000) only [↓avp, avq, ↓reduceIte, Nat.reduceAdd, Nat.reduceMul, Nat.reduceSub, Nat.reduceLT, Nat.reduceLeDiff, Nat.reduceEqDiff, Nat.reducePow, Nat.reduceMod]
  refine ret_now ?_
  simp (maxSteps := 2000000) only [↓avp, avq, ↓reduceIte, Nat.reduceAdd, Nat.reduceMul, Nat.reduceSub, Nat.reduceLT, Nat.reduceLeDiff, Nat.reduceEqDiff, Nat.reducePow, Nat.reduceMod]
end Va
