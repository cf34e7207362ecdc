/- The law NatLong on trees: texts of two thousand digits, and not one more. -/
import Derived.Test.YtdhhdjnhjlomkaaGreatDoorTX
import Derived.Test.YtdhhdjnhjlomkaaGreatDoorBG
set_option linter.unusedSimpArgs false
set_option linter.unusedVariables false
set_option maxRecDepth 100000
set_option exponentiation.threshold 3000
set_option maxHeartbeats 4000000
open Go Go.Avm
namespace Va
def ir_law1_NatLong : IF := (.mk (.seq (.reg [sX 4 (.mov (.v (.bool false)))]) (.seq (.reg [sX 10 (.call n_law1_begun []), mX 5 10]) (.seq (.seq (.reg [mX 11 5, sX 12 (.not (.t 11))]) (.cond (.t 12) (.seq (.reg [sX 4 (.mov (.v (.bool false)))]) .ret) .skip)) (.seq (.reg [mX 13 0, sX 14 (.bin .rem (.t 13) (.v (iv .i64 10))), sX 15 (.bin .add (.t 14) (.v (iv .i64 10))), sX 16 (.bin .rem (.t 15) (.v (iv .i64 10))), sX 17 (.bin .add (.v (iv .i64 1995)) (.t 16)), mX 0 17]) (.seq (.reg [mX 18 0, sX 19 (.mk t_uint8 1 1 [(iv .u8 0)] (.t 18) (.t 18)), mX 6 19]) (.seq (.seq (.reg [mX 20 6, sX 21 (.len (.t 20)), sX 22 (.mov (.v (iv .i64 0)))]) (.block 0 (.loop (.seq (.reg [sX 23 (.bin .lss (.t 22) (.t 21))]) (.seq (.cond (.t 23) .skip (.exit 0)) (.seq (.block 1 (.seq (.reg [mX 24 22, mX 7 24]) (.reg [mX 25 6, mX 26 7, mX 27 1, sX 28 (.bin .rem (.t 27) (.v (iv .u8 9))), sX 29 (.bin .add (.v (iv .u8 49)) (.t 28)), sX 30 (.idxA 1 (.t 25) (.t 26)), ⟨none, (.store 1 (.t 30) (.t 29)), none⟩]))) (.reg [sX 31 (.bin .add (.t 22) (.v (iv .i64 1))), mX 22 31]))))))) (.seq (.reg [mX 33 6, sX 34 (.b2s (.t 33)), sX 35 (.call n_nat_Get [(.t 34)]), mX 32 35, sX 36 (.ext (.t 32) 0), sX 37 (.ext (.t 32) 1), mX 8 36, mX 9 37]) (.seq (.regD [(mX 38 9, 1), (mX 39 0, 1), (sX 40 (.bin .leq (.t 39) (.v (iv .i64 2000))), 1), (sX 41 (.eqb false (.t 38) (.t 40)), 1), (mX 42 41, 1), (⟨(some 43), (.mov (.t 9)), (some (42, true))⟩, 1), (⟨(some 44), (.mov (.t 43)), (some (42, true))⟩, 1), (⟨(some 45), (.mov (.t 8)), (some (44, true))⟩, 1), (⟨(some 46), (.call n_nat_Nat_Text [(.t 45)]), (some (44, true))⟩, 0), (⟨(some 47), (.mov (.t 6)), (some (44, true))⟩, 1), (⟨(some 48), (.b2s (.t 47)), (some (44, true))⟩, 1), (⟨(some 49), (.bin .eql (.t 46) (.t 48)), (some (44, true))⟩, 1), (⟨(some 50), (.pick (.t 44) (.t 49) (.v (.bool false))), (some (42, true))⟩, 1), (⟨(some 51), (.mov (.t 50)), (some (42, true))⟩, 1), (⟨(some 52), (.mov (.t 9)), (some (51, false))⟩, 1), (⟨(some 53), (.not (.t 52)), (some (51, false))⟩, 1), (⟨(some 54), (.mov (.t 53)), (some (51, false))⟩, 1), (⟨(some 55), (.mov (.t 8)), (some (54, true))⟩, 1), (⟨(some 56), (.eqpn false (.t 55)), (some (54, true))⟩, 1), (⟨(some 57), (.pick (.t 54) (.t 56) (.v (.bool false))), (some (51, false))⟩, 1), (⟨(some 58), (.pick (.t 51) (.v (.bool true)) (.t 57)), (some (42, true))⟩, 1), (sX 59 (.pick (.t 42) (.t 58) (.v (.bool false))), 1), (mX 4 59, 1)]) .ret)))))))) [(.t 4)] 60)
theorem low_law1_NatLong : lowF P n_law1_NatLong = some ir_law1_NatLong := by kernel_rfl
variable {G : Glob}
theorem bytesL_row : ∀ (l : List Nat), bytesL (row .u8 l) = some (l.map UInt8.ofNat)
  | [] => rfl
  | x :: l => by
    rw [row_cons, bytesL, bytesL_row l]
    simp
theorem b2s_row (len : Nat) (l : List Nat) (K : AV → Prop) : b2sC len (row .u8 l) K = (l.length = len ∧ K (.str (l.map UInt8.ofNat))) := by
  rw [c_b2sC (bytesL_row l), row_length]
theorem all_rep {l : List Nat} {d n : Nat} (hl : l.length = n) (h : ∀ j, j < n → l.getD j 0 = d) : l = List.replicate n d := by
  apply List.ext_getElem?
  intro j
  by_cases hj : j < n
  · have := h j hj
    rw [List.getD_eq_getElem?_getD, List.getElem?_eq_getElem (by omega)] at this
    rw [List.getElem?_eq_getElem (by omega), List.getElem?_replicate, if_pos hj]
    simpa using this
  · rw [List.getElem?_eq_none (by omega), List.getElem?_eq_none (by rw [List.length_replicate]; omega)]
theorem NatLong_px (hG : GOK G) (k : Int) (c : Nat) (hk : -9223372036854775808 ≤ k ∧ k ≤ 9223372036854775807) (hc : c < 256) : PX P G n_law1_NatLong [.int .i64 k, .int .u8 c] (.bool true) := by
  refine PX_of_awp low_law1_NatLong fol (by simp only [avmF, and_true]) (by simp only [avmF, and_true]) ?_
  obtain ⟨m, hm, hm2⟩ := wrapmod k 10 (by decide) (by decide)
  obtain ⟨n, hn⟩ : ∃ n, n = 1995 + m := ⟨_, rfl⟩
  have w1 : IntKind.i64.wrap ((1995 + m : Nat) : Int) = ((n : Nat) : Int) := by rw [← hn]; exact wi64 (by omega)
  obtain ⟨d, hd⟩ : ∃ d, d = 49 + c % 9 := ⟨_, rfl⟩
  have hd2 : 49 ≤ d ∧ d ≤ 57 := by omega
  have m1 : (49 + c % 9) % 256 = d := by omega
  have m0 : c % 9 % 256 = c % 9 := by omega
  have u1 : n ≤ 9223372036854775807 := by omega
  obtain ⟨t, ht⟩ : ∃ t, t = List.replicate n (UInt8.ofNat d) := ⟨_, rfl⟩
  have htl : t.length = n := by rw [ht, List.length_replicate]
  have hdt : (UInt8.ofNat d).toNat = d := by rw [UInt8.toNat_ofNat']; omega
  have hok : okN t = decide (n ≤ 2000) := by
    have h1 : t ≠ [] := fun h => by rw [h] at htl; simp at htl; omega
    have h2 : t.all isDg = true := by
      rw [ht, List.all_replicate, if_neg (by omega)]
      simp only [isDg, hdt, decide_eq_true_iff]
      omega
    have h3 : t.head? ≠ some 48 := by
      rw [ht]
      obtain ⟨n', hn'⟩ : ∃ n', n = n' + 1 := ⟨n - 1, by omega⟩
      rw [hn', List.replicate_succ, List.head?_cons, Ne, Option.some.injEq]
      intro h
      have := congrArg UInt8.toNat h
      rw [hdt, show (48 : UInt8).toNat = 48 by rfl] at this
      omega
    unfold okN
    rw [h2, decide_eq_false h3, htl]
    simp [h1]
  have n1 : (!true) = false := rfl
  have n2 : (!false) = true := rfl
  simp only [ir_law1_NatLong, sX, mX, initF, List.replicate, Nat.reduceAdd, Nat.reduceSub, iv, avmL]
  simp (maxSteps := 2000000) only [↓avp, avq, ↓reduceIte, Nat.reduceAdd, Nat.reduceMul, Nat.reduceSub, Nat.reduceLT, Nat.reduceLeDiff, Nat.reduceEqDiff, Nat.reducePow, Nat.reduceMod]
  refine (begun_px hG).call ?_
  simp (maxSteps := 2000000) only [↓avp, avq, ↓reduceIte, Nat.reduceAdd, Nat.reduceMul, Nat.reduceSub, Nat.reduceLT, Nat.reduceLeDiff, Nat.reduceEqDiff, Nat.reducePow, Nat.reduceMod, hm, w1, u1]
  refine ⟨by omega, ?_⟩
  refine loop_of (fun q : Nat × List Nat => ⟨[.int .i64 n,.int .u8 c,J,J,J,J,.osl 0 0 n,J,J,J,J,J,J,J,J,J,J,J,J,J,J,.int .i64 n,.int .i64 q.1,J,J,J,J,J,J,J,J,J,J,J,J,J,J,J,J,J,J,J,J,J,J,J,J,J,J,J,J,J,J,J,J,J,J,J,J,J], [.arr t_uint8 1 false (row .u8 q.2)]⟩)
    (fun q => q.1 ≤ n ∧ q.2.length = n ∧ ∀ j, j < q.1 → q.2.getD j 0 = d) (fun q => n - q.1) (0, List.replicate n 0) [0, 1, 6, 21, 22] rfl ⟨Nat.zero_le _, by simp, fun j hj => by simp at hj⟩ ?_
  rintro ⟨i, l⟩ ⟨hi, hl, hh⟩
  simp only at hi hl hh
  by_cases h0 : i < n
  · have w2 : IntKind.i64.wrap ((i + 1 : Nat) : Int) = ((i + 1 : Nat) : Int) := wi64 (by omega)
    have c1 : i + 1 ≤ n := h0
    simp (maxSteps := 2000000) only [↓avp, avq, ↓reduceIte, Nat.reduceAdd, Nat.reduceMul, Nat.reduceSub, Nat.reduceLT, Nat.reduceLeDiff, Nat.reduceEqDiff, Nat.reducePow, Nat.reduceMod, h0, m0, m1, hl, w2, c1]
    refine LN.next (i + 1, l.set i d) [0, 1, 6, 21, 22] ⟨c1, by simp only [List.length_set]; exact hl, fun j hj => ?_⟩ (by simp only; omega) rfl
    simp only at hj ⊢
    by_cases e : j = i
    · subst e; exact getD_set_eq (by omega) _ _
    · rw [getD_set_ne (Ne.symm e)]; exact hh j (by omega)
  · have e : i = n := by omega
    have hrep := all_rep hl fun j hj => hh j (by omega)
    have e1 : l.take n = l := List.take_of_length_le (by omega)
    have e2 : l.map UInt8.ofNat = t := by rw [hrep, List.map_replicate, ht]
    by_cases h2 : n ≤ 2000
    · rw [decide_eq_true h2] at hok
      have hY := nat_Get_yes (G := G) t hok
      have hx : txt (num t) = t ∧ num t < 10 ^ 2000 := by
        simp only [okN, Bool.and_eq_true, decide_eq_true_iff, Bool.not_eq_true', Bool.and_eq_false_iff, decide_eq_false_iff_not] at hok
        obtain ⟨⟨⟨h1, h2⟩, h3⟩, ha⟩ := hok
        refine ⟨txt_num h1 (fun hl => ?_) ha, Nat.lt_of_lt_of_le (num_lt ha) (Nat.pow_le_pow_right (by decide) h2)⟩
        rcases h3 with h3 | h3
        · exact absurd hl h3
        · exact h3
      have T := nat_Text_px hG (num t) (by have := dl_small hx.2; omega)
      rw [hx.1] at T
      have e3 := beq_txt t
      simp (maxSteps := 2000000) only [↓avp, avq, ↓reduceIte, Nat.reduceAdd, Nat.reduceMul, Nat.reduceSub, Nat.reduceLT, Nat.reduceLeDiff, Nat.reduceEqDiff, Nat.reducePow, Nat.reduceMod, h0, e1, b2s_row, hl, e2]
      refine hY.call ?_
      simp (maxSteps := 2000000) only [↓avp, avq, ↓reduceIte, Nat.reduceAdd, Nat.reduceMul, Nat.reduceSub, Nat.reduceLT, Nat.reduceLeDiff, Nat.reduceEqDiff, Nat.reducePow, Nat.reduceMod, h2, e1, b2s_row, hl, e2, n1, n2]
      refine T.fcall ?_
      simp (maxSteps := 2000000) only [↓avp, avq, ↓reduceIte, Nat.reduceAdd, Nat.reduceMul, Nat.reduceSub, Nat.reduceLT, Nat.reduceLeDiff, Nat.reduceEqDiff, Nat.reducePow, Nat.reduceMod, e1, b2s_row, hl, e2, e3, n1, n2]
      refine ret_now ?_
      simp (maxSteps := 2000000) only [↓avp, avq, ↓reduceIte, Nat.reduceAdd, Nat.reduceMul, Nat.reduceSub, Nat.reduceLT, Nat.reduceLeDiff, Nat.reduceEqDiff, Nat.reducePow, Nat.reduceMod]
    · rw [decide_eq_false h2] at hok
      have hY := nat_Get_no (G := G) t (by omega) hok
      simp (maxSteps := 2000000) only [↓avp, avq, ↓reduceIte, Nat.reduceAdd, Nat.reduceMul, Nat.reduceSub, Nat.reduceLT, Nat.reduceLeDiff, Nat.reduceEqDiff, Nat.reducePow, Nat.reduceMod, h0, e1, b2s_row, hl, e2]
      refine hY.call ?_
      simp (maxSteps := 2000000) only [↓avp, avq, ↓reduceIte, Nat.reduceAdd, Nat.reduceMul, Nat.reduceSub, Nat.reduceLT, Nat.reduceLeDiff, Nat.reduceEqDiff, Nat.reducePow, Nat.reduceMod, h2, n1, n2]
      refine ret_now ?_
      simp (maxSteps := 2000000) only [↓avp, avq, ↓reduceIte, Nat.reduceAdd, Nat.reduceMul, Nat.reduceSub, Nat.reduceLT, Nat.reduceLeDiff, Nat.reduceEqDiff, Nat.reducePow, Nat.reduceMod]
end Va
