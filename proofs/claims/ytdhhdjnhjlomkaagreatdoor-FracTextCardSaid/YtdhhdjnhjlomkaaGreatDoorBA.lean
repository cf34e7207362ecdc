/- Joined texts. -/
import Derived.Test.YtdhhdjnhjlomkaaGreatDoorFE
import Derived.Test.YtdhhdjnhjlomkaaGreatDoorIr1
import Derived.Test.YtdhhdjnhjlomkaaGreatDoorIr2
import Derived.Test.YtdhhdjnhjlomkaaGreatDoorIr3
import Derived.Test.YtdhhdjnhjlomkaaGreatDoorFM
set_option linter.unusedSimpArgs false
set_option linter.unusedVariables false
set_option maxRecDepth 100000
set_option maxHeartbeats 4000000
open Go Go.Avm
namespace Va
attribute [local irreducible] ACallF FCallF
variable {G : Glob}
theorem bits_Mul_px (x y : Nat) (hx : x < 18446744073709551616) (hy : y < 18446744073709551616) : PX P G n_bits_Mul [.int .u64 x, .int .u64 y] (.tup [.int .u64 ((x * y / 18446744073709551616 : Nat) : Int), .int .u64 ((x * y % 18446744073709551616 : Nat) : Int)]) := by
  refine PX_of_awp low_bits_Mul fol (by simp only [avmF, and_true]) (by simp only [avmF, and_true]) ?_
  have h1 := mul_le32 (a := x / 4294967296) (b := y / 4294967296) (by omega) (by omega)
  have h2 := mul_le32 (a := x / 4294967296) (b := y % 4294967296) (by omega) (by omega)
  have h3 := mul_le32 (a := x % 4294967296) (b := y / 4294967296) (by omega) (by omega)
  have h4 := mul_le32 (a := x % 4294967296) (b := y % 4294967296) (by omega) (by omega)
  have e : x * y = x / 4294967296 * (y / 4294967296) * 18446744073709551616 + (x / 4294967296 * (y % 4294967296) + x % 4294967296 * (y / 4294967296)) * 4294967296 + x % 4294967296 * (y % 4294967296) := by
    have hx' : x = 4294967296 * (x / 4294967296) + x % 4294967296 := by omega
    have hy' : y = 4294967296 * (y / 4294967296) + y % 4294967296 := by omega
    generalize x / 4294967296 = a at *
    generalize x % 4294967296 = b at *
    generalize y / 4294967296 = c at *
    generalize y % 4294967296 = d at *
    rw [hx', hy']; grind
  simp only [ir_bits_Mul, sX, mX, initF, List.replicate, Nat.reduceAdd, Nat.reduceSub, iv, avmL]
  simp (maxSteps := 2000000) (disch := omega) only [↓avp, ↓avmD, avq, ↓reduceIte, Nat.reduceAdd, Nat.reduceMul, Nat.reduceSub, Nat.reduceLT, Nat.reduceLeDiff, Nat.reduceEqDiff, Nat.reducePow, Nat.reduceMod]
  refine ret_now ?_
  simp (maxSteps := 2000000) (disch := omega) only [↓avp, ↓avmD, avq, ↓reduceIte, Nat.reduceAdd, Nat.reduceMul, Nat.reduceSub, Nat.reduceLT, Nat.reduceLeDiff, Nat.reduceEqDiff, Nat.reducePow, Nat.reduceMod]
  rw [e]
  generalize x / 4294967296 * (y / 4294967296) = r at *
  generalize x / 4294967296 * (y % 4294967296) = p at *
  generalize x % 4294967296 * (y / 4294967296) = q at *
  generalize x % 4294967296 * (y % 4294967296) = s at *
  rw [bor_shift (by omega)]
  congr 3
  · omega
  · congr 1; congr 1; omega
theorem shl_w {x k : Nat} (h : 64 ≤ k) : x * 2 ^ k % 18446744073709551616 = 0 := by
  have : 2 ^ k = 18446744073709551616 * 2 ^ (k - 64) := by rw [show (18446744073709551616 : Nat) = 2 ^ 64 by rfl, ← Nat.pow_add]; congr 1; omega
  rw [this, Nat.mul_left_comm]; exact Nat.mul_mod_right _ _
theorem shr_w {x k : Nat} (hx : x < 18446744073709551616) (h : 64 ≤ k) : x / 2 ^ k = 0 := by
  refine Nat.div_eq_of_lt (Nat.lt_of_lt_of_le hx ?_)
  rw [show (18446744073709551616 : Nat) = 2 ^ 64 by rfl]
  exact Nat.pow_le_pow_right (by decide) h
theorem bits_Shl_px (x : Nat) (n : Int) (hx : x < 18446744073709551616) (hn : -9223372036854775808 ≤ n ∧ n ≤ 9223372036854775807) : PX P G n_bits_Shl [.int .u64 x, .int .i64 n] (.int .u64 ((shlW x n : Nat) : Int)) := by
  refine PX_of_awp low_bits_Shl fol (by simp only [avmF, and_true]) (by simp only [avmF, and_true]) ?_
  simp only [ir_bits_Shl, sX, mX, initF, List.replicate, Nat.reduceAdd, Nat.reduceSub, iv, avmL]
  by_cases h1 : ((64 : Nat) : Int) ≤ n
  · simp (maxSteps := 2000000) (disch := omega) only [↓avp, ↓avmD, avq, ↓reduceIte, Nat.reduceAdd, Nat.reduceMul, Nat.reduceSub, Nat.reduceLT, Nat.reduceLeDiff, Nat.reduceEqDiff, Nat.reducePow, Nat.reduceMod, decide_eq_true h1]
    refine ret_now ?_
    simp (maxSteps := 2000000) (disch := omega) only [↓avp, ↓avmD, avq, ↓reduceIte, Nat.reduceAdd, Nat.reduceMul, Nat.reduceSub, Nat.reduceLT, Nat.reduceLeDiff, Nat.reduceEqDiff, Nat.reducePow, Nat.reduceMod, shlW, if_neg (show ¬ n < 0 by omega), shl_w (show 64 ≤ n.toNat by omega)]
  by_cases h2 : n ≤ -64
  · simp (maxSteps := 2000000) (disch := omega) only [↓avp, ↓avmD, avq, ↓reduceIte, Nat.reduceAdd, Nat.reduceMul, Nat.reduceSub, Nat.reduceLT, Nat.reduceLeDiff, Nat.reduceEqDiff, Nat.reducePow, Nat.reduceMod, decide_eq_false h1, decide_eq_true h2]
    refine ret_now ?_
    simp (maxSteps := 2000000) (disch := omega) only [↓avp, ↓avmD, avq, ↓reduceIte, Nat.reduceAdd, Nat.reduceMul, Nat.reduceSub, Nat.reduceLT, Nat.reduceLeDiff, Nat.reduceEqDiff, Nat.reducePow, Nat.reduceMod, shlW, if_pos (show n < 0 by omega), shr_w hx (show 64 ≤ (-n).toNat by omega)]
  simp (maxSteps := 2000000) (disch := omega) only [↓avp, ↓avmD, avq, ↓reduceIte, Nat.reduceAdd, Nat.reduceMul, Nat.reduceSub, Nat.reduceLT, Nat.reduceLeDiff, Nat.reduceEqDiff, Nat.reducePow, Nat.reduceMod, decide_eq_false h1, decide_eq_false h2]
  refine ifB_dec (fun h => ⟨?_, ?_⟩) (fun h => ⟨?_, ?_⟩)
  · rw [wi64_in (by omega) (by omega)]; omega
  · refine ret_now ?_
    simp (maxSteps := 2000000) (disch := omega) only [↓avp, ↓avmD, avq, ↓reduceIte, Nat.reduceAdd, Nat.reduceMul, Nat.reduceSub, Nat.reduceLT, Nat.reduceLeDiff, Nat.reduceEqDiff, Nat.reducePow, Nat.reduceMod, shlW, if_pos (show n < 0 by omega), wi64_in (show -9223372036854775808 ≤ -n by omega) (by omega), Nat.min_eq_left (show (-n).toNat ≤ 64 by omega)]
  · omega
  · refine ret_now ?_
    simp (maxSteps := 2000000) (disch := omega) only [↓avp, ↓avmD, avq, ↓reduceIte, Nat.reduceAdd, Nat.reduceMul, Nat.reduceSub, Nat.reduceLT, Nat.reduceLeDiff, Nat.reduceEqDiff, Nat.reducePow, Nat.reduceMod, shlW, if_neg (show ¬ n < 0 by omega), Nat.min_eq_left (show n.toNat ≤ 64 by omega)]
theorem bits_Shr_px (x : Nat) (n : Int) (hx : x < 18446744073709551616) (hn : -9223372036854775808 < n ∧ n ≤ 9223372036854775807) : PX P G n_bits_Shr [.int .u64 x, .int .i64 n] (.int .u64 ((shlW x (-n) : Nat) : Int)) := by
  refine PX_of_awp low_bits_Shr fol (by simp only [avmF, and_true]) (by simp only [avmF, and_true]) ?_
  simp only [ir_bits_Shr, sX, mX, initF, List.replicate, Nat.reduceAdd, Nat.reduceSub, iv, avmL]
  by_cases h1 : ((64 : Nat) : Int) ≤ n
  · simp (maxSteps := 2000000) (disch := omega) only [↓avp, ↓avmD, avq, ↓reduceIte, Nat.reduceAdd, Nat.reduceMul, Nat.reduceSub, Nat.reduceLT, Nat.reduceLeDiff, Nat.reduceEqDiff, Nat.reducePow, Nat.reduceMod, decide_eq_true h1]
    refine ret_now ?_
    simp (maxSteps := 2000000) (disch := omega) only [↓avp, ↓avmD, avq, ↓reduceIte, Nat.reduceAdd, Nat.reduceMul, Nat.reduceSub, Nat.reduceLT, Nat.reduceLeDiff, Nat.reduceEqDiff, Nat.reducePow, Nat.reduceMod, shlW, if_pos (show -n < 0 by omega), Int.neg_neg, shr_w hx (show 64 ≤ n.toNat by omega)]
  by_cases h2 : n ≤ -64
  · simp (maxSteps := 2000000) (disch := omega) only [↓avp, ↓avmD, avq, ↓reduceIte, Nat.reduceAdd, Nat.reduceMul, Nat.reduceSub, Nat.reduceLT, Nat.reduceLeDiff, Nat.reduceEqDiff, Nat.reducePow, Nat.reduceMod, decide_eq_false h1, decide_eq_true h2]
    refine ret_now ?_
    simp (maxSteps := 2000000) (disch := omega) only [↓avp, ↓avmD, avq, ↓reduceIte, Nat.reduceAdd, Nat.reduceMul, Nat.reduceSub, Nat.reduceLT, Nat.reduceLeDiff, Nat.reduceEqDiff, Nat.reducePow, Nat.reduceMod, shlW, if_neg (show ¬ -n < 0 by omega), shl_w (show 64 ≤ (-n).toNat by omega)]
  simp (maxSteps := 2000000) (disch := omega) only [↓avp, ↓avmD, avq, ↓reduceIte, Nat.reduceAdd, Nat.reduceMul, Nat.reduceSub, Nat.reduceLT, Nat.reduceLeDiff, Nat.reduceEqDiff, Nat.reducePow, Nat.reduceMod, decide_eq_false h1, decide_eq_false h2]
  refine ifB_dec (fun h => ⟨?_, ?_⟩) (fun h => ⟨?_, ?_⟩)
  · rw [wi64_in (by omega) (by omega)]; omega
  · refine ret_now ?_
    simp (maxSteps := 2000000) (disch := omega) only [↓avp, ↓avmD, avq, ↓reduceIte, Nat.reduceAdd, Nat.reduceMul, Nat.reduceSub, Nat.reduceLT, Nat.reduceLeDiff, Nat.reduceEqDiff, Nat.reducePow, Nat.reduceMod, shlW, if_neg (show ¬ -n < 0 by omega), wi64_in (show -9223372036854775808 ≤ -n by omega) (by omega), Nat.min_eq_left (show (-n).toNat ≤ 64 by omega)]
  · omega
  · refine ret_now ?_
    by_cases h0 : n = 0
    · subst h0; simp (maxSteps := 2000000) (disch := omega) only [↓avp, ↓avmD, avq, ↓reduceIte, Nat.reduceAdd, Nat.reduceMul, Nat.reduceSub, Nat.reduceLT, Nat.reduceLeDiff, Nat.reduceEqDiff, Nat.reducePow, Nat.reduceMod, shlW, Int.neg_zero, if_neg (show ¬ (0 : Int) < 0 by omega), Nat.pow_zero, Nat.div_one]; rw [Nat.mod_eq_of_lt hx]
    · simp (maxSteps := 2000000) (disch := omega) only [↓avp, ↓avmD, avq, ↓reduceIte, Nat.reduceAdd, Nat.reduceMul, Nat.reduceSub, Nat.reduceLT, Nat.reduceLeDiff, Nat.reduceEqDiff, Nat.reducePow, Nat.reduceMod, shlW, if_pos (show -n < 0 by omega), Int.neg_neg, Nat.min_eq_left (show n.toNat ≤ 64 by omega)]
theorem bits_Len_px (x : Nat) (hx : x < 18446744073709551616) : PX P G n_bits_Len [.int .u64 x] (.int .i64 ((dl 2 x : Nat) : Int)) := by
  refine PX_of_awp low_bits_Len fol (by simp only [avmF, and_true]) (by simp only [avmF, and_true]) ?_
  have hd : dl 2 x ≤ 64 := (dl_le_iff (by decide)).2 (by simpa using hx)
  simp only [ir_bits_Len, sX, mX, initF, List.replicate, Nat.reduceAdd, Nat.reduceSub, iv, avmL]
  simp (maxSteps := 2000000) (disch := omega) only [↓avp, ↓avmD, avq, ↓reduceIte, Nat.reduceAdd, Nat.reduceMul, Nat.reduceSub, Nat.reduceLT, Nat.reduceLeDiff, Nat.reduceEqDiff, Nat.reducePow, Nat.reduceMod]
  refine loop_of (fun a : Nat × Nat × Nat => ⟨[.int .u64 a.1,J,J,.int .i64 a.2.1,.int .i64 a.2.2,J,J,J,J,J,J,J,J,J,J,J,J,J,J,J,J,J,J], []⟩)
    (fun a => a.2.2 ≤ 32 ∧ a.1 < 18446744073709551616 ∧ a.2.1 + dl 2 a.1 = dl 2 x ∧ a.1 < 2 ^ (2 * a.2.2 + (1 - a.2.2)) ∧ (a.2.2 ∈ [0, 1, 2, 4, 8, 16, 32])) (fun a => a.2.2) (x, 0, 32) [0, 3, 4] rfl ⟨by simp, hx, by simp, hx, by simp⟩ ?_
  rintro ⟨y, n, k⟩ ⟨hk, hy, hn, hlt, hm⟩
  simp only at hk hy hn hlt hm
  by_cases h0 : 0 < k
  · have hk2 : 2 * (k / 2) + (1 - k / 2) = k := by simp at hm; omega
    have e : dl 2 (y / 2 ^ k) = dl 2 y - k := dl_div_pow (by decide) y k
    have hq : y / 2 ^ k < 2 ^ k := by
      refine Nat.div_lt_of_lt_mul ?_
      rw [← Nat.pow_add, show k + k = 2 * k + (1 - k) by omega]; exact hlt
    simp (maxSteps := 2000000) (disch := omega) only [↓avp, ↓avmD, avq, ↓reduceIte, Nat.reduceAdd, Nat.reduceMul, Nat.reduceSub, Nat.reduceLT, Nat.reduceLeDiff, Nat.reduceEqDiff, Nat.reducePow, Nat.reduceMod, decide_eq_true h0]
    refine ifB_dec (fun h => ?_) (fun h => ?_)
    · have hd : 0 < dl 2 (y / 2 ^ k) := Nat.pos_of_ne_zero fun e => h (by rw [dl_eq_zero (by decide)] at e; exact e)
      refine LN.next (y / 2 ^ k, n + k, k / 2) [0, 3, 4] ⟨by simp only; omega, ?_, ?_, ?_, ?_⟩ (by simp only; omega) ?_
      all_goals simp only
      · exact Nat.lt_of_le_of_lt (Nat.div_le_self _ _) hy
      · omega
      · rw [hk2]; exact hq
      · simp at hm ⊢; omega
      · rfl
    · have hz : y / 2 ^ k = 0 := by omega
      refine LN.next (y, n, k / 2) [0, 3, 4] ⟨by simp only; omega, ?_, ?_, ?_, ?_⟩ (by simp only; omega) ?_
      all_goals simp only
      · exact hy
      · omega
      · rw [hk2]; exact (Nat.div_eq_zero_iff_lt (Nat.pow_pos (by decide))).1 hz
      · simp at hm ⊢; omega
      · rfl
  · have hk0 : k = 0 := by omega
    subst hk0
    have hy2 : y < 2 := by simpa using hlt
    rw [dl_one (by decide) hy2] at hn
    simp (maxSteps := 2000000) (disch := omega) only [↓avp, ↓avmD, avq, ↓reduceIte, Nat.reduceAdd, Nat.reduceMul, Nat.reduceSub, Nat.reduceLT, Nat.reduceLeDiff, Nat.reduceEqDiff, Nat.reducePow, Nat.reduceMod, decide_eq_false h0]
    refine ret_now ?_
    simp (maxSteps := 2000000) (disch := omega) only [↓avp, ↓avmD, avq, ↓reduceIte, Nat.reduceAdd, Nat.reduceMul, Nat.reduceSub, Nat.reduceLT, Nat.reduceLeDiff, Nat.reduceEqDiff, Nat.reducePow, Nat.reduceMod]
    congr 2; split at hn <;> omega
/-- A guess of a half of a quotient, lowered. -/
theorem bits_digit_px (u v y : Nat) (hu : u < y) (hv : v < 4294967296) (hy : y < 18446744073709551616) (hy' : 9223372036854775808 ≤ y) :
    PX P G n_bits_digit [.int .u64 u, .int .u64 v, .int .u64 y] (.tup [.int .u64 (((u * 4294967296 + v) / y : Nat) : Int), .int .u64 (((u * 4294967296 + v) % y : Nat) : Int)]) := by
  refine PX_of_awp low_bits_digit fol (by simp only [avmF, and_true]) (by simp only [avmF, and_true]) ?_
  have hyh : y / 4294967296 ≠ 0 := by omega
  have hq0 : u / (y / 4294967296) % 18446744073709551616 = u / (y / 4294967296) := m64 (Nat.lt_of_le_of_lt (Nat.div_le_self _ _) (by omega))
  simp only [ir_bits_digit, sX, mX, initF, List.replicate, Nat.reduceAdd, Nat.reduceSub, iv, avmL]
  simp (maxSteps := 2000000) (disch := omega) only [↓avp, ↓avmD, avq, ↓reduceIte, Nat.reduceAdd, Nat.reduceMul, Nat.reduceSub, Nat.reduceLT, Nat.reduceLeDiff, Nat.reduceEqDiff, Nat.reducePow, Nat.reduceMod, hq0]
  refine ⟨hyh, hyh, ?_⟩
  clear hq0
  refine loop_of (fun a : Nat × Nat => ⟨[.int .u64 u,.int .u64 v,.int .u64 y,J,J,J,J,J,.int .u64 a.1,.int .u64 a.2,J,J,J,J,J,J,J,J,J,J,J,J,J,J,J,J,J,J,J,J,J,J,J,J,J,J,J,J,J,J,J,J,J,J,J,J,J,J], []⟩)
    (fun a => DG u v y a.1 a.2) (fun a => a.1) (u / (y / 4294967296), u % (y / 4294967296)) [0, 1, 2, 8, 9] rfl (dg_start hv hy' hy) ?_
  rintro ⟨q, r⟩ H
  simp only at H
  have hqu : q ≤ u := by
    have := H.s
    have : q * 1 ≤ q * (y / 4294967296) := Nat.mul_le_mul_left _ (by omega)
    omega
  have f2 : (r + y / 4294967296) % 18446744073709551616 = r + y / 4294967296 := m64 (by have := H.r; omega)
  by_cases c1 : 4294967295 < q
  · have f1 : (q - 1) % 18446744073709551616 = q - 1 := m64 (by omega)
    simp (maxSteps := 2000000) (disch := omega) only [↓avp, ↓avmD, avq, ↓reduceIte, Nat.reduceAdd, Nat.reduceMul, Nat.reduceSub, Nat.reduceLT, Nat.reduceLeDiff, Nat.reduceEqDiff, Nat.reducePow, Nat.reduceMod, decide_eq_true c1, f1, f2]
    obtain ⟨d1, d2, d3⟩ := dg_down H.s (dg_big hu hv c1)
    refine ifB_dec (fun h => ?_) (fun h => ?_)
    · refine ret_now ?_
      simp (maxSteps := 2000000) (disch := omega) only [↓avp, ↓avmD, avq, ↓reduceIte, Nat.reduceAdd, Nat.reduceMul, Nat.reduceSub, Nat.reduceLT, Nat.reduceLeDiff, Nat.reduceEqDiff, Nat.reducePow, Nat.reduceMod]
      exact dg_fin hy (dg_le hv d2 h (dg_brk hu hy d2 h)) d3
    · exact LN.next (q - 1, r + y / 4294967296) [0, 1, 2, 8, 9] ⟨d2, d3, by simp only; omega⟩ (by simp only; omega) rfl
  · have f3 : ((r * 4294967296 % 18446744073709551616) ||| v % 18446744073709551616) % 18446744073709551616 = r * 4294967296 + v := by
      have := H.r
      rw [m64 (n := v) (by omega), bor_shift hv, m64 (by omega), m64 (by omega)]
    have f4 : q * (y % 4294967296) % 18446744073709551616 = q * (y % 4294967296) := m64 (by have := mul_le32 (a := q) (b := y % 4294967296) (by omega) (by omega); omega)
    by_cases c2 : r * 4294967296 + v < q * (y % 4294967296)
    · obtain ⟨d1, d2, d3⟩ := dg_down H.s ((dg_test H.s).1 c2)
      have f1 : (q - 1) % 18446744073709551616 = q - 1 := m64 (by omega)
      have D := And.intro d2 d3
      clear d2 d3
      simp (maxSteps := 2000000) (disch := omega) only [↓avp, ↓avmD, avq, ↓reduceIte, Nat.reduceAdd, Nat.reduceMul, Nat.reduceSub, Nat.reduceLT, Nat.reduceLeDiff, Nat.reduceEqDiff, Nat.reducePow, Nat.reduceMod, decide_eq_false c1, f1, f2, f3, f4, decide_eq_true c2]
      refine ifB_dec (fun h => ?_) (fun h => ?_)
      · refine ret_now ?_
        simp (maxSteps := 2000000) (disch := omega) only [↓avp, ↓avmD, avq, ↓reduceIte, Nat.reduceAdd, Nat.reduceMul, Nat.reduceSub, Nat.reduceLT, Nat.reduceLeDiff, Nat.reduceEqDiff, Nat.reducePow, Nat.reduceMod]
        exact dg_fin hy (dg_le hv D.1 h (dg_brk hu hy D.1 h)) D.2
      · exact LN.next (q - 1, r + y / 4294967296) [0, 1, 2, 8, 9] ⟨D.1, D.2, by simp only; omega⟩ (by simp only; omega) rfl
    · have hle := Nat.le_of_not_lt fun h => c2 ((dg_test (v := v) H.s).2 h)
      simp (maxSteps := 2000000) (disch := omega) only [↓avp, ↓avmD, avq, ↓reduceIte, Nat.reduceAdd, Nat.reduceMul, Nat.reduceSub, Nat.reduceLT, Nat.reduceLeDiff, Nat.reduceEqDiff, Nat.reducePow, Nat.reduceMod, decide_eq_false c1, f2, f3, f4, decide_eq_false c2]
      refine ret_now ?_
      simp (maxSteps := 2000000) (disch := omega) only [↓avp, ↓avmD, avq, ↓reduceIte, Nat.reduceAdd, Nat.reduceMul, Nat.reduceSub, Nat.reduceLT, Nat.reduceLeDiff, Nat.reduceEqDiff, Nat.reducePow, Nat.reduceMod]
      exact dg_fin hy hle H.up
theorem bits_Div_no (h l y : Nat) (hy : y ≤ h) : PX P G n_bits_Div [.int .u64 h, .int .u64 l, .int .u64 y] (.tup [.int .u64 ((0 : Nat) : Int), .int .u64 ((0 : Nat) : Int), .bool false]) := by
  refine PX_of_awp low_bits_Div fol (by simp only [avmF, and_true]) (by simp only [avmF, and_true]) ?_
  simp only [ir_bits_Div, sX, mX, initF, List.replicate, Nat.reduceAdd, Nat.reduceSub, iv, avmL]
  simp (maxSteps := 2000000) (disch := omega) only [↓avp, ↓avmD, avq, ↓reduceIte, Nat.reduceAdd, Nat.reduceMul, Nat.reduceSub, Nat.reduceLT, Nat.reduceLeDiff, Nat.reduceEqDiff, Nat.reducePow, Nat.reduceMod, decide_eq_true hy]
  refine ret_now ?_
  simp (maxSteps := 2000000) (disch := omega) only [↓avp, ↓avmD, avq, ↓reduceIte, Nat.reduceAdd, Nat.reduceMul, Nat.reduceSub, Nat.reduceLT, Nat.reduceLeDiff, Nat.reduceEqDiff, Nat.reducePow, Nat.reduceMod]
theorem bits_Div_px (h l y : Nat) (hh : h < y) (hl : l < 18446744073709551616) (hy : y < 18446744073709551616) : PX P G n_bits_Div [.int .u64 h, .int .u64 l, .int .u64 y] (.tup [.int .u64 (((h * 18446744073709551616 + l) / y : Nat) : Int), .int .u64 (((h * 18446744073709551616 + l) % y : Nat) : Int), .bool true]) := by
  refine PX_of_awp low_bits_Div fol (by simp only [avmF, and_true]) (by simp only [avmF, and_true]) ?_
  have hd : dl 2 y ≤ 64 := (dl_le_iff (by decide)).2 (by simpa using hy)
  have hn : ¬ y ≤ h := by omega
  have D := dn_of hh hl hy (k := 64 - dl 2 y) rfl
  have F := dn_fin D rfl rfl
  simp only [avmM] at F
  simp only [ir_bits_Div, sX, mX, initF, List.replicate, Nat.reduceAdd, Nat.reduceSub, iv, avmL]
  simp (maxSteps := 2000000) (disch := omega) only [↓avp, ↓avmD, avq, ↓reduceIte, Nat.reduceAdd, Nat.reduceMul, Nat.reduceSub, Nat.reduceLT, Nat.reduceLeDiff, Nat.reduceEqDiff, Nat.reducePow, Nat.reduceMod, decide_eq_false hn]
  refine (bits_Len_px y hy).call ?_
  simp (maxSteps := 2000000) (disch := omega) only [↓avp, ↓avmD, avq, ↓reduceIte, Nat.reduceAdd, Nat.reduceMul, Nat.reduceSub, Nat.reduceLT, Nat.reduceLeDiff, Nat.reduceEqDiff, Nat.reducePow, Nat.reduceMod]
  refine (bits_Shl_px _ _ ?_ ?_).call ?_
  · omega
  · omega
  simp (maxSteps := 2000000) (disch := omega) only [↓avp, ↓avmD, avq, ↓reduceIte, Nat.reduceAdd, Nat.reduceMul, Nat.reduceSub, Nat.reduceLT, Nat.reduceLeDiff, Nat.reduceEqDiff, Nat.reducePow, Nat.reduceMod]
  refine (bits_Shr_px _ _ ?_ ?_).call ?_
  · omega
  · omega
  simp (maxSteps := 2000000) (disch := omega) only [↓avp, ↓avmD, avq, ↓reduceIte, Nat.reduceAdd, Nat.reduceMul, Nat.reduceSub, Nat.reduceLT, Nat.reduceLeDiff, Nat.reduceEqDiff, Nat.reducePow, Nat.reduceMod, D.y1, D.u, D.lo]
  refine (bits_digit_px _ _ _ D.uy (by omega) D.y3 D.y2).call ?_
  simp (maxSteps := 2000000) (disch := omega) only [↓avp, ↓avmD, avq, ↓reduceIte, Nat.reduceAdd, Nat.reduceMul, Nat.reduceSub, Nat.reduceLT, Nat.reduceLeDiff, Nat.reduceEqDiff, Nat.reducePow, Nat.reduceMod]
  refine (bits_digit_px _ _ _ (Nat.mod_lt _ (by have := D.y2; omega)) (by omega) D.y3 D.y2).call ?_
  simp (maxSteps := 2000000) (disch := omega) only [↓avp, ↓avmD, avq, ↓reduceIte, Nat.reduceAdd, Nat.reduceMul, Nat.reduceSub, Nat.reduceLT, Nat.reduceLeDiff, Nat.reduceEqDiff, Nat.reducePow, Nat.reduceMod, avmF, F.1, F.2]
  refine ret_now ?_
  simp (maxSteps := 2000000) (disch := omega) only [↓avp, ↓avmD, avq, ↓reduceIte, Nat.reduceAdd, Nat.reduceMul, Nat.reduceSub, Nat.reduceLT, Nat.reduceLeDiff, Nat.reduceEqDiff, Nat.reducePow, Nat.reduceMod]
end Va
/- The lowest bit that is set. -/
set_option linter.unusedSimpArgs false
set_option linter.unusedVariables false
set_option maxRecDepth 100000
set_option maxHeartbeats 4000000
open Go Go.Avm
namespace Va
attribute [local irreducible] ACallF FCallF
variable {G : Glob}
theorem bits_Zeros_px (x : Nat) (hx : x < 18446744073709551616) : PX P G n_bits_Zeros [.int .u64 x] (.int .i64 ((ctz 64 x : Nat) : Int)) := by
  refine PX_of_awp low_bits_Zeros fol (by simp only [avmF, and_true]) (by simp only [avmF, and_true]) ?_
  simp only [ir_bits_Zeros, sX, mX, initF, List.replicate, Nat.reduceAdd, Nat.reduceSub, iv, avmL]
  by_cases h0 : x = 0
  · subst h0
    simp (maxSteps := 2000000) (disch := omega) only [↓avp, ↓avmD, avq, ↓reduceIte, Nat.reduceAdd, Nat.reduceMul, Nat.reduceSub, Nat.reduceLT, Nat.reduceLeDiff, Nat.reduceEqDiff, Nat.reducePow, Nat.reduceMod]
    refine ret_now ?_
    simp (maxSteps := 2000000) (disch := omega) only [↓avp, ↓avmD, avq, ↓reduceIte, Nat.reduceAdd, Nat.reduceMul, Nat.reduceSub, Nat.reduceLT, Nat.reduceLeDiff, Nat.reduceEqDiff, Nat.reducePow, Nat.reduceMod, ctz_zero]
  · obtain ⟨m, h1, h2⟩ := ctz_spec 64 x (by omega) (by simpa using hx)
    have e1 : IntKind.u64.wrap (-(x : Int)) = ((18446744073709551616 - x : Nat) : Int) := by rw [wu64_mod]; omega
    have e2 : ((x % 18446744073709551616) &&& ((18446744073709551616 - x) % 18446744073709551616)) % 18446744073709551616 = 2 ^ ctz 64 x := by
      rw [m64 hx, m64 (n := 18446744073709551616 - x) (by omega), lowbit h1 hx, m64]
      exact Nat.lt_of_lt_of_le (Nat.pow_lt_pow_right (by decide) h2) (by decide)
    have h3 : 2 ^ ctz 64 x < 18446744073709551616 := Nat.lt_of_lt_of_le (Nat.pow_lt_pow_right (by decide) h2) (by decide)
    clear h1
    simp (maxSteps := 2000000) (disch := omega) only [↓avp, ↓avmD, avq, ↓reduceIte, Nat.reduceAdd, Nat.reduceMul, Nat.reduceSub, Nat.reduceLT, Nat.reduceLeDiff, Nat.reduceEqDiff, Nat.reducePow, Nat.reduceMod, decide_eq_false h0, e1, e2]
    refine (bits_Len_px _ h3).call ?_
    rw [dl_two_pow]
    simp (maxSteps := 2000000) (disch := omega) only [↓avp, ↓avmD, avq, ↓reduceIte, Nat.reduceAdd, Nat.reduceMul, Nat.reduceSub, Nat.reduceLT, Nat.reduceLeDiff, Nat.reduceEqDiff, Nat.reducePow, Nat.reduceMod]
    refine ret_now ?_
    simp (maxSteps := 2000000) (disch := omega) only [↓avp, ↓avmD, avq, ↓reduceIte, Nat.reduceAdd, Nat.reduceMul, Nat.reduceSub, Nat.reduceLT, Nat.reduceLeDiff, Nat.reduceEqDiff, Nat.reducePow, Nat.reduceMod]
    rfl
theorem shlW_up (x k : Nat) : shlW x (k : Int) = x * 2 ^ k % 18446744073709551616 := by
  unfold shlW
  rw [if_neg (by omega), Int.toNat_natCast]
theorem shlW_down {x : Nat} (hx : x < 18446744073709551616) (k : Nat) : shlW x (-(k : Int)) = x / 2 ^ k := by
  unfold shlW
  rcases Nat.eq_zero_or_pos k with rfl | hk
  · simp; omega
  · rw [if_pos (by omega), Int.neg_neg, Int.toNat_natCast]
theorem bits_Shl_n (x k : Nat) (hx : x < 18446744073709551616) (hk : k ≤ 9223372036854775807) : PX P G n_bits_Shl [.int .u64 x, .int .i64 (k : Int)] (.int .u64 ((x * 2 ^ k % 18446744073709551616 : Nat) : Int)) := by
  rw [← shlW_up]; exact bits_Shl_px x k hx (by omega)
theorem bits_Shr_n (x k : Nat) (hx : x < 18446744073709551616) (hk : k ≤ 9223372036854775807) : PX P G n_bits_Shr [.int .u64 x, .int .i64 (k : Int)] (.int .u64 ((x / 2 ^ k : Nat) : Int)) := by
  rw [← shlW_down hx]; exact bits_Shr_px x k hx (by omega)
end Va
