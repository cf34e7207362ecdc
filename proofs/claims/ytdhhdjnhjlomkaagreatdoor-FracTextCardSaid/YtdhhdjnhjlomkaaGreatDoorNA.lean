/- Joined texts. -/
import Derived.Test.YtdhhdjnhjlomkaaGreatDoorFE
import Derived.Test.YtdhhdjnhjlomkaaGreatDoorIr1
import Derived.Test.YtdhhdjnhjlomkaaGreatDoorIr2
import Derived.Test.YtdhhdjnhjlomkaaGreatDoorFN
import Derived.Test.YtdhhdjnhjlomkaaGreatDoorBA
set_option linter.unusedSimpArgs false
set_option linter.unusedVariables false
set_option maxRecDepth 100000
open Go Go.Avm
namespace Va
attribute [local irreducible] ACallF FCallF
variable {G : Glob}
theorem nat_at_px (l : List Nat) (hl : AllLt 4294967296 l) (i : Nat) : PX P G n_nat_at [slV .u32 l, .int .i64 i] (.int .u64 (l.getD i 0 : Nat)) := by
  have hB := hl.getD (by decide) i
  refine PX_of_awp low_nat_at fol (by simp only [avmF, and_true]) (by simp only [avmF]) ?_
  simp only [ir_nat_at, sX, mX, initF, List.replicate, Nat.reduceAdd, Nat.reduceSub, iv, avmL]
  simp (maxSteps := 2000000) (disch := omega) only [↓avp, ↓avmD, avq, ↓reduceIte, Nat.reduceAdd, Nat.reduceMul, Nat.reduceSub, Nat.reduceLT, Nat.reduceLeDiff, Nat.reduceEqDiff, Nat.reducePow, Nat.reduceMod, slV]
  intro hlen
  refine ifB_dec (fun h => ?_) (fun h => ?_)
  · have hi : i < l.length := by omega
    refine ⟨by omega, by simp [row_length, hi], ?_⟩
    simp (maxSteps := 2000000) (disch := omega) only [↓avp, ↓avmD, avq, ↓reduceIte, Nat.reduceAdd, Nat.reduceMul, Nat.reduceSub, Nat.reduceLT, Nat.reduceLeDiff, Nat.reduceEqDiff, Nat.reducePow, Nat.reduceMod, row_getD .u32 hi]
    refine ret_now ?_
    simp (maxSteps := 2000000) (disch := omega) only [↓avp, ↓avmD, avq, ↓reduceIte, Nat.reduceAdd, Nat.reduceMul, Nat.reduceSub, Nat.reduceLT, Nat.reduceLeDiff, Nat.reduceEqDiff, Nat.reducePow, Nat.reduceMod]
    rw [Nat.mod_eq_of_lt (by omega)]
  · refine ret_now ?_
    simp (maxSteps := 2000000) (disch := omega) only [↓avp, ↓avmD, avq, ↓reduceIte, Nat.reduceAdd, Nat.reduceMul, Nat.reduceSub, Nat.reduceLT, Nat.reduceLeDiff, Nat.reduceEqDiff, Nat.reducePow, Nat.reduceMod]
    rw [List.getD_eq_getElem?_getD, List.getElem?_eq_none (by omega)]
    rfl
theorem nat_digits_px (n : Nat) : PX P G n_nat_Nat_digits [natV n] (slV .u32 (dig 4294967296 n)) := by
  refine PX_of_awp low_nat_Nat_digits fol (by simp only [avmF, natV, and_true]) (by simp only [avmF]) ?_
  simp only [ir_nat_Nat_digits, sX, mX, initF, List.replicate, Nat.reduceAdd, Nat.reduceSub, iv, avmL, natV]
  simp (maxSteps := 2000000) (disch := omega) only [↓avp, ↓avmD, avq, ↓reduceIte, Nat.reduceAdd, Nat.reduceMul, Nat.reduceSub, Nat.reduceLT, Nat.reduceLeDiff, Nat.reduceEqDiff, Nat.reducePow, Nat.reduceMod]
  refine ret_now ?_
  simp (maxSteps := 2000000) (disch := omega) only [↓avp, ↓avmD, avq, ↓reduceIte, Nat.reduceAdd, Nat.reduceMul, Nat.reduceSub, Nat.reduceLT, Nat.reduceLeDiff, Nat.reduceEqDiff, Nat.reducePow, Nat.reduceMod]
theorem nat_digits_nil : PX P G n_nat_Nat_digits [.nilp] (slV .u32 []) := by
  refine PX.wk_ret (v := .nils) ?_ Wk.nils (by simp only [avmF])
  refine PX_of_awp low_nat_Nat_digits fol (by simp only [avmF, natV, and_true]) (by simp only [avmF]) ?_
  simp only [ir_nat_Nat_digits, sX, mX, initF, List.replicate, Nat.reduceAdd, Nat.reduceSub, iv, avmL]
  simp (maxSteps := 2000000) (disch := omega) only [↓avp, ↓avmD, avq, ↓reduceIte, Nat.reduceAdd, Nat.reduceMul, Nat.reduceSub, Nat.reduceLT, Nat.reduceLeDiff, Nat.reduceEqDiff, Nat.reducePow, Nat.reduceMod]
  refine ret_now ?_
  simp (maxSteps := 2000000) (disch := omega) only [↓avp, ↓avmD, avq, ↓reduceIte, Nat.reduceAdd, Nat.reduceMul, Nat.reduceSub, Nat.reduceLT, Nat.reduceLeDiff, Nat.reduceEqDiff, Nat.reducePow, Nat.reduceMod]
theorem nat_of_px (l : List Nat) (hl : AllLt 4294967296 l) : PX P G n_nat_of [slV .u32 l] (natV (val 4294967296 l)) := by
  refine PX_of_awp low_nat_of fol (by simp only [avmF, and_true]) (by simp only [avmF, natV, and_true]) ?_
  simp only [ir_nat_of, sX, mX, initF, List.replicate, Nat.reduceAdd, Nat.reduceSub, iv, avmL]
  simp (maxSteps := 2000000) (disch := omega) only [↓avp, ↓avmD, avq, ↓reduceIte, Nat.reduceAdd, Nat.reduceMul, Nat.reduceSub, Nat.reduceLT, Nat.reduceLeDiff, Nat.reduceEqDiff, Nat.reducePow, Nat.reduceMod, slV]
  intro hlen
  refine loop_of (fun k : Nat => ⟨[slV .u32 l,J,J,.int .i64 k,J,J,J,J,J,J,J,J,J,J,J,J,J,J,J,J,J,J,J], []⟩)
    (fun k => k ≤ l.length ∧ ∀ j, k ≤ j → l.getD j 0 = 0) (fun k => k) l.length [0, 3] rfl ⟨Nat.le_refl _, fun j hj => by rw [List.getD_eq_getElem?_getD, List.getElem?_eq_none hj]; rfl⟩ ?_
  rintro k ⟨hk, hz⟩
  have hfin : (k = 0 ∨ l.getD (k - 1) 0 ≠ 0) → l.take k = dig 4294967296 (val 4294967296 l) := take_eq_dig (by decide) hl hk hz
  have hlk : (l.take k).length = k := by simp; omega
  by_cases h0 : 0 < k
  · have hk0 : k - 1 < l.length := by omega
    simp (maxSteps := 2000000) (disch := omega) only [↓avp, ↓avmD, avq, ↓reduceIte, Nat.reduceAdd, Nat.reduceMul, Nat.reduceSub, Nat.reduceLT, Nat.reduceLeDiff, Nat.reduceEqDiff, Nat.reducePow, Nat.reduceMod, slV, decide_eq_true h0, hk0, hk]
    refine ifB_dec (fun h => ?_) (fun h => ?_)
    · refine LN.next (k - 1) [0, 3] ⟨by omega, fun j hj => ?_⟩ (by omega) rfl
      by_cases e : j = k - 1
      · subst e; omega
      · exact hz j (by omega)
    · refine ret_fz 0 (by rfl) (by simp only [avmF, and_true]) ?_
      simp (maxSteps := 2000000) (disch := omega) only [↓avp, ↓avmD, avq, ↓reduceIte, Nat.reduceAdd, Nat.reduceMul, Nat.reduceSub, Nat.reduceLT, Nat.reduceLeDiff, Nat.reduceEqDiff, Nat.reducePow, Nat.reduceMod, avmT]
      refine ret_now ?_
      simp (maxSteps := 2000000) (disch := omega) only [↓avp, ↓avmD, avq, ↓reduceIte, Nat.reduceAdd, Nat.reduceMul, Nat.reduceSub, Nat.reduceLT, Nat.reduceLeDiff, Nat.reduceEqDiff, Nat.reducePow, Nat.reduceMod, natV, slV]
      rw [← hfin (.inr (by omega)), hlk]
  · simp (maxSteps := 2000000) (disch := omega) only [↓avp, ↓avmD, avq, ↓reduceIte, Nat.reduceAdd, Nat.reduceMul, Nat.reduceSub, Nat.reduceLT, Nat.reduceLeDiff, Nat.reduceEqDiff, Nat.reducePow, Nat.reduceMod, slV, decide_eq_false h0, hk]
    refine ret_fz 0 (by rfl) (by simp only [avmF, and_true]) ?_
    simp (maxSteps := 2000000) (disch := omega) only [↓avp, ↓avmD, avq, ↓reduceIte, Nat.reduceAdd, Nat.reduceMul, Nat.reduceSub, Nat.reduceLT, Nat.reduceLeDiff, Nat.reduceEqDiff, Nat.reducePow, Nat.reduceMod, avmT]
    refine ret_now ?_
    simp (maxSteps := 2000000) (disch := omega) only [↓avp, ↓avmD, avq, ↓reduceIte, Nat.reduceAdd, Nat.reduceMul, Nat.reduceSub, Nat.reduceLT, Nat.reduceLeDiff, Nat.reduceEqDiff, Nat.reducePow, Nat.reduceMod, natV, slV]
    rw [← hfin (.inl (by omega)), hlk]
end Va
/- The program's naturals: sums. -/
set_option linter.unusedSimpArgs false
set_option linter.unusedVariables false
set_option maxRecDepth 100000
set_option maxHeartbeats 8000000
open Go Go.Avm
namespace Va
attribute [local irreducible] ACallF FCallF
variable {G : Glob}
theorem nat_Add_px (a b : Nat) (ha : dl 4294967296 a ≤ 1000000000) (hb : dl 4294967296 b ≤ 1000000000) : PX P G n_nat_Nat_Add [natV a, natV b] (natV (a + b)) := by
  refine PX_of_awp low_nat_Nat_Add fol (by simp only [avmF, natV, and_true]) (by simp only [avmF, natV, and_true]) ?_
  obtain ⟨n, hn⟩ : ∃ n, n = max (dig 4294967296 a).length (dig 4294967296 b).length + 1 := ⟨_, rfl⟩
  have hna : dl 4294967296 a < n ∧ dl 4294967296 b < n := by unfold dl; omega
  have hn2 : n ≤ 1000000001 := by unfold dl at ha hb; omega
  have u1 : max (dig 4294967296 a).length (dig 4294967296 b).length ≤ 1000000000 := by omega
  have dA := nat_digits_px (G := G) a
  have dB := nat_digits_px (G := G) b
  unfold slV at dA dB
  have w0 : IntKind.i64.wrap ((max (dig 4294967296 a).length (dig 4294967296 b).length + 1 : Nat) : Int) = (n : Int) := by rw [← hn]; exact wi64 (by omega)
  simp only [ir_nat_Nat_Add, sX, mX, initF, List.replicate, Nat.reduceAdd, Nat.reduceSub, iv, avmL]
  simp (maxSteps := 2000000) only [↓avp, ↓avmD, avq, ↓reduceIte, Nat.reduceAdd, Nat.reduceMul, Nat.reduceSub, Nat.reduceLT, Nat.reduceLeDiff, Nat.reduceEqDiff, Nat.reducePow, Nat.reduceMod, natV, slV]
  repeat ((first | refine dA.call ?_ | refine dB.call ?_); simp (maxSteps := 2000000) only [↓avp, ↓avmD, avq, ↓reduceIte, Nat.reduceAdd, Nat.reduceMul, Nat.reduceSub, Nat.reduceLT, Nat.reduceLeDiff, Nat.reduceEqDiff, Nat.reducePow, Nat.reduceMod, w0])
  intro hl1 hl2
  refine ⟨by omega, fun hl3 => ?_⟩
  refine loop_of (fun c : Nat × List Nat × Nat => ⟨[J,J,J,J,J,slV .u32 (dig 4294967296 a),slV .u32 (dig 4294967296 b),.osl 0 0 n,.int .u64 c.2.2,J,J,J,J,J,J,J,J,J,J,J,J,J,.int .i64 n,.int .i64 c.1,J,J,J,J,J,J,J,J,J,J,J,J,J,J,J,J,J,J,J,J,J], [.arr t_uint32 1 false (row .u32 c.2.1)]⟩)
    (fun c => c.1 ≤ n ∧ AddN 4294967296 a b n c.1 c.2.2 c.2.1) (fun c => n - c.1) (0, List.replicate n 0, 0) [5, 6, 7, 8, 22, 23] rfl ⟨by simp, AddN.start (by decide)⟩ ?_
  rintro ⟨i, l, c⟩ ⟨hi, H⟩
  simp only at hi H
  have hll := H.len
  have hc1 := H.c1
  by_cases h0 : i < n
  · obtain ⟨s, hs⟩ : ∃ s, s = c + (a / 4294967296 ^ i % 4294967296 + b / 4294967296 ^ i % 4294967296) := ⟨_, rfl⟩
    have S := H.step (by decide) h0 hs
    have gA := nat_at_px (G := G) _ (dig_lt (B := 4294967296) (by decide) a) i
    have gB := nat_at_px (G := G) _ (dig_lt (B := 4294967296) (by decide) b) i
    rw [dig_getD (by decide)] at gA gB
    unfold slV at gA gB
    have mA : a / 4294967296 ^ i % 4294967296 < 4294967296 := Nat.mod_lt _ (by decide)
    have mB : b / 4294967296 ^ i % 4294967296 < 4294967296 := Nat.mod_lt _ (by decide)
    have k1 : (a / 4294967296 ^ i % 4294967296 + b / 4294967296 ^ i % 4294967296) % 18446744073709551616 = a / 4294967296 ^ i % 4294967296 + b / 4294967296 ^ i % 4294967296 := m64 (by omega)
    have k2 : s % 18446744073709551616 = s := m64 (by omega)
    have k3 : s / 4294967296 % 18446744073709551616 = s / 4294967296 := m64 (by omega)
    have w1 : IntKind.i64.wrap ((i + 1 : Nat) : Int) = ((i + 1 : Nat) : Int) := wi64 (by omega)
    have hil : i < l.length := by omega
    have q1 : i + 1 ≤ n := by omega
    simp (maxSteps := 2000000) only [↓avp, ↓avmD, avq, ↓reduceIte, Nat.reduceAdd, Nat.reduceMul, Nat.reduceSub, Nat.reduceLT, Nat.reduceLeDiff, Nat.reduceEqDiff, Nat.reducePow, Nat.reduceMod, slV, h0]
    repeat ((first | refine gA.call ?_ | refine gB.call ?_); simp (maxSteps := 2000000) only [↓avp, ↓avmD, avq, ↓reduceIte, Nat.reduceAdd, Nat.reduceMul, Nat.reduceSub, Nat.reduceLT, Nat.reduceLeDiff, Nat.reduceEqDiff, Nat.reducePow, Nat.reduceMod, slV, k1, ← hs, k2, k3, w1, hil, hll, h0, q1])
    exact LN.next (i + 1, l.set i (s % 4294967296), s / 4294967296) [5, 6, 7, 8, 22, 23] ⟨q1, S⟩ (by simp only; omega) rfl
  · have e : i = n := by omega
    subst e
    have hv := H.fin (by decide) hna
    simp (maxSteps := 2000000) only [↓avp, ↓avmD, avq, ↓reduceIte, Nat.reduceAdd, Nat.reduceMul, Nat.reduceSub, Nat.reduceLT, Nat.reduceLeDiff, Nat.reduceEqDiff, Nat.reducePow, Nat.reduceMod, h0]
    refine ACall.fzc (H0 := []) 0 rfl rfl (Nat.le_refl _) (by simp only [avmF]) ?_
    have e0 : i ≤ l.length := by omega
    have e1 : l.take i = l := List.take_of_length_le (by omega)
    simp (maxSteps := 2000000) only [↓avp, ↓avmD, avq, ↓reduceIte, Nat.reduceAdd, Nat.reduceMul, Nat.reduceSub, Nat.reduceLT, Nat.reduceLeDiff, Nat.reduceEqDiff, Nat.reducePow, Nat.reduceMod, avmT, e0, e1]
    have ht := nat_of_px (G := G) l H.lt
    rw [hv] at ht
    unfold slV at ht
    rw [hll] at ht
    refine ht.call ?_
    simp (maxSteps := 2000000) only [↓avp, ↓avmD, avq, ↓reduceIte, Nat.reduceAdd, Nat.reduceMul, Nat.reduceSub, Nat.reduceLT, Nat.reduceLeDiff, Nat.reduceEqDiff, Nat.reducePow, Nat.reduceMod]
    refine ret_now ?_
    simp (maxSteps := 2000000) only [↓avp, ↓avmD, avq, ↓reduceIte, Nat.reduceAdd, Nat.reduceMul, Nat.reduceSub, Nat.reduceLT, Nat.reduceLeDiff, Nat.reduceEqDiff, Nat.reducePow, Nat.reduceMod, natV, slV]
end Va
/- The program's naturals: order, small numbers. -/
set_option linter.unusedSimpArgs false
set_option linter.unusedVariables false
set_option maxRecDepth 100000
set_option maxHeartbeats 8000000
open Go Go.Avm
namespace Va
attribute [local irreducible] ACallF FCallF
variable {G : Glob}
theorem nat_Cmp_px (a b : Nat) (ha : dl 4294967296 a ≤ 1000000000) (hb : dl 4294967296 b ≤ 1000000000) : PX P G n_nat_Nat_Cmp [natV a, natV b] (.int .i64 (cmpI a b)) := by
  refine PX_of_awp low_nat_Nat_Cmp fol (by simp only [avmF, natV, and_true]) (by simp only [avmF]) ?_
  unfold dl at ha hb
  have dA := nat_digits_px (G := G) a
  have dB := nat_digits_px (G := G) b
  unfold slV at dA dB
  obtain ⟨n, hn⟩ : ∃ n, n = max (dig 4294967296 a).length (dig 4294967296 b).length := ⟨_, rfl⟩
  have e0 : IntKind.i64.wrap (((max (dig 4294967296 a).length (dig 4294967296 b).length : Nat) : Int) - ((1 : Nat) : Int)) = (n : Int) - 1 := by rw [← hn]; exact wi64_in (by omega) (by omega)
  simp only [ir_nat_Nat_Cmp, sX, mX, initF, List.replicate, Nat.reduceAdd, Nat.reduceSub, iv, avmL]
  simp (maxSteps := 2000000) only [↓avp, ↓avmD, avq, ↓reduceIte, Nat.reduceAdd, Nat.reduceMul, Nat.reduceSub, Nat.reduceLT, Nat.reduceLeDiff, Nat.reduceEqDiff, Nat.reducePow, Nat.reduceMod, natV, slV]
  repeat ((first | refine dA.call ?_ | refine dB.call ?_); simp (maxSteps := 2000000) only [↓avp, ↓avmD, avq, ↓reduceIte, Nat.reduceAdd, Nat.reduceMul, Nat.reduceSub, Nat.reduceLT, Nat.reduceLeDiff, Nat.reduceEqDiff, Nat.reducePow, Nat.reduceMod, e0])
  intro hl1 hl2
  refine loop_of (fun k : Nat => ⟨[J,J,J,J,J,slV .u32 (dig 4294967296 a),slV .u32 (dig 4294967296 b),.int .i64 ((k : Int) - 1),J,J,J,J,J,J,J,J,J,J,J,J,J,J,J,J,J,J,J,J,J,J,J,J,J,J,J,J], []⟩)
    (fun k => k ≤ n ∧ a / 4294967296 ^ k = b / 4294967296 ^ k) (fun k => k) n [5, 6, 7] rfl
    ⟨Nat.le_refl _, by rw [dig_high (by decide) (by unfold dl; omega), dig_high (by decide) (by unfold dl; omega)]⟩ ?_
  rintro k ⟨hk, he⟩
  rcases Nat.eq_zero_or_pos k with rfl | hk0
  · have h0 : (((0 : Nat) : Int) ≤ (((0 : Nat) : Int) - 1)) = False := by simp
    have : a = b := by simpa using he
    subst this
    simp (maxSteps := 2000000) only [↓avp, ↓avmD, avq, ↓reduceIte, Nat.reduceAdd, Nat.reduceMul, Nat.reduceSub, Nat.reduceLT, Nat.reduceLeDiff, Nat.reduceEqDiff, Nat.reducePow, Nat.reduceMod, slV, h0]
    refine ret_now ?_
    simp (maxSteps := 2000000) only [↓avp, ↓avmD, avq, ↓reduceIte, Nat.reduceAdd, Nat.reduceMul, Nat.reduceSub, Nat.reduceLT, Nat.reduceLeDiff, Nat.reduceEqDiff, Nat.reducePow, Nat.reduceMod, cmpI, Nat.lt_irrefl]
    rfl
  · obtain ⟨i, rfl⟩ : ∃ i, k = i + 1 := ⟨k - 1, by omega⟩
    have ei : (((i + 1 : Nat) : Int) - 1) = (i : Int) := by omega
    have en : IntKind.i64.wrap ((i : Int) - ((1 : Nat) : Int)) = (i : Int) - 1 := wi64_in (by omega) (by omega)
    obtain ⟨c1, c2, c3⟩ := cmp_step he
    have gA := nat_at_px (G := G) _ (dig_lt (B := 4294967296) (by decide) a) i
    have gB := nat_at_px (G := G) _ (dig_lt (B := 4294967296) (by decide) b) i
    rw [dig_getD (by decide)] at gA gB
    unfold slV at gA gB
    simp (maxSteps := 2000000) only [↓avp, ↓avmD, avq, ↓reduceIte, Nat.reduceAdd, Nat.reduceMul, Nat.reduceSub, Nat.reduceLT, Nat.reduceLeDiff, Nat.reduceEqDiff, Nat.reducePow, Nat.reduceMod, slV, ei]
    refine gA.call ?_
    simp (maxSteps := 2000000) only [↓avp, ↓avmD, avq, ↓reduceIte, Nat.reduceAdd, Nat.reduceMul, Nat.reduceSub, Nat.reduceLT, Nat.reduceLeDiff, Nat.reduceEqDiff, Nat.reducePow, Nat.reduceMod, slV]
    refine gB.call ?_
    rcases Nat.lt_trichotomy (a / 4294967296 ^ i % 4294967296) (b / 4294967296 ^ i % 4294967296) with h | h | h
    · have h1 : ((((a / 4294967296 ^ i % 4294967296 : Nat)) : Int) ≠ ((b / 4294967296 ^ i % 4294967296 : Nat) : Int)) = True := by simp only [eq_iff_iff, iff_true]; omega
      have hc : cmpI a b = -1 := by unfold cmpI; rw [if_pos (c1 h)]
      simp (maxSteps := 2000000) only [↓avp, ↓avmD, avq, ↓reduceIte, Nat.reduceAdd, Nat.reduceMul, Nat.reduceSub, Nat.reduceLT, Nat.reduceLeDiff, Nat.reduceEqDiff, Nat.reducePow, Nat.reduceMod, slV, h1, h]
      refine ret_now ?_
      simp (maxSteps := 2000000) only [↓avp, ↓avmD, avq, ↓reduceIte, Nat.reduceAdd, Nat.reduceMul, Nat.reduceSub, Nat.reduceLT, Nat.reduceLeDiff, Nat.reduceEqDiff, Nat.reducePow, Nat.reduceMod, hc]
    · have h1 : ((((a / 4294967296 ^ i % 4294967296 : Nat)) : Int) ≠ ((b / 4294967296 ^ i % 4294967296 : Nat) : Int)) = False := by simp only [eq_iff_iff, iff_false]; omega
      simp (maxSteps := 2000000) only [↓avp, ↓avmD, avq, ↓reduceIte, Nat.reduceAdd, Nat.reduceMul, Nat.reduceSub, Nat.reduceLT, Nat.reduceLeDiff, Nat.reduceEqDiff, Nat.reducePow, Nat.reduceMod, slV, h1, en]
      exact LN.next i [5, 6, 7] ⟨by omega, c3 h⟩ (by omega) rfl
    · have h1 : ((((a / 4294967296 ^ i % 4294967296 : Nat)) : Int) ≠ ((b / 4294967296 ^ i % 4294967296 : Nat) : Int)) = True := by simp only [eq_iff_iff, iff_true]; omega
      have h2 : ¬ a / 4294967296 ^ i % 4294967296 < b / 4294967296 ^ i % 4294967296 := by omega
      have hc : cmpI a b = 1 := by unfold cmpI; rw [if_neg (show ¬ a < b by have := c2 h; omega), if_pos (c2 h)]
      simp (maxSteps := 2000000) only [↓avp, ↓avmD, avq, ↓reduceIte, Nat.reduceAdd, Nat.reduceMul, Nat.reduceSub, Nat.reduceLT, Nat.reduceLeDiff, Nat.reduceEqDiff, Nat.reducePow, Nat.reduceMod, slV, h1, h2]
      refine ret_now ?_
      simp (maxSteps := 2000000) only [↓avp, ↓avmD, avq, ↓reduceIte, Nat.reduceAdd, Nat.reduceMul, Nat.reduceSub, Nat.reduceLT, Nat.reduceLeDiff, Nat.reduceEqDiff, Nat.reducePow, Nat.reduceMod, hc]
      try rfl
theorem nat_Of_px (x : Nat) (hx : x < 18446744073709551616) : PX P G n_nat_Of [.int .u64 x] (natV x) := by
  refine PX_of_awp low_nat_Of fol (by simp only [avmF, and_true]) (by simp only [avmF, natV, and_true]) ?_
  have q := Nat.div_lt_of_lt_mul (show x < 4294967296 * 4294967296 by omega)
  have e : ((List.replicate 2 0).set 0 (x % 4294967296)).set 1 (x / 4294967296 % 4294967296) = [x % 4294967296, x / 4294967296] := by
    rw [Nat.mod_eq_of_lt q]; rfl
  have ht := nat_of_px (G := G) [x % 4294967296, x / 4294967296] (by
    intro d hd
    simp at hd
    rcases hd with h | h <;> omega)
  rw [show val 4294967296 [x % 4294967296, x / 4294967296] = x by simp [val]; omega] at ht
  unfold slV at ht
  simp only [ir_nat_Of, sX, mX, initF, List.replicate, Nat.reduceAdd, Nat.reduceSub, iv, avmL]
  simp (maxSteps := 2000000) only [↓avp, ↓avmD, avq, ↓reduceIte, Nat.reduceAdd, Nat.reduceMul, Nat.reduceSub, Nat.reduceLT, Nat.reduceLeDiff, Nat.reduceEqDiff, Nat.reducePow, Nat.reduceMod]
  rw [e]
  refine ACall.fzc (H0 := []) 0 rfl rfl (Nat.le_refl _) (by simp only [avmF]) ?_
  have hl2 : [x % 4294967296, x / 4294967296].length = 2 := rfl
  have ht2 : [x % 4294967296, x / 4294967296].take 2 = [x % 4294967296, x / 4294967296] := rfl
  have hle : 2 ≤ 2 := Nat.le_refl _
  simp (maxSteps := 2000000) only [↓avp, ↓avmD, avq, ↓reduceIte, Nat.reduceAdd, Nat.reduceMul, Nat.reduceSub, Nat.reduceLT, Nat.reduceLeDiff, Nat.reduceEqDiff, Nat.reducePow, Nat.reduceMod, avmT, hl2, ht2, hle]
  refine ht.call ?_
  simp (maxSteps := 2000000) only [↓avp, ↓avmD, avq, ↓reduceIte, Nat.reduceAdd, Nat.reduceMul, Nat.reduceSub, Nat.reduceLT, Nat.reduceLeDiff, Nat.reduceEqDiff, Nat.reducePow, Nat.reduceMod]
  refine ret_now ?_
  simp (maxSteps := 2000000) only [↓avp, ↓avmD, avq, ↓reduceIte, Nat.reduceAdd, Nat.reduceMul, Nat.reduceSub, Nat.reduceLT, Nat.reduceLeDiff, Nat.reduceEqDiff, Nat.reducePow, Nat.reduceMod]
theorem nat_Word_px (n : Nat) (hn : dl 4294967296 n ≤ 1000000000) : PX P G n_nat_Nat_Word [natV n] (if n < 18446744073709551616 then .tup [.int .u64 n, .bool true] else .tup [.int .u64 ((0 : Nat) : Int), .bool false]) := by
  have dA := nat_digits_px (G := G) n
  unfold slV at dA
  by_cases h : n < 18446744073709551616
  · rw [if_pos h]
    refine PX_of_awp low_nat_Nat_Word fol (by simp only [avmF, natV, and_true]) (by simp only [avmF, and_true]) ?_
    have hd : dl 4294967296 n ≤ 2 := (dl_le_iff (by decide)).2 h
    unfold dl at hd
    have g0 : ¬ 2 < (dig 4294967296 n).length := by omega
    simp only [ir_nat_Nat_Word, sX, mX, initF, List.replicate, Nat.reduceAdd, Nat.reduceSub, iv, avmL]
    simp (maxSteps := 2000000) only [↓avp, ↓avmD, avq, ↓reduceIte, Nat.reduceAdd, Nat.reduceMul, Nat.reduceSub, Nat.reduceLT, Nat.reduceLeDiff, Nat.reduceEqDiff, Nat.reducePow, Nat.reduceMod, natV, slV]
    refine dA.call ?_
    simp (maxSteps := 2000000) only [↓avp, ↓avmD, avq, ↓reduceIte, Nat.reduceAdd, Nat.reduceMul, Nat.reduceSub, Nat.reduceLT, Nat.reduceLeDiff, Nat.reduceEqDiff, Nat.reducePow, Nat.reduceMod, g0]
    intro hl1 _
    refine loop_of (fun k : Nat => ⟨[J,J,J,J,.int .u64 ((n % 4294967296 ^ k : Nat) : Int),J,J,J,J,J,J,J,J,slV .u32 (dig 4294967296 n),.int .i64 (dig 4294967296 n).length,.int .i64 k,J,J,J,J,J,J,J,J,J,J,J,J,J], []⟩)
      (fun k => k ≤ (dig 4294967296 n).length) (fun k => (dig 4294967296 n).length - k) 0 [4, 13, 14, 15] (by rw [Nat.pow_zero, Nat.mod_one]; rfl) (Nat.zero_le _) ?_
    rintro k hk
    by_cases h0 : k < (dig 4294967296 n).length
    · have gA : (row .u32 (dig 4294967296 n)).getD k .junk = .int .u32 ((n / 4294967296 ^ k % 4294967296 : Nat) : Int) := by rw [row_getD .u32 h0, dig_getD (by decide)]
      have mA : n / 4294967296 ^ k % 4294967296 < 4294967296 := Nat.mod_lt _ (by decide)
      have hk2 : k < 2 := by omega
      have k1 : n / 4294967296 ^ k % 4294967296 % 18446744073709551616 = n / 4294967296 ^ k % 4294967296 := m64 (by omega)
      have w1 : IntKind.i64.wrap ((32 * k : Nat) : Int) = ((32 * k : Nat) : Int) := wi64 (by omega)
      have w2 : IntKind.i64.wrap ((k + 1 : Nat) : Int) = ((k + 1 : Nat) : Int) := wi64 (by omega)
      have w3 : min (32 * k) 64 = 32 * k := by omega
      have hpk : 2 ^ (32 * k) = 4294967296 ^ k := by rw [Nat.pow_mul]
      have hlt : n % 4294967296 ^ k < 4294967296 ^ k := Nat.mod_lt _ (Nat.pow_pos (by decide))
      have hms := mod_pow_succ 4294967296 n k
      have hlt2 : n % 4294967296 ^ (k + 1) < 18446744073709551616 := Nat.lt_of_lt_of_le (Nat.mod_lt _ (Nat.pow_pos (by decide))) (by rw [show 18446744073709551616 = 4294967296 ^ 2 by rfl]; exact Nat.pow_le_pow_right (by decide) (by omega))
      have e1 : n / 4294967296 ^ k % 4294967296 * 4294967296 ^ k % 18446744073709551616 = 4294967296 ^ k * (n / 4294967296 ^ k % 4294967296) := by
        rw [Nat.mul_comm (4294967296 ^ k)]
        refine m64 ?_
        rw [Nat.mul_comm (n / 4294967296 ^ k % 4294967296)]; omega
      have e2 : (n % 4294967296 ^ k) ||| (4294967296 ^ k * (n / 4294967296 ^ k % 4294967296)) = n % 4294967296 ^ (k + 1) := by
        have := Nat.two_pow_add_eq_or_of_lt (i := 32 * k) (b := n % 4294967296 ^ k) (by rw [hpk]; exact hlt) (n / 4294967296 ^ k % 4294967296)
        rw [hpk] at this
        rw [Nat.or_comm, ← this, hms]
        omega
      have e3 : n % 4294967296 ^ (k + 1) % 18446744073709551616 = n % 4294967296 ^ (k + 1) := m64 hlt2
      have q1 : k + 1 ≤ (dig 4294967296 n).length := h0
      have e4 : n % 4294967296 ^ k % 18446744073709551616 = n % 4294967296 ^ k := m64 (by omega)
      have e5 : 4294967296 ^ k * (n / 4294967296 ^ k % 4294967296) % 18446744073709551616 = 4294967296 ^ k * (n / 4294967296 ^ k % 4294967296) := m64 (by omega)
      simp (maxSteps := 2000000) only [↓avp, ↓avmD, avq, ↓reduceIte, Nat.reduceAdd, Nat.reduceMul, Nat.reduceSub, Nat.reduceLT, Nat.reduceLeDiff, Nat.reduceEqDiff, Nat.reducePow, Nat.reduceMod, slV, h0, gA, k1, w1, w2, w3, hpk, e1, e2, e3, e4, e5, hl1, q1]
      exact LN.next (k + 1) [4, 13, 14, 15] q1 (by omega) rfl
    · have e : k = dl 4294967296 n := by unfold dl; omega
      have e2 : n % 4294967296 ^ k = n := by rw [e]; exact Nat.mod_eq_of_lt (lt_pow_dl (by decide) n)
      simp (maxSteps := 2000000) only [↓avp, ↓avmD, avq, ↓reduceIte, Nat.reduceAdd, Nat.reduceMul, Nat.reduceSub, Nat.reduceLT, Nat.reduceLeDiff, Nat.reduceEqDiff, Nat.reducePow, Nat.reduceMod, slV, h0]
      refine ret_now ?_
      simp (maxSteps := 2000000) only [↓avp, ↓avmD, avq, ↓reduceIte, Nat.reduceAdd, Nat.reduceMul, Nat.reduceSub, Nat.reduceLT, Nat.reduceLeDiff, Nat.reduceEqDiff, Nat.reducePow, Nat.reduceMod, e2]
  · rw [if_neg h]
    refine PX_of_awp low_nat_Nat_Word fol (by simp only [avmF, natV, and_true]) (by simp only [avmF, and_true]) ?_
    have hd : ¬ dl 4294967296 n ≤ 2 := fun h' => h ((dl_le_iff (k := 2) (by decide)).1 h')
    unfold dl at hd
    have g0 : 2 < (dig 4294967296 n).length := by omega
    simp only [ir_nat_Nat_Word, sX, mX, initF, List.replicate, Nat.reduceAdd, Nat.reduceSub, iv, avmL]
    simp (maxSteps := 2000000) only [↓avp, ↓avmD, avq, ↓reduceIte, Nat.reduceAdd, Nat.reduceMul, Nat.reduceSub, Nat.reduceLT, Nat.reduceLeDiff, Nat.reduceEqDiff, Nat.reducePow, Nat.reduceMod, natV, slV]
    refine dA.call ?_
    simp (maxSteps := 2000000) only [↓avp, ↓avmD, avq, ↓reduceIte, Nat.reduceAdd, Nat.reduceMul, Nat.reduceSub, Nat.reduceLT, Nat.reduceLeDiff, Nat.reduceEqDiff, Nat.reducePow, Nat.reduceMod, g0]
    intro hl
    refine ret_now ?_
    simp (maxSteps := 2000000) only [↓avp, ↓avmD, avq, ↓reduceIte, Nat.reduceAdd, Nat.reduceMul, Nat.reduceSub, Nat.reduceLT, Nat.reduceLeDiff, Nat.reduceEqDiff, Nat.reducePow, Nat.reduceMod]
end Va
/- The program's naturals: products. -/
set_option linter.unusedSimpArgs false
set_option linter.unusedVariables false
set_option maxRecDepth 100000
set_option maxHeartbeats 8000000
open Go Go.Avm
namespace Va
attribute [local irreducible] ACallF FCallF
variable {G : Glob}
theorem nat_Mul_px (a b : Nat) (ha : dl 4294967296 a ≤ 1000000000) (hb : dl 4294967296 b ≤ 1000000000) : PX P G n_nat_Nat_Mul [natV a, natV b] (natV (a * b)) := by
  refine PX_of_awp low_nat_Nat_Mul fol (by simp only [avmF, natV, and_true]) (by simp only [avmF, natV, and_true]) ?_
  have dA := nat_digits_px (G := G) a
  have dB := nat_digits_px (G := G) b
  unfold natV slV at dA dB
  obtain ⟨la, hla⟩ : ∃ n, n = (dig 4294967296 a).length := ⟨_, rfl⟩
  obtain ⟨lb, hlb⟩ : ∃ n, n = (dig 4294967296 b).length := ⟨_, rfl⟩
  have hb2 : dl 4294967296 b = lb := hlb.symm
  have ha2 : dl 4294967296 a = la := hla.symm
  rw [← hla] at dA
  rw [← hlb] at dB
  obtain ⟨n, hn⟩ : ∃ n, n = la + lb := ⟨_, rfl⟩
  have w0 : IntKind.i64.wrap ((la + lb : Nat) : Int) = (n : Int) := by rw [← hn]; exact wi64 (by omega)
  simp only [ir_nat_Nat_Mul, sX, mX, initF, List.replicate, Nat.reduceAdd, Nat.reduceSub, iv, avmL]
  simp (maxSteps := 2000000) only [↓avp, ↓avmD, avq, ↓reduceIte, Nat.reduceAdd, Nat.reduceMul, Nat.reduceSub, Nat.reduceLT, Nat.reduceLeDiff, Nat.reduceEqDiff, Nat.reducePow, Nat.reduceMod, natV, slV, ← hla, ← hlb]
  repeat ((first | refine dA.call ?_ | refine dB.call ?_); simp (maxSteps := 2000000) only [↓avp, ↓avmD, avq, ↓reduceIte, Nat.reduceAdd, Nat.reduceMul, Nat.reduceSub, Nat.reduceLT, Nat.reduceLeDiff, Nat.reduceEqDiff, Nat.reducePow, Nat.reduceMod, w0])
  intro hl1 hl2
  refine ⟨by omega, fun hl3 => ?_⟩
  have d1 : (dig 4294967296 a).length = la := hla.symm
  have d2 : (dig 4294967296 b).length = lb := hlb.symm
  refine loop_of (fun c : Nat × List Nat => ⟨[J,J,J,J,J,J,.sl lb (row .u32 (dig 4294967296 b)),.osl 0 0 n,J,J,J,J,J,J,J,J,J,J,J,J,J,J,J,.sl la (row .u32 (dig 4294967296 a)),.int .i64 la,.int .i64 c.1,J,J,J,J,J,J,J,J,J,J,J,J,J,J,J,J,J,J,J,J,J,J,J,J,J,J,J,J,J,J,J,J,J,J,J,J,J,J,J,J,J,J,J,J,J,J,J], [.arr t_uint32 1 false (row .u32 c.2)]⟩)
    (fun c => c.1 ≤ la ∧ MulN 4294967296 a b lb n c.1 0 0 c.2) (fun c => la - c.1) (0, List.replicate n 0) [6, 7, 23, 24, 25] rfl ⟨by simp, MulN.start (by decide)⟩ ?_
  rintro ⟨i, l⟩ ⟨hi, H⟩
  simp only at hi H
  by_cases h0 : i < la
  · have gA : (row .u32 (dig 4294967296 a)).getD i .junk = .int .u32 ((a / 4294967296 ^ i % 4294967296 : Nat) : Int) := by rw [row_getD .u32 (by omega), dig_getD (by decide)]
    have q1 : i + 1 ≤ la := h0
    simp (maxSteps := 2000000) only [↓avp, ↓avmD, avq, ↓reduceIte, Nat.reduceAdd, Nat.reduceMul, Nat.reduceSub, Nat.reduceLT, Nat.reduceLeDiff, Nat.reduceEqDiff, Nat.reducePow, Nat.reduceMod, h0, gA, d1, d2, q1, hl1, hl2]
    refine loop_of (fun c : Nat × List Nat × Nat => ⟨[J,J,J,J,J,J,.sl lb (row .u32 (dig 4294967296 b)),.osl 0 0 n,.int .i64 i,.int .u32 ((a / 4294967296 ^ i % 4294967296 : Nat) : Int),.int .u64 c.2.2,J,J,J,J,J,J,J,J,J,J,J,J,.sl la (row .u32 (dig 4294967296 a)),.int .i64 la,.int .i64 i,J,J,J,J,.sl lb (row .u32 (dig 4294967296 b)),.int .i64 lb,.int .i64 c.1,J,J,J,J,J,J,J,J,J,J,J,J,J,J,J,J,J,J,J,J,J,J,J,J,J,J,J,J,J,J,J,J,J,J,J,J,J,J,J,J], [.arr t_uint32 1 false (row .u32 c.2.1)]⟩)
      (fun c => c.1 ≤ lb ∧ MulN 4294967296 a b lb n i c.1 c.2.2 c.2.1) (fun c => lb - c.1) (0, l, 0) [6, 7, 8, 9, 10, 23, 24, 25, 30, 31, 32] rfl ⟨by simp, H⟩ ?_
    clear H l
    rintro ⟨k, l, c⟩ ⟨hk, H⟩
    simp only at hk H
    have hll := H.len
    have hc1 := H.c1
    by_cases h1 : k < lb
    · obtain ⟨s, hs⟩ : ∃ s, s = c + ((a / 4294967296 ^ i % 4294967296) * (b / 4294967296 ^ k % 4294967296) + l.getD (i + k) 0) := ⟨_, rfl⟩
      obtain ⟨s1, s2, S⟩ := H.step (by decide) h1 (by omega) hs
      have s3 : s ≤ 18446744073709551615 := s1
      have gB : (row .u32 (dig 4294967296 b)).getD k .junk = .int .u32 ((b / 4294967296 ^ k % 4294967296 : Nat) : Int) := by rw [row_getD .u32 (by omega), dig_getD (by decide)]
      have g1 : (row .u32 l).getD (i + k) .junk = .int .u32 ((l.getD (i + k) 0 : Nat) : Int) := row_getD .u32 (by omega)
      have mA : a / 4294967296 ^ i % 4294967296 < 4294967296 := Nat.mod_lt _ (by decide)
      have mB : b / 4294967296 ^ k % 4294967296 < 4294967296 := Nat.mod_lt _ (by decide)
      have ml := H.lt.getD (by decide) (i + k)
      have m1 : a / 4294967296 ^ i % 4294967296 % 18446744073709551616 = a / 4294967296 ^ i % 4294967296 := m64 (by omega)
      have m2 : b / 4294967296 ^ k % 4294967296 % 18446744073709551616 = b / 4294967296 ^ k % 4294967296 := m64 (by omega)
      have m3 : l.getD (i + k) 0 % 18446744073709551616 = l.getD (i + k) 0 := m64 (by omega)
      have m4 : (a / 4294967296 ^ i % 4294967296) * (b / 4294967296 ^ k % 4294967296) % 18446744073709551616 = (a / 4294967296 ^ i % 4294967296) * (b / 4294967296 ^ k % 4294967296) := m64 (by omega)
      have m5 : ((a / 4294967296 ^ i % 4294967296) * (b / 4294967296 ^ k % 4294967296) + l.getD (i + k) 0) % 18446744073709551616 = (a / 4294967296 ^ i % 4294967296) * (b / 4294967296 ^ k % 4294967296) + l.getD (i + k) 0 := m64 (by omega)
      have m6 : s % 18446744073709551616 = s := m64 (by omega)
      have m7 : s / 4294967296 % 18446744073709551616 = s / 4294967296 := m64 (by omega)
      have w1 : IntKind.i64.wrap ((i + k : Nat) : Int) = ((i + k : Nat) : Int) := wi64 (by omega)
      have w2 : IntKind.i64.wrap ((k + 1 : Nat) : Int) = ((k + 1 : Nat) : Int) := wi64 (by omega)
      have c1 : i + k < n := by omega
      have c4 : i + k + 1 ≤ n := by omega
      have q2 : k + 1 ≤ lb := h1
      simp (maxSteps := 2000000) only [↓avp, ↓avmD, avq, ↓reduceIte, Nat.reduceAdd, Nat.reduceMul, Nat.reduceSub, Nat.reduceLT, Nat.reduceLeDiff, Nat.reduceEqDiff, Nat.reducePow, Nat.reduceMod, h1, gB, g1, m1, m2, m3, m4, m5, ← hs, m6, m7, w1, w2, c1, c4, d1, d2, hll, q2, hl1, hl2]
      exact LN.next (k + 1, l.set (i + k) (s % 4294967296), s / 4294967296) [6, 7, 8, 9, 10, 23, 24, 25, 30, 31, 32] ⟨q2, S⟩ (by simp only; omega) rfl
    · have e : k = lb := by omega
      subst e
      have S := H.next (by decide) hb2 (by omega)
      have w1 : IntKind.i64.wrap ((i + k : Nat) : Int) = ((i + k : Nat) : Int) := wi64 (by omega)
      have w2 : IntKind.i64.wrap ((i + 1 : Nat) : Int) = ((i + 1 : Nat) : Int) := wi64 (by omega)
      have m1 : c % 4294967296 = c := Nat.mod_eq_of_lt hc1
      have c1 : i + k < n := by omega
      have c4 : i + k + 1 ≤ n := by omega
      simp (maxSteps := 2000000) only [↓avp, ↓avmD, avq, ↓reduceIte, Nat.reduceAdd, Nat.reduceMul, Nat.reduceSub, Nat.reduceLT, Nat.reduceLeDiff, Nat.reduceEqDiff, Nat.reducePow, Nat.reduceMod, h1, w1, w2, m1, c1, c4, hll, d1, d2, hl1, hl2]
      exact LN.next (i + 1, l.set (i + k) c) [6, 7, 23, 24, 25] ⟨by simp only; omega, S⟩ (by simp only; omega) rfl
  · have e : i = la := by omega
    subst e
    have hv := H.fin ((dl_le_iff (by decide)).1 (by omega))
    have hll := H.len
    simp (maxSteps := 2000000) only [↓avp, ↓avmD, avq, ↓reduceIte, Nat.reduceAdd, Nat.reduceMul, Nat.reduceSub, Nat.reduceLT, Nat.reduceLeDiff, Nat.reduceEqDiff, Nat.reducePow, Nat.reduceMod, h0]
    refine ACall.fzc (H0 := []) 0 rfl rfl (Nat.le_refl _) (by simp only [avmF]) ?_
    have e0 : n ≤ l.length := by omega
    have e1 : l.take n = l := List.take_of_length_le (by omega)
    simp (maxSteps := 2000000) only [↓avp, ↓avmD, avq, ↓reduceIte, Nat.reduceAdd, Nat.reduceMul, Nat.reduceSub, Nat.reduceLT, Nat.reduceLeDiff, Nat.reduceEqDiff, Nat.reducePow, Nat.reduceMod, avmT, e0, e1]
    have ht := nat_of_px (G := G) l H.lt
    rw [hv] at ht
    unfold slV at ht
    rw [hll] at ht
    refine ht.call ?_
    simp (maxSteps := 2000000) only [↓avp, ↓avmD, avq, ↓reduceIte, Nat.reduceAdd, Nat.reduceMul, Nat.reduceSub, Nat.reduceLT, Nat.reduceLeDiff, Nat.reduceEqDiff, Nat.reducePow, Nat.reduceMod]
    refine ret_now ?_
    simp (maxSteps := 2000000) only [↓avp, ↓avmD, avq, ↓reduceIte, Nat.reduceAdd, Nat.reduceMul, Nat.reduceSub, Nat.reduceLT, Nat.reduceLeDiff, Nat.reduceEqDiff, Nat.reducePow, Nat.reduceMod, natV, slV]
end Va
/- The program's naturals: quotients by a digit, differences. -/
set_option linter.unusedSimpArgs false
set_option linter.unusedVariables false
set_option maxRecDepth 100000
set_option maxHeartbeats 8000000
open Go Go.Avm
namespace Va
attribute [local irreducible] ACallF FCallF
variable {G : Glob}
theorem nat_short_px (l : List Nat) (y : Nat) (hl : AllLt 4294967296 l) (hy : 0 < y) (hy2 : y ≤ 4294967296) (hn : l.length ≤ 1000000000) : PX P G n_nat_short [slV .u32 l, .int .u64 y] (.tup [slV .u32 (padd 4294967296 l.length (val 4294967296 l / y)), .int .u64 ((val 4294967296 l % y : Nat) : Int)]) := by
  refine PX_of_awp low_nat_short fol (by simp only [avmF, and_true]) (by simp only [avmF, and_true]) ?_
  obtain ⟨V, hV⟩ : ∃ V, V = val 4294967296 l := ⟨_, rfl⟩
  obtain ⟨n, hnn⟩ : ∃ n, n = l.length := ⟨_, rfl⟩
  rw [← hV, ← hnn]
  have hVl : V < 4294967296 ^ n := by rw [hV, hnn]; exact val_lt hl
  have e0 : IntKind.i64.wrap ((n : Int) - ((1 : Nat) : Int)) = (n : Int) - 1 := wi64_in (by omega) (by omega)
  simp only [ir_nat_short, sX, mX, initF, List.replicate, Nat.reduceAdd, Nat.reduceSub, iv, avmL]
  simp (maxSteps := 2000000) only [↓avp, ↓avmD, avq, ↓reduceIte, Nat.reduceAdd, Nat.reduceMul, Nat.reduceSub, Nat.reduceLT, Nat.reduceLeDiff, Nat.reduceEqDiff, Nat.reducePow, Nat.reduceMod, slV, ← hnn, e0]
  intro hl1
  refine ⟨by omega, fun _ => ?_⟩
  refine loop_of (fun c : Nat × List Nat => ⟨[.sl n (row .u32 l),.int .u64 y,J,J,J,J,.osl 0 0 n,.int .u64 ((V / 4294967296 ^ c.1 % y : Nat) : Int),.int .i64 ((c.1 : Int) - 1),J,J,J,J,J,J,J,J,J,J,J,J,J,J,J,J,J,J,J,J,J,J,J,J,J,J,J,J,J,J], [.arr t_uint32 1 false (row .u32 c.2)]⟩)
    (fun c => c.1 ≤ n ∧ c.2.length = n ∧ ∀ j, c.1 ≤ j → j < n → c.2.getD j 0 = V / y / 4294967296 ^ j % 4294967296) (fun c => c.1) (n, List.replicate n 0) [0, 1, 6, 7, 8] ?_ ⟨Nat.le_refl _, by simp, fun j h1 h2 => by simp only at h1; omega⟩ ?_
  · rw [Nat.div_eq_of_lt hVl, Nat.zero_mod]; rfl
  rintro ⟨k, m⟩ ⟨hk, hm, hz⟩
  simp only at hk hm hz
  rcases Nat.eq_zero_or_pos k with rfl | hk0
  · have h0 : (((0 : Nat) : Int) ≤ (((0 : Nat) : Int) - 1)) = False := by simp
    have hf := padd_of hm fun j hj => hz j (Nat.zero_le _) hj
    simp (maxSteps := 2000000) only [↓avp, ↓avmD, avq, ↓reduceIte, Nat.reduceAdd, Nat.reduceMul, Nat.reduceSub, Nat.reduceLT, Nat.reduceLeDiff, Nat.reduceEqDiff, Nat.reducePow, Nat.reduceMod, h0]
    refine ret_fz 0 (by rfl) (by simp only [avmF, and_true]) ?_
    have e1 : n ≤ m.length := by omega
    have e2 : m.take n = m := List.take_of_length_le (by omega)
    simp (maxSteps := 2000000) only [↓avp, ↓avmD, avq, ↓reduceIte, Nat.reduceAdd, Nat.reduceMul, Nat.reduceSub, Nat.reduceLT, Nat.reduceLeDiff, Nat.reduceEqDiff, Nat.reducePow, Nat.reduceMod, avmT, e1, e2]
    refine ret_now ?_
    simp (maxSteps := 2000000) only [↓avp, ↓avmD, avq, ↓reduceIte, Nat.reduceAdd, Nat.reduceMul, Nat.reduceSub, Nat.reduceLT, Nat.reduceLeDiff, Nat.reduceEqDiff, Nat.reducePow, Nat.reduceMod, slV, padd_length, Nat.pow_zero, Nat.div_one, e2]
    rw [← hf]
  · obtain ⟨i, rfl⟩ : ∃ i, k = i + 1 := ⟨k - 1, by omega⟩
    have ei : (((i + 1 : Nat) : Int) - 1) = (i : Int) := by omega
    have en : IntKind.i64.wrap ((i : Int) - ((1 : Nat) : Int)) = (i : Int) - 1 := wi64_in (by omega) (by omega)
    have hgd : l.getD i 0 = V / 4294967296 ^ i % 4294967296 := by rw [hV]; exact getD_val (by decide) hl i
    have gA : (row .u32 l).getD i .junk = .int .u32 ((V / 4294967296 ^ i % 4294967296 : Nat) : Int) := by rw [row_getD .u32 (by omega), hgd]
    have mA : V / 4294967296 ^ i % 4294967296 < 4294967296 := Nat.mod_lt _ (by decide)
    have mR : V / 4294967296 ^ (i + 1) % y < y := Nat.mod_lt _ hy
    obtain ⟨s1, s2, s3⟩ := short_step (B := 4294967296) (V := V) (y := y) (k := i) (by decide) hy
    obtain ⟨r, hr⟩ : ∃ r, r = V / 4294967296 ^ (i + 1) % y := ⟨_, rfl⟩
    rw [← hr] at s1 s2 s3 mR
    have m1 : r * 4294967296 % 18446744073709551616 = r * 4294967296 := m64 (by omega)
    have m1' : r % 18446744073709551616 = r := m64 (by omega)
    have m2 : V / 4294967296 ^ i % 4294967296 % 18446744073709551616 = V / 4294967296 ^ i % 4294967296 := m64 (by omega)
    have m3 : (r * 4294967296) ||| (V / 4294967296 ^ i % 4294967296) = r * 4294967296 + V / 4294967296 ^ i % 4294967296 := by
      have := Nat.two_pow_add_eq_or_of_lt (i := 32) (b := V / 4294967296 ^ i % 4294967296) mA r
      rw [show (2 : Nat) ^ 32 = 4294967296 by rfl, Nat.mul_comm] at this
      exact this.symm
    have m4 : (r * 4294967296 + V / 4294967296 ^ i % 4294967296) % 18446744073709551616 = r * 4294967296 + V / 4294967296 ^ i % 4294967296 := m64 (by omega)
    have m5 : V / y / 4294967296 ^ i % 4294967296 % 18446744073709551616 = V / y / 4294967296 ^ i % 4294967296 := m64 (by omega)
    have m6 : V / y / 4294967296 ^ i % 4294967296 % 4294967296 = V / y / 4294967296 ^ i % 4294967296 := Nat.mod_mod _ _
    have m7 : V / 4294967296 ^ i % y % 18446744073709551616 = V / 4294967296 ^ i % y := m64 (by have := Nat.mod_lt (V / 4294967296 ^ i) hy; omega)
    have hin : i < n := by omega
    have q1 : i + 1 ≤ n := by omega
    have y0 : ¬ y = 0 := by omega
    have y0' : (y = 0) = False := by simp; omega
    have y1 : y ≠ 0 := by omega
    simp (maxSteps := 2000000) only [↓avp, ↓avmD, avq, ↓reduceIte, Nat.reduceAdd, Nat.reduceMul, Nat.reduceSub, Nat.reduceLT, Nat.reduceLeDiff, Nat.reduceEqDiff, Nat.reducePow, Nat.reduceMod, ei, en, ← hr, gA, m1, m1', m2, m3, m4, s2, s3, m5, m6, m7, hin, hm, q1, ← hnn, y0, y0', y1, hl1]
    refine ⟨y1, y1, LN.next (i, m.set i (V / y / 4294967296 ^ i % 4294967296)) [0, 1, 6, 7, 8] ⟨by simp only; omega, by simp only [List.length_set]; exact hm, fun j h1 h2 => ?_⟩ (by simp only; omega) rfl⟩
    simp only at h1 ⊢
    by_cases e : j = i
    · subst e; exact getD_set_eq (by omega) _ _
    · rw [getD_set_ne (Ne.symm e)]; exact hz j (by omega) h2
theorem nat_Less_no (a b : Nat) (ha : dl 4294967296 a ≤ 1000000000) (hb : dl 4294967296 b ≤ 1000000000) (h : a < b) : PX P G n_nat_Nat_Less [natV a, natV b] (.tup [.nilp, .bool false]) := by
  refine PX_of_awp low_nat_Nat_Less fol (by simp only [avmF, natV, and_true]) (by simp only [avmF, and_true]) ?_
  have hC := nat_Cmp_px (G := G) a b ha hb
  have hc : cmpI a b = -1 := by unfold cmpI; rw [if_pos h]
  rw [hc] at hC
  have h0 : ((-1 : Int) < ((0 : Nat) : Int)) = True := by simp
  simp only [ir_nat_Nat_Less, sX, mX, initF, List.replicate, Nat.reduceAdd, Nat.reduceSub, iv, avmL]
  simp (maxSteps := 2000000) only [↓avp, ↓avmD, avq, ↓reduceIte, Nat.reduceAdd, Nat.reduceMul, Nat.reduceSub, Nat.reduceLT, Nat.reduceLeDiff, Nat.reduceEqDiff, Nat.reducePow, Nat.reduceMod]
  refine hC.call ?_
  simp (maxSteps := 2000000) only [↓avp, ↓avmD, avq, ↓reduceIte, Nat.reduceAdd, Nat.reduceMul, Nat.reduceSub, Nat.reduceLT, Nat.reduceLeDiff, Nat.reduceEqDiff, Nat.reducePow, Nat.reduceMod, h0]
  refine ret_now ?_
  simp (maxSteps := 2000000) only [↓avp, ↓avmD, avq, ↓reduceIte, Nat.reduceAdd, Nat.reduceMul, Nat.reduceSub, Nat.reduceLT, Nat.reduceLeDiff, Nat.reduceEqDiff, Nat.reducePow, Nat.reduceMod]
theorem nat_Less_px (a b : Nat) (ha : dl 4294967296 a ≤ 1000000000) (hb : dl 4294967296 b ≤ 1000000000) (h : b ≤ a) : PX P G n_nat_Nat_Less [natV a, natV b] (.tup [natV (a - b), .bool true]) := by
  refine PX_of_awp low_nat_Nat_Less fol (by simp only [avmF, natV, and_true]) (by simp only [avmF, natV, and_true]) ?_
  have hC := nat_Cmp_px (G := G) a b ha hb
  have hc : (cmpI a b < ((0 : Nat) : Int)) = False := by unfold cmpI; rw [if_neg (by omega)]; split <;> simp
  have dA := nat_digits_px (G := G) a
  have dB := nat_digits_px (G := G) b
  obtain ⟨n, hn⟩ : ∃ n, n = (dig 4294967296 a).length := ⟨_, rfl⟩
  have hna : dl 4294967296 a ≤ n := by unfold dl; omega
  have hn2 : n ≤ 1000000000 := by unfold dl at ha; omega
  unfold natV slV at dA dB hC
  rw [← hn] at dA hC
  simp only [ir_nat_Nat_Less, sX, mX, initF, List.replicate, Nat.reduceAdd, Nat.reduceSub, iv, avmL]
  simp (maxSteps := 2000000) only [↓avp, ↓avmD, avq, ↓reduceIte, Nat.reduceAdd, Nat.reduceMul, Nat.reduceSub, Nat.reduceLT, Nat.reduceLeDiff, Nat.reduceEqDiff, Nat.reducePow, Nat.reduceMod, natV, slV, ← hn]
  repeat ((first | refine hC.call ?_ | refine dA.call ?_ | refine dB.call ?_); simp (maxSteps := 2000000) only [↓avp, ↓avmD, avq, ↓reduceIte, Nat.reduceAdd, Nat.reduceMul, Nat.reduceSub, Nat.reduceLT, Nat.reduceLeDiff, Nat.reduceEqDiff, Nat.reducePow, Nat.reduceMod, hc])
  intro hl1
  refine ⟨by omega, fun _ => ?_⟩
  refine loop_of (fun c : Nat × List Nat × Nat => ⟨[J,J,J,J,J,J,.sl n (row .u32 (dig 4294967296 a)),.sl (dig 4294967296 b).length (row .u32 (dig 4294967296 b)),.osl 0 0 n,.int .i64 (-((c.2.2 : Nat) : Int)),J,J,J,J,J,J,J,J,J,J,J,J,J,.int .i64 n,.int .i64 c.1,J,J,J,J,J,J,J,J,J,J,J,J,J,J,J,J,J,J,J,J,J,J,J], [.arr t_uint32 1 false (row .u32 c.2.1)]⟩)
    (fun c => c.1 ≤ n ∧ SubN 4294967296 a b n c.1 c.2.2 c.2.1) (fun c => n - c.1) (0, List.replicate n 0, 0) [6, 7, 8, 9, 23, 24] rfl ⟨by simp, SubN.start (by decide)⟩ ?_
  rintro ⟨i, l, c⟩ ⟨hi, H⟩
  simp only at hi H
  have hll := H.len
  have hc1 := H.c1
  by_cases h0 : i < n
  · have gA := nat_at_px (G := G) _ (dig_lt (B := 4294967296) (by decide) a) i
    have gB := nat_at_px (G := G) _ (dig_lt (B := 4294967296) (by decide) b) i
    rw [dig_getD (by decide)] at gA gB
    unfold slV at gA gB
    rw [← hn] at gA
    obtain ⟨x, hx⟩ : ∃ x, x = a / 4294967296 ^ i % 4294967296 := ⟨_, rfl⟩
    obtain ⟨y, hy⟩ : ∃ y, y = b / 4294967296 ^ i % 4294967296 := ⟨_, rfl⟩
    have mA : x < 4294967296 := by rw [hx]; exact Nat.mod_lt _ (by decide)
    have mB : y < 4294967296 := by rw [hy]; exact Nat.mod_lt _ (by decide)
    rw [← hx] at gA
    rw [← hy] at gB
    obtain ⟨d, c', hd, hc', hs⟩ : ∃ d c', d < 4294967296 ∧ c' ≤ 1 ∧ d + c + y = x + c' * 4294967296 := by
      by_cases hh : c + y ≤ x
      · exact ⟨x - y - c, 0, by omega, by omega, by omega⟩
      · exact ⟨x + 4294967296 - y - c, 1, by omega, by omega, by omega⟩
    have S := H.step (by decide) h0 hd hc' (by rw [← hx, ← hy]; exact hs)
    have w1 : IntKind.i64.wrap ((i + 1 : Nat) : Int) = ((i + 1 : Nat) : Int) := wi64 (by omega)
    have w2 : IntKind.i64.wrap ((x : Nat) : Int) = ((x : Nat) : Int) := wi64 (by omega)
    have w3 : IntKind.i64.wrap ((y : Nat) : Int) = ((y : Nat) : Int) := wi64 (by omega)
    have w4 : IntKind.i64.wrap ((x : Int) - (y : Int)) = (x : Int) - (y : Int) := wi64_in (by omega) (by omega)
    obtain ⟨t, ht⟩ : ∃ t, t = -(c : Int) + ((x : Int) - (y : Int)) := ⟨_, rfl⟩
    have w5 : IntKind.i64.wrap (-(c : Int) + ((x : Int) - (y : Int))) = t := by rw [ht]; exact wi64_in (by omega) (by omega)
    have w6 : IntKind.u32.wrap t = ((d : Nat) : Int) := by
      simp only [IntKind.wrap, IntKind.signed, IntKind.bits, Bool.false_and]
      simp
      omega
    have w7 : t.fdiv (2 ^ 32) = -((c' : Nat) : Int) := by rw [Int.fdiv_eq_ediv_of_nonneg _ (by decide), show (2 : Int) ^ 32 = 4294967296 by rfl]; omega
    have w8 : IntKind.i64.wrap (-((c' : Nat) : Int)) = -((c' : Nat) : Int) := wi64_in (by omega) (by omega)
    have q1 : i + 1 ≤ n := by omega
    have hil : i < l.length := by omega
    simp (maxSteps := 2000000) only [↓avp, ↓avmD, avq, ↓reduceIte, Nat.reduceAdd, Nat.reduceMul, Nat.reduceSub, Nat.reduceLT, Nat.reduceLeDiff, Nat.reduceEqDiff, Nat.reducePow, Nat.reduceMod, h0]
    repeat ((first | refine gA.call ?_ | refine gB.call ?_); simp (maxSteps := 2000000) only [↓avp, ↓avmD, avq, ↓reduceIte, Nat.reduceAdd, Nat.reduceMul, Nat.reduceSub, Nat.reduceLT, Nat.reduceLeDiff, Nat.reduceEqDiff, Nat.reducePow, Nat.reduceMod, w1, w2, w3, w4, w5, w6, w7, w8, hil, hll, h0, q1])
    exact LN.next (i + 1, l.set i d, c') [6, 7, 8, 9, 23, 24] ⟨q1, S⟩ (by simp only; omega) rfl
  · have e : i = n := by omega
    subst e
    have hv := H.fin (by decide) hna h
    simp (maxSteps := 2000000) only [↓avp, ↓avmD, avq, ↓reduceIte, Nat.reduceAdd, Nat.reduceMul, Nat.reduceSub, Nat.reduceLT, Nat.reduceLeDiff, Nat.reduceEqDiff, Nat.reducePow, Nat.reduceMod, h0]
    refine ACall.fzc (H0 := []) 0 rfl rfl (Nat.le_refl _) (by simp only [avmF]) ?_
    have e0 : i ≤ l.length := by omega
    have e1 : l.take i = l := List.take_of_length_le (by omega)
    simp (maxSteps := 2000000) only [↓avp, ↓avmD, avq, ↓reduceIte, Nat.reduceAdd, Nat.reduceMul, Nat.reduceSub, Nat.reduceLT, Nat.reduceLeDiff, Nat.reduceEqDiff, Nat.reducePow, Nat.reduceMod, avmT, e0, e1]
    have ht := nat_of_px (G := G) l H.lt
    rw [hv] at ht
    unfold slV at ht
    rw [hll] at ht
    refine ht.call ?_
    simp (maxSteps := 2000000) only [↓avp, ↓avmD, avq, ↓reduceIte, Nat.reduceAdd, Nat.reduceMul, Nat.reduceSub, Nat.reduceLT, Nat.reduceLeDiff, Nat.reduceEqDiff, Nat.reducePow, Nat.reduceMod]
    refine ret_now ?_
    simp (maxSteps := 2000000) only [↓avp, ↓avmD, avq, ↓reduceIte, Nat.reduceAdd, Nat.reduceMul, Nat.reduceSub, Nat.reduceLT, Nat.reduceLeDiff, Nat.reduceEqDiff, Nat.reducePow, Nat.reduceMod, natV, slV]
end Va
/- The program's naturals: how many bits, noughts at the low end, shifts. -/
set_option linter.unusedSimpArgs false
set_option linter.unusedVariables false
set_option maxRecDepth 100000
set_option maxHeartbeats 8000000
open Go Go.Avm
namespace Va
attribute [local irreducible] ACallF FCallF
variable {G : Glob}
theorem nat_Bits_px (n : Nat) (hn : dl 4294967296 n ≤ 1000000000) : PX P G n_nat_Nat_Bits [natV n] (.int .i64 ((dl 2 n : Nat) : Int)) := by
  refine PX_of_awp low_nat_Nat_Bits fol (by simp only [avmF, natV, and_true]) (by simp only [avmF]) ?_
  have dA := nat_digits_px (G := G) n
  obtain ⟨len, hlen⟩ : ∃ k, k = (dig 4294967296 n).length := ⟨_, rfl⟩
  have hl2 : dl 4294967296 n = len := hlen.symm
  unfold natV slV at dA
  rw [← hlen] at dA
  have u1 : len ≤ 9223372036854775807 := by omega
  have d1 : (dig 4294967296 n).length = len := hlen.symm
  rcases Nat.eq_zero_or_pos n with h0 | h0
  · have e1 : len = 0 := by rw [← hl2, h0]; exact dl_zero _
    have e2 : (len = 0) = True := by simp [e1]
    simp only [ir_nat_Nat_Bits, sX, mX, initF, List.replicate, Nat.reduceAdd, Nat.reduceSub, iv, avmL]
    simp (maxSteps := 2000000) only [↓avp, ↓avmD, avq, ↓reduceIte, Nat.reduceAdd, Nat.reduceMul, Nat.reduceSub, Nat.reduceLT, Nat.reduceLeDiff, Nat.reduceEqDiff, Nat.reducePow, Nat.reduceMod, natV, slV, d1]
    refine dA.call ?_
    simp (maxSteps := 2000000) only [↓avp, ↓avmD, avq, ↓reduceIte, Nat.reduceAdd, Nat.reduceMul, Nat.reduceSub, Nat.reduceLT, Nat.reduceLeDiff, Nat.reduceEqDiff, Nat.reducePow, Nat.reduceMod, u1, e2]
    refine ret_now ?_
    simp (maxSteps := 2000000) only [↓avp, ↓avmD, avq, ↓reduceIte, Nat.reduceAdd, Nat.reduceMul, Nat.reduceSub, Nat.reduceLT, Nat.reduceLeDiff, Nat.reduceEqDiff, Nat.reducePow, Nat.reduceMod]
    rw [h0, dl_zero]
  · have hB := dl_bits h0
    rw [hl2] at hB
    obtain ⟨x, hx⟩ : ∃ x, x = n / 4294967296 ^ (len - 1) % 4294967296 := ⟨_, rfl⟩
    rw [← hx] at hB
    have hx2 : x < 4294967296 := by rw [hx]; exact Nat.mod_lt _ (by decide)
    have e1 : len ≠ 0 := fun e => by rw [← hl2] at e; rw [dl_eq_zero (by decide)] at e; omega
    have e2 : (len = 0) = False := by simp [e1]
    have k1 : 1 ≤ len := by omega
    have k2 : len - 1 ≤ 9223372036854775807 := by omega
    have k3 : 32 * (len - 1) ≤ 9223372036854775807 := by omega
    have k4 : len - 1 < len := by omega
    have gA : (row .u32 (dig 4294967296 n)).getD (len - 1) .junk = .int .u32 ((x : Nat) : Int) := by rw [row_getD .u32 (by omega), dig_getD (by decide), ← hx]
    have m1 : x % 18446744073709551616 = x := m64 (by omega)
    have L := bits_Len_px (G := G) x (by omega)
    have b2 := dl_two_le n
    have k5 : 32 * (len - 1) + dl 2 x ≤ 9223372036854775807 := by omega
    simp only [ir_nat_Nat_Bits, sX, mX, initF, List.replicate, Nat.reduceAdd, Nat.reduceSub, iv, avmL]
    simp (maxSteps := 2000000) only [↓avp, ↓avmD, avq, ↓reduceIte, Nat.reduceAdd, Nat.reduceMul, Nat.reduceSub, Nat.reduceLT, Nat.reduceLeDiff, Nat.reduceEqDiff, Nat.reducePow, Nat.reduceMod, natV, slV, d1]
    repeat ((first | refine dA.call ?_ | refine L.call ?_); simp (maxSteps := 2000000) only [↓avp, ↓avmD, avq, ↓reduceIte, Nat.reduceAdd, Nat.reduceMul, Nat.reduceSub, Nat.reduceLT, Nat.reduceLeDiff, Nat.reduceEqDiff, Nat.reducePow, Nat.reduceMod, u1, e2, k1, k2, k3, k4, wi64, gA, d1, m1, k5])
    refine ret_now ?_
    simp (maxSteps := 2000000) only [↓avp, ↓avmD, avq, ↓reduceIte, Nat.reduceAdd, Nat.reduceMul, Nat.reduceSub, Nat.reduceLT, Nat.reduceLeDiff, Nat.reduceEqDiff, Nat.reducePow, Nat.reduceMod]
    rw [hB]
theorem nat_Bits_nil : PX P G n_nat_Nat_Bits [.nilp] (.int .i64 ((0 : Nat) : Int)) := by
  refine PX_of_awp low_nat_Nat_Bits fol (by simp only [avmF, natV, and_true]) (by simp only [avmF]) ?_
  have dA := nat_digits_nil (G := G)
  unfold slV at dA
  simp only [ir_nat_Nat_Bits, sX, mX, initF, List.replicate, Nat.reduceAdd, Nat.reduceSub, iv, avmL]
  simp (maxSteps := 2000000) only [↓avp, ↓avmD, avq, ↓reduceIte, Nat.reduceAdd, Nat.reduceMul, Nat.reduceSub, Nat.reduceLT, Nat.reduceLeDiff, Nat.reduceEqDiff, Nat.reducePow, Nat.reduceMod]
  refine dA.call ?_
  simp (maxSteps := 2000000) only [↓avp, ↓avmD, avq, ↓reduceIte, Nat.reduceAdd, Nat.reduceMul, Nat.reduceSub, Nat.reduceLT, Nat.reduceLeDiff, Nat.reduceEqDiff, Nat.reducePow, Nat.reduceMod, List.length_nil]
  refine ret_now ?_
  simp (maxSteps := 2000000) only [↓avp, ↓avmD, avq, ↓reduceIte, Nat.reduceAdd, Nat.reduceMul, Nat.reduceSub, Nat.reduceLT, Nat.reduceLeDiff, Nat.reduceEqDiff, Nat.reducePow, Nat.reduceMod]
theorem nat_Twos_px (n : Nat) (hn : dl 4294967296 n ≤ 1000000000) : PX P G n_nat_Nat_Twos [natV n] (.int .i64 ((tz n : Nat) : Int)) := by
  refine PX_of_awp low_nat_Nat_Twos fol (by simp only [avmF, natV, and_true]) (by simp only [avmF]) ?_
  have dA := nat_digits_px (G := G) n
  obtain ⟨len, hlen⟩ : ∃ k, k = (dig 4294967296 n).length := ⟨_, rfl⟩
  have hl2 : dl 4294967296 n = len := hlen.symm
  unfold natV slV at dA
  rw [← hlen] at dA
  have u1 : len ≤ 9223372036854775807 := by omega
  have d1 : (dig 4294967296 n).length = len := hlen.symm
  simp only [ir_nat_Nat_Twos, sX, mX, initF, List.replicate, Nat.reduceAdd, Nat.reduceSub, iv, avmL]
  simp (maxSteps := 2000000) only [↓avp, ↓avmD, avq, ↓reduceIte, Nat.reduceAdd, Nat.reduceMul, Nat.reduceSub, Nat.reduceLT, Nat.reduceLeDiff, Nat.reduceEqDiff, Nat.reducePow, Nat.reduceMod, natV, slV, d1]
  refine dA.call ?_
  simp (maxSteps := 2000000) only [↓avp, ↓avmD, avq, ↓reduceIte, Nat.reduceAdd, Nat.reduceMul, Nat.reduceSub, Nat.reduceLT, Nat.reduceLeDiff, Nat.reduceEqDiff, Nat.reducePow, Nat.reduceMod, u1]
  refine loop_of (fun i : Nat => ⟨[J,J,J,J,J,J,.sl len (row .u32 (dig 4294967296 n)),.int .i64 len,.int .i64 i,J,J,J,J,J,J,J,J,J,J,J,J,J], []⟩)
    (fun i => i ≤ len ∧ n % 4294967296 ^ i = 0) (fun i => len - i) 0 [6, 7, 8] rfl ⟨Nat.zero_le _, by rw [Nat.pow_zero, Nat.mod_one]⟩ ?_
  rintro i ⟨hi, hz⟩
  by_cases h1 : i < len
  · obtain ⟨x, hx⟩ : ∃ x, x = n / 4294967296 ^ i % 4294967296 := ⟨_, rfl⟩
    have hx2 : x < 4294967296 := by rw [hx]; exact Nat.mod_lt _ (by decide)
    have gA : (row .u32 (dig 4294967296 n)).getD i .junk = .int .u32 ((x : Nat) : Int) := by rw [row_getD .u32 (by omega), dig_getD (by decide), ← hx]
    by_cases h2 : x = 0
    · have w1 : IntKind.i64.wrap ((i + 1 : Nat) : Int) = ((i + 1 : Nat) : Int) := wi64 (by omega)
      have e1 : (x ≠ 0) = False := by simp [h2]
      simp (maxSteps := 2000000) only [↓avp, ↓avmD, avq, ↓reduceIte, Nat.reduceAdd, Nat.reduceMul, Nat.reduceSub, Nat.reduceLT, Nat.reduceLeDiff, Nat.reduceEqDiff, Nat.reducePow, Nat.reduceMod, h1, gA, d1, e1, w1]
      refine LN.next (i + 1) [6, 7, 8] ⟨h1, ?_⟩ (by omega) rfl
      rw [mod_pow_succ, hz, ← hx, h2]; rfl
    · have e1 : (x ≠ 0) = True := by simp [h2]
      have m1 : x % 18446744073709551616 = x := m64 (by omega)
      have Z := bits_Zeros_px (G := G) x (by omega)
      have hzz : ctz 64 x = tz x := tz_word (by omega) (by omega)
      rw [hzz] at Z
      have hf : tz n = 32 * i + tz x := by
        obtain ⟨m, hm⟩ := tz_spec (n := x) (by omega)
        have e2 := Nat.div_add_mod n (4294967296 ^ i)
        have e3 := Nat.div_add_mod (n / 4294967296 ^ i) 4294967296
        rw [hz, Nat.add_zero] at e2
        rw [← hx] at e3
        have hd := tz_lt_dl (n := x) (by omega)
        have hd2 : dl 2 x ≤ 32 := (dl_le_iff (by decide)).2 (by omega)
        obtain ⟨k, hk⟩ : ∃ k, 4294967296 = 2 ^ tz x * (2 * k) := by
          refine ⟨2 ^ (31 - tz x), ?_⟩
          rw [show 2 * 2 ^ (31 - tz x) = 2 ^ (32 - tz x) by rw [Nat.mul_comm, ← Nat.pow_succ]; congr 1; omega, ← Nat.pow_add, show tz x + (32 - tz x) = 32 by omega]
        refine tz_unique (m := k * (n / 4294967296 ^ i / 4294967296) + m) ?_
        have e4 : 4294967296 * (n / 4294967296 ^ i / 4294967296) + x = 2 ^ tz x * (2 * (k * (n / 4294967296 ^ i / 4294967296) + m) + 1) := by
          have e5 : 4294967296 * (n / 4294967296 ^ i / 4294967296) = 2 ^ tz x * (2 * k) * (n / 4294967296 ^ i / 4294967296) := by rw [← hk]
          rw [e5]
          conv => lhs; rhs; rw [hm]
          generalize n / 4294967296 ^ i / 4294967296 = W
          generalize 2 ^ tz x = T
          grind
        rw [Nat.pow_add, Nat.pow_mul, show (2 : Nat) ^ 32 = 4294967296 by rfl, Nat.mul_assoc, ← e4, e3, e2]
      have k3 : 32 * i ≤ 9223372036854775807 := by omega
      have hd := tz_lt_dl (n := x) (by omega)
      have hd2 : dl 2 x ≤ 32 := (dl_le_iff (by decide)).2 (by omega)
      have k5 : 32 * i + tz x ≤ 9223372036854775807 := by omega
      simp (maxSteps := 2000000) only [↓avp, ↓avmD, avq, ↓reduceIte, Nat.reduceAdd, Nat.reduceMul, Nat.reduceSub, Nat.reduceLT, Nat.reduceLeDiff, Nat.reduceEqDiff, Nat.reducePow, Nat.reduceMod, h1, gA, d1, e1, m1, k3, wi64]
      refine Z.call ?_
      simp (maxSteps := 2000000) only [↓avp, ↓avmD, avq, ↓reduceIte, Nat.reduceAdd, Nat.reduceMul, Nat.reduceSub, Nat.reduceLT, Nat.reduceLeDiff, Nat.reduceEqDiff, Nat.reducePow, Nat.reduceMod, k5, wi64]
      refine ret_now ?_
      simp (maxSteps := 2000000) only [↓avp, ↓avmD, avq, ↓reduceIte, Nat.reduceAdd, Nat.reduceMul, Nat.reduceSub, Nat.reduceLT, Nat.reduceLeDiff, Nat.reduceEqDiff, Nat.reducePow, Nat.reduceMod]
      rw [hf]
  · have e : i = len := by omega
    subst e
    have hn0 : n = 0 := by
      have h2 := lt_pow_dl (B := 4294967296) (by decide) n
      rw [hl2] at h2
      rw [Nat.mod_eq_of_lt h2] at hz
      exact hz
    have e0 : tz n = 0 := by rw [hn0]; rfl
    simp (maxSteps := 2000000) only [↓avp, ↓avmD, avq, ↓reduceIte, Nat.reduceAdd, Nat.reduceMul, Nat.reduceSub, Nat.reduceLT, Nat.reduceLeDiff, Nat.reduceEqDiff, Nat.reducePow, Nat.reduceMod, h1]
    refine ret_now ?_
    simp (maxSteps := 2000000) only [↓avp, ↓avmD, avq, ↓reduceIte, Nat.reduceAdd, Nat.reduceMul, Nat.reduceSub, Nat.reduceLT, Nat.reduceLeDiff, Nat.reduceEqDiff, Nat.reducePow, Nat.reduceMod]
    rw [e0]
end Va
/- The program's naturals: shifts. -/
set_option linter.unusedSimpArgs false
set_option linter.unusedVariables false
set_option maxRecDepth 100000
set_option maxHeartbeats 8000000
open Go Go.Avm
namespace Va
attribute [local irreducible] ACallF FCallF
variable {G : Glob}
theorem nat_up_px (n k : Nat) (hn : dl 4294967296 n ≤ 1000000000) (hk : k ≤ 40000000000) : PX P G n_nat_Nat_up [natV n, .int .i64 k] (natV (n * 2 ^ k)) := by
  refine PX_of_awp low_nat_Nat_up fol (by simp only [avmF, natV, and_true]) (by simp only [avmF, natV, and_true]) ?_
  have dA := nat_digits_px (G := G) n
  obtain ⟨len, hlen⟩ : ∃ k, k = (dig 4294967296 n).length := ⟨_, rfl⟩
  have hl2 : dl 4294967296 n = len := hlen.symm
  unfold natV slV at dA
  rw [← hlen] at dA
  have u1 : len ≤ 9223372036854775807 := by omega
  have d1 : (dig 4294967296 n).length = len := hlen.symm
  obtain ⟨q, hq⟩ : ∃ q, q = k / 32 := ⟨_, rfl⟩
  obtain ⟨s, hs⟩ : ∃ s, s = k % 32 := ⟨_, rfl⟩
  have hs2 : s < 32 := by omega
  have hk2 : k = 32 * q + s := by omega
  obtain ⟨N, hN⟩ : ∃ N, N = len + q + 1 := ⟨_, rfl⟩
  have v1 : IntKind.i64.wrap ((q : Nat) : Int) = ((q : Nat) : Int) := wi64 (by omega)
  have v2 : IntKind.i64.wrap ((len + q : Nat) : Int) = ((len + q : Nat) : Int) := wi64 (by omega)
  have v3 : IntKind.i64.wrap ((len + q + 1 : Nat) : Int) = ((N : Nat) : Int) := by rw [← hN]; exact wi64 (by omega)
  simp only [ir_nat_Nat_up, sX, mX, initF, List.replicate, Nat.reduceAdd, Nat.reduceSub, iv, avmL]
  simp (maxSteps := 2000000) only [↓avp, ↓avmD, avq, ↓reduceIte, Nat.reduceAdd, Nat.reduceMul, Nat.reduceSub, Nat.reduceLT, Nat.reduceLeDiff, Nat.reduceEqDiff, Nat.reducePow, Nat.reduceMod, natV, slV, d1]
  refine dA.call ?_
  simp (maxSteps := 2000000) only [↓avp, ↓avmD, avq, ↓reduceIte, Nat.reduceAdd, Nat.reduceMul, Nat.reduceSub, Nat.reduceLT, Nat.reduceLeDiff, Nat.reduceEqDiff, Nat.reducePow, Nat.reduceMod, u1, ← hq, v1, v2, v3]
  refine ⟨by omega, ?_⟩
  refine loop_of (fun c : Nat × List Nat => ⟨[J,.int .i64 k,J,J,J,J,.osl 0 0 N,J,J,J,J,J,J,J,J,J,J,J,J,.sl len (row .u32 (dig 4294967296 n)),.int .i64 len,.int .i64 c.1,J,J,J,J,J,J,J,J,J,J,J,J,J,J,J,J,J,J,J,J,J,J,J,J,J,J,J,J,J,J,J,J,J], [.arr t_uint32 1 false (row .u32 c.2)]⟩)
    (fun c => c.1 ≤ len ∧ c.2.length = N ∧ UpN n s q c.1 c.2) (fun c => len - c.1) (0, List.replicate N 0) [1, 6, 19, 20, 21] rfl ⟨by simp, by simp, UpN.start⟩ ?_
  rintro ⟨i, l⟩ ⟨hi, hll, H⟩
  simp only at hi hll H
  by_cases h0 : i < len
  · obtain ⟨x, hx⟩ : ∃ x, x = n / 4294967296 ^ i % 4294967296 := ⟨_, rfl⟩
    have hx2 : x < 4294967296 := by rw [hx]; exact Nat.mod_lt _ (by decide)
    have gA : (row .u32 (dig 4294967296 n)).getD i .junk = .int .u32 ((x : Nat) : Int) := by rw [row_getD .u32 (by omega), dig_getD (by decide), ← hx]
    have m1 : x % 18446744073709551616 = x := m64 (by omega)
    obtain ⟨y, hy⟩ : ∃ y, y = x * 2 ^ s := ⟨_, rfl⟩
    have hp32 : 2 ^ s ≤ 2147483648 := Nat.le_trans (Nat.pow_le_pow_right (by decide) (show s ≤ 31 by omega)) (by decide)
    have hy2 : y < 18446744073709551616 := by
      have := Nat.mul_le_mul (Nat.le_of_lt hx2) hp32
      omega
    have m2 : y % 18446744073709551616 = y := m64 hy2
    obtain ⟨o1, o2⟩ := up_or (x := x) hs2 H.top
    rw [← hy] at o1 o2
    obtain ⟨v, hv⟩ : ∃ v, v = l.getD (q + i) 0 := ⟨_, rfl⟩
    have S := H.step hs2 (by omega) hx hy
    have htop := H.top
    rw [← hv] at o1 o2 S htop
    rw [Nat.add_comm q i] at S hv
    have hvlt : v < 4294967296 := by omega
    have m3 : v % 4294967296 = v := m32 hvlt
    have m4 : (v + y % 4294967296) % 4294967296 = v + y % 4294967296 := m32 o2
    have m5 : y / 4294967296 % 18446744073709551616 = y / 4294967296 := m64 (by omega)
    have m6 : y / 4294967296 % 4294967296 = y / 4294967296 := m32 (by omega)
    have g1 : (row .u32 l).getD (i + q) .junk = .int .u32 ((v : Nat) : Int) := by rw [row_getD .u32 (by omega), ← hv]
    have s64 : s ≤ 64 := by omega
    have w2 : IntKind.i64.wrap ((i + q : Nat) : Int) = ((i + q : Nat) : Int) := wi64 (by omega)
    have w3 : IntKind.i64.wrap ((i + q + 1 : Nat) : Int) = ((i + q + 1 : Nat) : Int) := wi64 (by omega)
    have w4 : IntKind.i64.wrap ((i + 1 : Nat) : Int) = ((i + 1 : Nat) : Int) := wi64 (by omega)
    have c1 : i + q < N := by omega
    have c2 : i + q + 1 < N := by omega
    have c3 : i + q + 1 ≤ N := by omega
    have c4 : i + q + 1 + 1 ≤ N := by omega
    simp (maxSteps := 2000000) only [↓avp, ↓avmD, avq, ↓reduceIte, Nat.reduceAdd, Nat.reduceMul, Nat.reduceSub, Nat.reduceLT, Nat.reduceLeDiff, Nat.reduceEqDiff, Nat.reducePow, Nat.reduceMod, h0, gA, d1, m1, ← hq, ← hs, s64, ← hy, m2, v1, w2, c1, hll, g1, o1, m3, m4, m5, m6, w3, w4, c2, c3, c4, List.length_set]
    exact LN.next (i + 1, (l.set (i + q) (v + y % 4294967296)).set (i + q + 1) (y / 4294967296)) [1, 6, 19, 20, 21] ⟨h0, by simp only [List.length_set]; exact hll, S⟩ (by simp only; omega) rfl
  · have e : i = len := by omega
    subst e
    have hv := H.fin (by rw [← hl2]; exact lt_pow_dl (by decide) n)
    rw [← hk2] at hv
    simp (maxSteps := 2000000) only [↓avp, ↓avmD, avq, ↓reduceIte, Nat.reduceAdd, Nat.reduceMul, Nat.reduceSub, Nat.reduceLT, Nat.reduceLeDiff, Nat.reduceEqDiff, Nat.reducePow, Nat.reduceMod, h0]
    refine ACall.fzc (H0 := []) 0 rfl rfl (Nat.le_refl _) (by simp only [avmF]) ?_
    have e0 : N ≤ l.length := by omega
    have e1 : l.take N = l := List.take_of_length_le (by omega)
    simp (maxSteps := 2000000) only [↓avp, ↓avmD, avq, ↓reduceIte, Nat.reduceAdd, Nat.reduceMul, Nat.reduceSub, Nat.reduceLT, Nat.reduceLeDiff, Nat.reduceEqDiff, Nat.reducePow, Nat.reduceMod, avmT, e0, e1]
    have ht := nat_of_px (G := G) l H.lt
    rw [hv] at ht
    unfold slV at ht
    rw [hll] at ht
    refine ht.call ?_
    simp (maxSteps := 2000000) only [↓avp, ↓avmD, avq, ↓reduceIte, Nat.reduceAdd, Nat.reduceMul, Nat.reduceSub, Nat.reduceLT, Nat.reduceLeDiff, Nat.reduceEqDiff, Nat.reducePow, Nat.reduceMod]
    refine ret_now ?_
    simp (maxSteps := 2000000) only [↓avp, ↓avmD, avq, ↓reduceIte, Nat.reduceAdd, Nat.reduceMul, Nat.reduceSub, Nat.reduceLT, Nat.reduceLeDiff, Nat.reduceEqDiff, Nat.reducePow, Nat.reduceMod, natV, slV]
theorem nat_of_nils : PX P G n_nat_of [.nils] (natV 0) := by
  have h := nat_of_px (G := G) [] (by intro d hd; cases hd)
  have e : val 4294967296 [] = 0 := rfl
  rw [e] at h
  exact h.wk_args (.cons Wk.nils (WkL.refl _)) (by simp only [avmF, and_true])
theorem nat_down_px (n k : Nat) (hn : dl 4294967296 n ≤ 1000000000) (hk : k ≤ 40000000000) : PX P G n_nat_Nat_down [natV n, .int .i64 k] (natV (n / 2 ^ k)) := by
  refine PX_of_awp low_nat_Nat_down fol (by simp only [avmF, natV, and_true]) (by simp only [avmF, natV, and_true]) ?_
  have dA := nat_digits_px (G := G) n
  obtain ⟨len, hlen⟩ : ∃ k, k = (dig 4294967296 n).length := ⟨_, rfl⟩
  have hl2 : dl 4294967296 n = len := hlen.symm
  unfold natV slV at dA
  rw [← hlen] at dA
  have u1 : len ≤ 9223372036854775807 := by omega
  have d1 : (dig 4294967296 n).length = len := hlen.symm
  obtain ⟨q, hq⟩ : ∃ q, q = k / 32 := ⟨_, rfl⟩
  obtain ⟨s, hs⟩ : ∃ s, s = k % 32 := ⟨_, rfl⟩
  have hs2 : s < 32 := by omega
  have hk2 : k = 32 * q + s := by omega
  have hlt := lt_pow_dl (B := 4294967296) (by decide) n
  rw [hl2] at hlt
  have hdiv : n / 2 ^ k = n / 4294967296 ^ q / 2 ^ s := by
    rw [hk2, Nat.pow_add, Nat.pow_mul, ← Nat.div_div_eq_div_mul]
  have v1 : IntKind.i64.wrap ((q : Nat) : Int) = ((q : Nat) : Int) := wi64 (by omega)
  by_cases hc : len ≤ q
  · have hz : n / 2 ^ k = 0 := by
      rw [hdiv, Nat.div_eq_of_lt (Nat.lt_of_lt_of_le hlt (Nat.pow_le_pow_right (by decide) hc)), Nat.zero_div]
    rw [hz]
    simp only [ir_nat_Nat_down, sX, mX, initF, List.replicate, Nat.reduceAdd, Nat.reduceSub, iv, avmL]
    simp (maxSteps := 2000000) only [↓avp, ↓avmD, avq, ↓reduceIte, Nat.reduceAdd, Nat.reduceMul, Nat.reduceSub, Nat.reduceLT, Nat.reduceLeDiff, Nat.reduceEqDiff, Nat.reducePow, Nat.reduceMod, natV, slV, d1]
    repeat ((first | refine dA.call ?_ | refine nat_of_nils.call ?_); simp (maxSteps := 2000000) only [↓avp, ↓avmD, avq, ↓reduceIte, Nat.reduceAdd, Nat.reduceMul, Nat.reduceSub, Nat.reduceLT, Nat.reduceLeDiff, Nat.reduceEqDiff, Nat.reducePow, Nat.reduceMod, u1, ← hq, v1, hc])
    refine ret_now ?_
    simp (maxSteps := 2000000) only [↓avp, ↓avmD, avq, ↓reduceIte, Nat.reduceAdd, Nat.reduceMul, Nat.reduceSub, Nat.reduceLT, Nat.reduceLeDiff, Nat.reduceEqDiff, Nat.reducePow, Nat.reduceMod, natV, slV]
  · obtain ⟨N, hN⟩ : ∃ N, N = len - q := ⟨_, rfl⟩
    have b1 : q ≤ len := by omega
    have e1 : (row IntKind.u32 ((dig 4294967296 n).drop q)).take N = row IntKind.u32 ((dig 4294967296 n).drop q) := List.take_of_length_le (by rw [row_length, List.length_drop, d1]; omega)
    have e2 : ((dig 4294967296 n).drop q).take N = (dig 4294967296 n).drop q := List.take_of_length_le (by rw [List.length_drop, d1]; omega)
    have u2 : N ≤ 9223372036854775807 := by omega
    have hsz : 0 ≤ 0 ∧ N * 4 ≤ 140737488355328 := by omega
    simp only [ir_nat_Nat_down, sX, mX, initF, List.replicate, Nat.reduceAdd, Nat.reduceSub, iv, avmL]
    simp (maxSteps := 2000000) only [↓avp, ↓avmD, avq, ↓reduceIte, Nat.reduceAdd, Nat.reduceMul, Nat.reduceSub, Nat.reduceLT, Nat.reduceLeDiff, Nat.reduceEqDiff, Nat.reducePow, Nat.reduceMod, natV, slV, d1]
    refine dA.call ?_
    simp (maxSteps := 2000000) only [↓avp, ↓avmD, avq, ↓reduceIte, Nat.reduceAdd, Nat.reduceMul, Nat.reduceSub, Nat.reduceLT, Nat.reduceLeDiff, Nat.reduceEqDiff, Nat.reducePow, Nat.reduceMod, u1, ← hq, v1, hc, b1, ← hN, e2, u2, hsz.2]
    refine ⟨d1, by omega, ?_⟩
    obtain ⟨V, hV⟩ : ∃ V, V = n / 2 ^ k := ⟨_, rfl⟩
    rw [← hV]
    have hVlt : V < 4294967296 ^ N := by
      rw [hV, hdiv]
      refine Nat.lt_of_le_of_lt (Nat.div_le_self _ _) (Nat.div_lt_of_lt_mul ?_)
      rw [← Nat.pow_add, show q + N = len by omega]
      exact hlt
    refine loop_of (fun c : Nat × List Nat => ⟨[J,.int .i64 k,J,J,J,.sl N (row .u32 ((dig 4294967296 n).drop q)),.osl 0 0 N,J,J,J,J,J,J,J,J,J,J,J,J,J,J,J,J,J,.int .i64 N,.int .i64 c.1,J,J,J,J,J,J,J,J,J,J,J,J,J,J,J,J,J,J,J,J,J], [.arr t_uint32 1 false (row .u32 c.2)]⟩)
      (fun c => c.1 ≤ N ∧ c.2.length = N ∧ ∀ j, j < c.1 → c.2.getD j 0 = V / 4294967296 ^ j % 4294967296) (fun c => N - c.1) (0, List.replicate N 0) [1, 5, 6, 24, 25] rfl ⟨by simp, by simp, fun j hj => by simp at hj⟩ ?_
    rintro ⟨i, l⟩ ⟨hi, hll, H⟩
    simp only at hi hll H
    have gd : ∀ j, ((dig 4294967296 n).drop q).getD j 0 = n / 4294967296 ^ (q + j) % 4294967296 := fun j => by
      rw [List.getD_eq_getElem?_getD, List.getElem?_drop, ← List.getD_eq_getElem?_getD, dig_getD (by decide)]
    by_cases h0 : i < N
    · have hal : AllLt 4294967296 ((dig 4294967296 n).drop q) := (dig_lt (by decide) n).drop q
      have gA := nat_at_px (G := G) _ hal i
      have gB := nat_at_px (G := G) _ hal (i + 1)
      rw [gd] at gA gB
      unfold slV at gA gB
      rw [show ((dig 4294967296 n).drop q).length = N by rw [List.length_drop, d1]; omega] at gA gB
      rw [← Nat.add_assoc] at gB
      have D := dn_digit (n := n) (s := s) (q := q) (i := i) hs2
      rw [← hk2, ← hV] at D
      obtain ⟨x, hx⟩ : ∃ x, x = n / 4294967296 ^ (q + i) % 4294967296 := ⟨_, rfl⟩
      obtain ⟨y, hy⟩ : ∃ y, y = n / 4294967296 ^ (q + i + 1) % 4294967296 := ⟨_, rfl⟩
      rw [← hx] at gA D
      rw [← hy] at gB D
      have mx : x < 4294967296 := by rw [hx]; exact Nat.mod_lt _ (by decide)
      have my : y < 4294967296 := by rw [hy]; exact Nat.mod_lt _ (by decide)
      have o1 := dn_or (x := x) (y := y) mx
      have m1 : x % 18446744073709551616 = x := m64 (by omega)
      have m2 : y * 4294967296 % 18446744073709551616 = y * 4294967296 := m64 (by omega)
      have m3 : (x + y * 4294967296) % 18446744073709551616 = x + y * 4294967296 := m64 (by omega)
      have w1 : IntKind.i64.wrap ((i + 1 : Nat) : Int) = ((i + 1 : Nat) : Int) := wi64 (by omega)
      have s64 : s ≤ 64 := by omega
      have c1 : i + 1 ≤ N := h0
      simp (maxSteps := 2000000) only [↓avp, ↓avmD, avq, ↓reduceIte, Nat.reduceAdd, Nat.reduceMul, Nat.reduceSub, Nat.reduceLT, Nat.reduceLeDiff, Nat.reduceEqDiff, Nat.reducePow, Nat.reduceMod, h0]
      repeat ((first | refine gA.call ?_ | refine gB.call ?_); simp (maxSteps := 2000000) only [↓avp, ↓avmD, avq, ↓reduceIte, Nat.reduceAdd, Nat.reduceMul, Nat.reduceSub, Nat.reduceLT, Nat.reduceLeDiff, Nat.reduceEqDiff, Nat.reducePow, Nat.reduceMod, w1, h0, ← hs, s64, m1, m2, o1, m3, D, hll, c1])
      refine LN.next (i + 1, l.set i (V / 4294967296 ^ i % 4294967296)) [1, 5, 6, 24, 25] ⟨c1, by simp only [List.length_set]; exact hll, fun j hj => ?_⟩ (by simp only; omega) rfl
      simp only at hj ⊢
      by_cases e : j = i
      · subst e; exact getD_set_eq (by omega) _ _
      · rw [getD_set_ne (Ne.symm e)]; exact H j (by omega)
    · have e : i = N := by omega
      have hp := padd_of hll fun j hj => H j (by omega)
      have hv : val 4294967296 l = V := by rw [hp]; exact padd_val (by decide) N V hVlt
      have hal : AllLt 4294967296 l := by rw [hp]; exact padd_lt (by decide) N V
      simp (maxSteps := 2000000) only [↓avp, ↓avmD, avq, ↓reduceIte, Nat.reduceAdd, Nat.reduceMul, Nat.reduceSub, Nat.reduceLT, Nat.reduceLeDiff, Nat.reduceEqDiff, Nat.reducePow, Nat.reduceMod, h0]
      refine ACall.fzc (H0 := []) 0 rfl rfl (Nat.le_refl _) (by simp only [avmF]) ?_
      have e0 : N ≤ l.length := by omega
      have e1 : l.take N = l := List.take_of_length_le (by omega)
      simp (maxSteps := 2000000) only [↓avp, ↓avmD, avq, ↓reduceIte, Nat.reduceAdd, Nat.reduceMul, Nat.reduceSub, Nat.reduceLT, Nat.reduceLeDiff, Nat.reduceEqDiff, Nat.reducePow, Nat.reduceMod, avmT, e0, e1]
      have ht := nat_of_px (G := G) l hal
      rw [hv] at ht
      unfold slV at ht
      rw [hll] at ht
      refine ht.call ?_
      simp (maxSteps := 2000000) only [↓avp, ↓avmD, avq, ↓reduceIte, Nat.reduceAdd, Nat.reduceMul, Nat.reduceSub, Nat.reduceLT, Nat.reduceLeDiff, Nat.reduceEqDiff, Nat.reducePow, Nat.reduceMod]
      refine ret_now ?_
      simp (maxSteps := 2000000) only [↓avp, ↓avmD, avq, ↓reduceIte, Nat.reduceAdd, Nat.reduceMul, Nat.reduceSub, Nat.reduceLT, Nat.reduceLeDiff, Nat.reduceEqDiff, Nat.reducePow, Nat.reduceMod, natV, slV]
/-- A shift either way; none beyond a hundred thousand. -/
def shN (n : Nat) (k : Int) : Nat := if 100000 < k ∨ k < -100000 then 0 else if k < 0 then n / 2 ^ (-k).toNat else n * 2 ^ k.toNat
theorem nat_Shl_px (n : Nat) (k : Int) (hn : dl 4294967296 n ≤ 1000000000) : PX P G n_nat_Nat_Shl [natV n, .int .i64 k] (natV (shN n k)) := by
  refine PX_of_awp low_nat_Nat_Shl fol (by simp only [avmF, natV, and_true]) (by simp only [avmF, natV, and_true]) ?_
  have b0 : (!false) = true := rfl
  by_cases h1 : ((100000 : Nat) : Int) < k
  · have e : shN n k = 0 := by rw [shN, if_pos (.inl (by omega))]
    rw [e]
    simp only [ir_nat_Nat_Shl, sX, mX, initF, List.replicate, Nat.reduceAdd, Nat.reduceSub, iv, avmL]
    simp (maxSteps := 2000000) only [↓avp, ↓avmD, avq, ↓reduceIte, Nat.reduceAdd, Nat.reduceMul, Nat.reduceSub, Nat.reduceLT, Nat.reduceLeDiff, Nat.reduceEqDiff, Nat.reducePow, Nat.reduceMod, h1]
    refine nat_of_nils.call ?_
    simp (maxSteps := 2000000) only [↓avp, ↓avmD, avq, ↓reduceIte, Nat.reduceAdd, Nat.reduceMul, Nat.reduceSub, Nat.reduceLT, Nat.reduceLeDiff, Nat.reduceEqDiff, Nat.reducePow, Nat.reduceMod]
    refine ret_now ?_
    simp (maxSteps := 2000000) only [↓avp, ↓avmD, avq, ↓reduceIte, Nat.reduceAdd, Nat.reduceMul, Nat.reduceSub, Nat.reduceLT, Nat.reduceLeDiff, Nat.reduceEqDiff, Nat.reducePow, Nat.reduceMod, natV, slV]
  by_cases h2 : k < -100000
  · have e : shN n k = 0 := by rw [shN, if_pos (.inr h2)]
    rw [e]
    simp only [ir_nat_Nat_Shl, sX, mX, initF, List.replicate, Nat.reduceAdd, Nat.reduceSub, iv, avmL]
    simp (maxSteps := 2000000) only [↓avp, ↓avmD, avq, ↓reduceIte, Nat.reduceAdd, Nat.reduceMul, Nat.reduceSub, Nat.reduceLT, Nat.reduceLeDiff, Nat.reduceEqDiff, Nat.reducePow, Nat.reduceMod, h1, h2, b0]
    refine nat_of_nils.call ?_
    simp (maxSteps := 2000000) only [↓avp, ↓avmD, avq, ↓reduceIte, Nat.reduceAdd, Nat.reduceMul, Nat.reduceSub, Nat.reduceLT, Nat.reduceLeDiff, Nat.reduceEqDiff, Nat.reducePow, Nat.reduceMod]
    refine ret_now ?_
    simp (maxSteps := 2000000) only [↓avp, ↓avmD, avq, ↓reduceIte, Nat.reduceAdd, Nat.reduceMul, Nat.reduceSub, Nat.reduceLT, Nat.reduceLeDiff, Nat.reduceEqDiff, Nat.reducePow, Nat.reduceMod, natV, slV]
  have e : shN n k = if k < 0 then n / 2 ^ (-k).toNat else n * 2 ^ k.toNat := by rw [shN, if_neg (by omega)]
  by_cases h3 : k < ((0 : Nat) : Int)
  · obtain ⟨m, rfl⟩ : ∃ m : Nat, k = -(m : Int) := ⟨(-k).toNat, by omega⟩
    have hD := nat_down_px (G := G) n m hn (by omega)
    rw [e, if_pos (by omega), Int.neg_neg, Int.toNat_natCast]
    have w1 : IntKind.i64.wrap (-(-(m : Int))) = ((m : Nat) : Int) := by rw [Int.neg_neg]; exact wi64 (by omega)
    simp only [ir_nat_Nat_Shl, sX, mX, initF, List.replicate, Nat.reduceAdd, Nat.reduceSub, iv, avmL]
    simp (maxSteps := 2000000) only [↓avp, ↓avmD, avq, ↓reduceIte, Nat.reduceAdd, Nat.reduceMul, Nat.reduceSub, Nat.reduceLT, Nat.reduceLeDiff, Nat.reduceEqDiff, Nat.reducePow, Nat.reduceMod, h1, h2, h3, b0, w1]
    refine hD.call ?_
    simp (maxSteps := 2000000) only [↓avp, ↓avmD, avq, ↓reduceIte, Nat.reduceAdd, Nat.reduceMul, Nat.reduceSub, Nat.reduceLT, Nat.reduceLeDiff, Nat.reduceEqDiff, Nat.reducePow, Nat.reduceMod]
    refine ret_now ?_
    simp (maxSteps := 2000000) only [↓avp, ↓avmD, avq, ↓reduceIte, Nat.reduceAdd, Nat.reduceMul, Nat.reduceSub, Nat.reduceLT, Nat.reduceLeDiff, Nat.reduceEqDiff, Nat.reducePow, Nat.reduceMod, natV, slV]
  · obtain ⟨m, rfl⟩ : ∃ m : Nat, k = (m : Int) := ⟨k.toNat, by omega⟩
    have hD := nat_up_px (G := G) n m hn (by omega)
    rw [e, if_neg (by omega), Int.toNat_natCast]
    have h1' : ¬ 100000 < m := by omega
    simp only [ir_nat_Nat_Shl, sX, mX, initF, List.replicate, Nat.reduceAdd, Nat.reduceSub, iv, avmL]
    simp (maxSteps := 2000000) only [↓avp, ↓avmD, avq, ↓reduceIte, Nat.reduceAdd, Nat.reduceMul, Nat.reduceSub, Nat.reduceLT, Nat.reduceLeDiff, Nat.reduceEqDiff, Nat.reducePow, Nat.reduceMod, h1', h2, h3, b0]
    refine hD.call ?_
    simp (maxSteps := 2000000) only [↓avp, ↓avmD, avq, ↓reduceIte, Nat.reduceAdd, Nat.reduceMul, Nat.reduceSub, Nat.reduceLT, Nat.reduceLeDiff, Nat.reduceEqDiff, Nat.reducePow, Nat.reduceMod]
    refine ret_now ?_
    simp (maxSteps := 2000000) only [↓avp, ↓avmD, avq, ↓reduceIte, Nat.reduceAdd, Nat.reduceMul, Nat.reduceSub, Nat.reduceLT, Nat.reduceLeDiff, Nat.reduceEqDiff, Nat.reducePow, Nat.reduceMod, natV, slV]
theorem nat_Shr_px (n : Nat) (k : Int) (hn : dl 4294967296 n ≤ 1000000000) : PX P G n_nat_Nat_Shr [natV n, .int .i64 k] (natV (shN n (-k))) := by
  refine PX_of_awp low_nat_Nat_Shr fol (by simp only [avmF, natV, and_true]) (by simp only [avmF, natV, and_true]) ?_
  have b0 : (!false) = true := rfl
  by_cases h1 : ((100000 : Nat) : Int) < k
  · have e : shN n (-k) = 0 := by rw [shN, if_pos (.inr (by omega))]
    rw [e]
    simp only [ir_nat_Nat_Shr, sX, mX, initF, List.replicate, Nat.reduceAdd, Nat.reduceSub, iv, avmL]
    simp (maxSteps := 2000000) only [↓avp, ↓avmD, avq, ↓reduceIte, Nat.reduceAdd, Nat.reduceMul, Nat.reduceSub, Nat.reduceLT, Nat.reduceLeDiff, Nat.reduceEqDiff, Nat.reducePow, Nat.reduceMod, h1]
    refine nat_of_nils.call ?_
    simp (maxSteps := 2000000) only [↓avp, ↓avmD, avq, ↓reduceIte, Nat.reduceAdd, Nat.reduceMul, Nat.reduceSub, Nat.reduceLT, Nat.reduceLeDiff, Nat.reduceEqDiff, Nat.reducePow, Nat.reduceMod]
    refine ret_now ?_
    simp (maxSteps := 2000000) only [↓avp, ↓avmD, avq, ↓reduceIte, Nat.reduceAdd, Nat.reduceMul, Nat.reduceSub, Nat.reduceLT, Nat.reduceLeDiff, Nat.reduceEqDiff, Nat.reducePow, Nat.reduceMod, natV, slV]
  by_cases h2 : k < -100000
  · have e : shN n (-k) = 0 := by rw [shN, if_pos (.inl (by omega))]
    rw [e]
    simp only [ir_nat_Nat_Shr, sX, mX, initF, List.replicate, Nat.reduceAdd, Nat.reduceSub, iv, avmL]
    simp (maxSteps := 2000000) only [↓avp, ↓avmD, avq, ↓reduceIte, Nat.reduceAdd, Nat.reduceMul, Nat.reduceSub, Nat.reduceLT, Nat.reduceLeDiff, Nat.reduceEqDiff, Nat.reducePow, Nat.reduceMod, h1, h2, b0]
    refine nat_of_nils.call ?_
    simp (maxSteps := 2000000) only [↓avp, ↓avmD, avq, ↓reduceIte, Nat.reduceAdd, Nat.reduceMul, Nat.reduceSub, Nat.reduceLT, Nat.reduceLeDiff, Nat.reduceEqDiff, Nat.reducePow, Nat.reduceMod]
    refine ret_now ?_
    simp (maxSteps := 2000000) only [↓avp, ↓avmD, avq, ↓reduceIte, Nat.reduceAdd, Nat.reduceMul, Nat.reduceSub, Nat.reduceLT, Nat.reduceLeDiff, Nat.reduceEqDiff, Nat.reducePow, Nat.reduceMod, natV, slV]
  have e : shN n (-k) = if -k < 0 then n / 2 ^ (-(-k)).toNat else n * 2 ^ (-k).toNat := by rw [shN, if_neg (by omega)]
  by_cases h3 : k < ((0 : Nat) : Int)
  · obtain ⟨m, rfl⟩ : ∃ m : Nat, k = -(m : Int) := ⟨(-k).toNat, by omega⟩
    have hD := nat_up_px (G := G) n m hn (by omega)
    rw [e, if_neg (by omega), Int.neg_neg, Int.toNat_natCast]
    have w1 : IntKind.i64.wrap (-(-(m : Int))) = ((m : Nat) : Int) := by rw [Int.neg_neg]; exact wi64 (by omega)
    simp only [ir_nat_Nat_Shr, sX, mX, initF, List.replicate, Nat.reduceAdd, Nat.reduceSub, iv, avmL]
    simp (maxSteps := 2000000) only [↓avp, ↓avmD, avq, ↓reduceIte, Nat.reduceAdd, Nat.reduceMul, Nat.reduceSub, Nat.reduceLT, Nat.reduceLeDiff, Nat.reduceEqDiff, Nat.reducePow, Nat.reduceMod, h1, h2, h3, b0, w1]
    refine hD.call ?_
    simp (maxSteps := 2000000) only [↓avp, ↓avmD, avq, ↓reduceIte, Nat.reduceAdd, Nat.reduceMul, Nat.reduceSub, Nat.reduceLT, Nat.reduceLeDiff, Nat.reduceEqDiff, Nat.reducePow, Nat.reduceMod]
    refine ret_now ?_
    simp (maxSteps := 2000000) only [↓avp, ↓avmD, avq, ↓reduceIte, Nat.reduceAdd, Nat.reduceMul, Nat.reduceSub, Nat.reduceLT, Nat.reduceLeDiff, Nat.reduceEqDiff, Nat.reducePow, Nat.reduceMod, natV, slV]
  · obtain ⟨m, rfl⟩ : ∃ m : Nat, k = (m : Int) := ⟨k.toNat, by omega⟩
    have hD := nat_down_px (G := G) n m hn (by omega)
    have e2 : (if -(m : Int) < 0 then n / 2 ^ (-(-(m : Int))).toNat else n * 2 ^ (-(m : Int)).toNat) = n / 2 ^ m := by
      rcases Nat.eq_zero_or_pos m with rfl | hm
      · simp
      · rw [if_pos (by omega), Int.neg_neg, Int.toNat_natCast]
    rw [e, e2]
    have h1' : ¬ 100000 < m := by omega
    simp only [ir_nat_Nat_Shr, sX, mX, initF, List.replicate, Nat.reduceAdd, Nat.reduceSub, iv, avmL]
    simp (maxSteps := 2000000) only [↓avp, ↓avmD, avq, ↓reduceIte, Nat.reduceAdd, Nat.reduceMul, Nat.reduceSub, Nat.reduceLT, Nat.reduceLeDiff, Nat.reduceEqDiff, Nat.reducePow, Nat.reduceMod, h1', h2, h3, b0]
    refine hD.call ?_
    simp (maxSteps := 2000000) only [↓avp, ↓avmD, avq, ↓reduceIte, Nat.reduceAdd, Nat.reduceMul, Nat.reduceSub, Nat.reduceLT, Nat.reduceLeDiff, Nat.reduceEqDiff, Nat.reducePow, Nat.reduceMod]
    refine ret_now ?_
    simp (maxSteps := 2000000) only [↓avp, ↓avmD, avq, ↓reduceIte, Nat.reduceAdd, Nat.reduceMul, Nat.reduceSub, Nat.reduceLT, Nat.reduceLeDiff, Nat.reduceEqDiff, Nat.reducePow, Nat.reduceMod, natV, slV]
end Va
