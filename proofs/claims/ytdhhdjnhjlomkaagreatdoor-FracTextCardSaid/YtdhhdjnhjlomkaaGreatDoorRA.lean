/- Joined texts. -/
import Derived.Test.YtdhhdjnhjlomkaaGreatDoorFE
import Derived.Test.YtdhhdjnhjlomkaaGreatDoorIr1
import Derived.Test.YtdhhdjnhjlomkaaGreatDoorIr2
import Derived.Test.YtdhhdjnhjlomkaaGreatDoorIr3
import Derived.Test.YtdhhdjnhjlomkaaGreatDoorFM
/- The reference's numbers: no noughts above, of a word, comparison. -/
set_option linter.unusedSimpArgs false
set_option linter.unusedVariables false
set_option maxRecDepth 100000
set_option maxHeartbeats 4000000
open Go Go.Avm
namespace Va
attribute [local irreducible] ACallF FCallF
variable {G : Glob}
theorem ref_trim_px (l : List Nat) (hl : AllLt 10000 l) : PX P G n_ref1_trim [slV .i64 l] (refV (val 10000 l)) := by
  refine PX_of_awp low_ref1_trim fol (by simp only [avmF, and_true]) (by simp only [avmF, refV, and_true]) ?_
  simp only [ir_ref1_trim, sX, mX, initF, List.replicate, Nat.reduceAdd, Nat.reduceSub, iv, avmL]
  simp (maxSteps := 2000000) (disch := omega) only [↓avp, ↓avmD, avq, ↓reduceIte, Nat.reduceAdd, Nat.reduceMul, Nat.reduceSub, Nat.reduceLT, Nat.reduceLeDiff, Nat.reduceEqDiff, Nat.reducePow, Nat.reduceMod, slV]
  intro hlen
  refine loop_of (fun k : Nat => ⟨[slV .i64 l,J,J,.int .i64 k,J,J,J,J,J,J,J,J,J,J,J,J,J,J,J,J,J], []⟩)
    (fun k => k ≤ l.length ∧ ∀ j, k ≤ j → l.getD j 0 = 0) (fun k => k) l.length [0, 3] rfl ⟨Nat.le_refl _, fun j hj => by rw [List.getD_eq_getElem?_getD, List.getElem?_eq_none hj]; rfl⟩ ?_
  rintro k ⟨hk, hz⟩
  have hfin : (k = 0 ∨ l.getD (k - 1) 0 ≠ 0) → l.take k = dig 10000 (val 10000 l) := take_eq_dig (by decide) hl hk hz
  have hlk : (l.take k).length = k := by simp; omega
  by_cases h0 : 0 < k
  · have hk0 : k - 1 < l.length := by omega
    simp (maxSteps := 2000000) (disch := omega) only [↓avp, ↓avmD, avq, ↓reduceIte, Nat.reduceAdd, Nat.reduceMul, Nat.reduceSub, Nat.reduceLT, Nat.reduceLeDiff, Nat.reduceEqDiff, Nat.reducePow, Nat.reduceMod, slV, decide_eq_true h0, hk0, hk]
    refine ifB_dec (fun h => ?_) (fun h => ?_)
    · refine LN.next (k - 1) [0, 3] ⟨by omega, fun j hj => ?_⟩ (by omega) rfl
      by_cases e : j = k - 1
      · subst e; omega
      · exact hz j (by omega)
    · refine ret_now ?_
      simp (maxSteps := 2000000) (disch := omega) only [↓avp, ↓avmD, avq, ↓reduceIte, Nat.reduceAdd, Nat.reduceMul, Nat.reduceSub, Nat.reduceLT, Nat.reduceLeDiff, Nat.reduceEqDiff, Nat.reducePow, Nat.reduceMod, refV, slV]
      rw [← hfin (.inr (by omega)), hlk]
  · simp (maxSteps := 2000000) (disch := omega) only [↓avp, ↓avmD, avq, ↓reduceIte, Nat.reduceAdd, Nat.reduceMul, Nat.reduceSub, Nat.reduceLT, Nat.reduceLeDiff, Nat.reduceEqDiff, Nat.reducePow, Nat.reduceMod, slV, decide_eq_false h0, hk]
    refine ret_now ?_
    simp (maxSteps := 2000000) (disch := omega) only [↓avp, ↓avmD, avq, ↓reduceIte, Nat.reduceAdd, Nat.reduceMul, Nat.reduceSub, Nat.reduceLT, Nat.reduceLeDiff, Nat.reduceEqDiff, Nat.reducePow, Nat.reduceMod, refV, slV]
    rw [← hfin (.inl (by omega)), hlk]
theorem ref_OfU_px (x : Nat) (hx : x < 18446744073709551616) : PX P G n_ref1_OfU [.int .u64 x] (refV x) := by
  refine PX_of_awp low_ref1_OfU fol (by simp only [avmF, and_true]) (by simp only [avmF, refV, and_true]) ?_
  simp only [ir_ref1_OfU, sX, mX, initF, List.replicate, Nat.reduceAdd, Nat.reduceSub, iv, avmL]
  simp (maxSteps := 2000000) (disch := omega) only [↓avp, ↓avmD, avq, ↓reduceIte, Nat.reduceAdd, Nat.reduceMul, Nat.reduceSub, Nat.reduceLT, Nat.reduceLeDiff, Nat.reduceEqDiff, Nat.reducePow, Nat.reduceMod]
  have hdx : ∀ y, y < 18446744073709551616 → dl 10000 y ≤ 5 := fun y hy => (dl_le_iff (by decide)).2 (Nat.lt_of_lt_of_le hy (by decide))
  refine loop_gh (fun a : Nat × List Nat => ⟨[.int .u64 a.1,J,J,.osl 0 0 a.2.length,J,J,J,J,J,J,J,J,J,J,J], [.arr t_int 1 false (row .i64 a.2)]⟩)
    (fun a => a.1 < 18446744073709551616 ∧ a.2 ++ dig 10000 a.1 = dig 10000 x) (fun a => a.1) (x, [])
    (Gh.trans (Gh.keep _ [0, 3]) (Gh.adopt (d := 3) (Nat.le_of_ble_eq_true rfl) rfl t_int 1)) ⟨hx, rfl⟩ ?_
  rintro ⟨y, l⟩ ⟨hy, hl⟩
  simp only at hy hl
  have hlen : l.length ≤ 5 := by
    have h1 := congrArg List.length hl
    have h2 := hdx x hx
    rw [List.length_append] at h1
    unfold dl at h2
    omega
  by_cases h0 : 0 < y
  · simp (maxSteps := 2000000) (disch := omega) only [↓avp, ↓avmD, avq, ↓reduceIte, Nat.reduceAdd, Nat.reduceMul, Nat.reduceSub, Nat.reduceLT, Nat.reduceLeDiff, Nat.reduceEqDiff, Nat.reducePow, Nat.reduceMod, decide_eq_true h0, avmK, cellsOf, putAt, fillP, List.replicate_one, List.set_cons_zero, List.length_cons, List.length_nil, List.take_succ_cons, List.take_zero]
    refine ⟨⟨⟨Nat.le_refl _, fun h => by cases h⟩, by omega⟩, ?_⟩
    refine LN.drop (H0 := [_]) 1 rfl (by decide) ?_
    simp (maxSteps := 2000000) (disch := omega) only [↓avp, ↓avmD, avq, ↓reduceIte, Nat.reduceAdd, Nat.reduceMul, Nat.reduceSub, Nat.reduceLT, Nat.reduceLeDiff, Nat.reduceEqDiff, Nat.reducePow, Nat.reduceMod, avmK, m64]
    refine LN.next (y / 10000, l ++ [y % 10000]) [0, 3] ⟨by simp only; omega, ?_⟩ (by simp only; omega) ?_
    · simp only
      rw [← hl, dig_pos (by decide) h0, List.append_assoc, List.singleton_append]
    · simp only [List.length_append, List.length_cons, List.length_nil]
      rfl
  · simp (maxSteps := 2000000) (disch := omega) only [↓avp, ↓avmD, avq, ↓reduceIte, Nat.reduceAdd, Nat.reduceMul, Nat.reduceSub, Nat.reduceLT, Nat.reduceLeDiff, Nat.reduceEqDiff, Nat.reducePow, Nat.reduceMod, decide_eq_false h0]
    refine ret_fz 0 (by rfl) (by simp only [avmF]) ?_
    simp (maxSteps := 2000000) (disch := omega) only [↓avp, ↓avmD, avq, ↓reduceIte, Nat.reduceAdd, Nat.reduceMul, Nat.reduceSub, Nat.reduceLT, Nat.reduceLeDiff, Nat.reduceEqDiff, Nat.reducePow, Nat.reduceMod, avmT]
    refine ret_now ?_
    have h00 : y = 0 := by omega
    subst h00
    rw [dig_zero, List.append_nil] at hl
    simp (maxSteps := 2000000) (disch := omega) only [↓avp, ↓avmD, avq, ↓reduceIte, Nat.reduceAdd, Nat.reduceMul, Nat.reduceSub, Nat.reduceLT, Nat.reduceLeDiff, Nat.reduceEqDiff, Nat.reducePow, Nat.reduceMod, refV, slV, List.take_length]
    rw [hl]
theorem ref_Cmp_px (a b : Nat) (ha : dl 10000 a ≤ 1000000000) (hb : dl 10000 b ≤ 1000000000) : PX P G n_ref1_Cmp [refV a, refV b] (.int .i64 (cmpI a b)) := by
  refine PX_of_awp low_ref1_Cmp fol (by simp only [avmF, refV, and_true]) (by simp only [avmF]) ?_
  unfold dl at ha hb
  simp only [ir_ref1_Cmp, sX, mX, initF, List.replicate, Nat.reduceAdd, Nat.reduceSub, iv, avmL, refV]
  simp (maxSteps := 2000000) (disch := omega) only [↓avp, ↓avmD, avq, ↓reduceIte, Nat.reduceAdd, Nat.reduceMul, Nat.reduceSub, Nat.reduceLT, Nat.reduceLeDiff, Nat.reduceEqDiff, Nat.reducePow, Nat.reduceMod, slV]
  intro hl1 hl2
  have e0 : IntKind.i64.wrap (((max (dig 10000 a).length (dig 10000 b).length : Nat) : Int) - ((1 : Nat) : Int)) = ((max (dig 10000 a).length (dig 10000 b).length : Nat) : Int) - 1 := wi64_in (by omega) (by omega)
  simp (maxSteps := 2000000) (disch := omega) only [↓avp, ↓avmD, avq, ↓reduceIte, Nat.reduceAdd, Nat.reduceMul, Nat.reduceSub, Nat.reduceLT, Nat.reduceLeDiff, Nat.reduceEqDiff, Nat.reducePow, Nat.reduceMod, e0]
  refine loop_of (fun k : Nat => ⟨[slV .i64 (dig 10000 a),slV .i64 (dig 10000 b),J,J,J,.int .i64 ((k : Int) - 1),J,J,J,J,J,J,J,J,J,J,J,J,J,J,J,J,J,J,J,J,J,J,J,J,J,J,J,J,J,J,J,J,J,J], []⟩)
    (fun k => k ≤ max (dig 10000 a).length (dig 10000 b).length ∧ a / 10000 ^ k = b / 10000 ^ k) (fun k => k) (max (dig 10000 a).length (dig 10000 b).length) [0, 1, 5] rfl
    ⟨Nat.le_refl _, by rw [dig_high (by decide) (by unfold dl; omega), dig_high (by decide) (by unfold dl; omega)]⟩ ?_
  rintro k ⟨hk, he⟩
  rcases Nat.eq_zero_or_pos k with rfl | hk0
  · have h0 : ¬ (((0 : Nat) : Int) ≤ (((0 : Nat) : Int) - 1)) := by omega
    simp (maxSteps := 2000000) (disch := omega) only [↓avp, ↓avmD, avq, ↓reduceIte, Nat.reduceAdd, Nat.reduceMul, Nat.reduceSub, Nat.reduceLT, Nat.reduceLeDiff, Nat.reduceEqDiff, Nat.reducePow, Nat.reduceMod, slV, decide_eq_false h0]
    refine ret_now ?_
    simp (maxSteps := 2000000) (disch := omega) only [↓avp, ↓avmD, avq, ↓reduceIte, Nat.reduceAdd, Nat.reduceMul, Nat.reduceSub, Nat.reduceLT, Nat.reduceLeDiff, Nat.reduceEqDiff, Nat.reducePow, Nat.reduceMod, cmpI]
    have : a = b := by simpa using he
    subst this
    simp
  · obtain ⟨i, rfl⟩ : ∃ i, k = i + 1 := ⟨k - 1, by omega⟩
    have ei : (((i + 1 : Nat) : Int) - 1) = (i : Int) := by omega
    have en : IntKind.i64.wrap ((i : Int) - ((1 : Nat) : Int)) = (i : Int) - 1 := wi64_in (by omega) (by omega)
    obtain ⟨c1, c2, c3⟩ := cmp_step he
    have gA := dig_getD (B := 10000) (by decide) a i
    have gB := dig_getD (B := 10000) (by decide) b i
    have fin : ∀ (X Y : Nat), X = a / 10000 ^ i % 10000 → Y = b / 10000 ^ i % 10000 → (X < Y → cmpI a b = -1) ∧ (Y < X → cmpI a b = 1) ∧ (¬ X < Y → ¬ Y < X → a / 10000 ^ i = b / 10000 ^ i) := by
      intro X Y hX hY
      subst hX hY
      unfold cmpI
      refine ⟨fun h => by rw [if_pos (c1 h)], fun h => by rw [if_neg (show ¬ a < b by have := c2 h; omega), if_pos (c2 h)], fun h h' => c3 (by omega)⟩
    clear c1 c2 c3 e0
    have fin2 := fin _ _ gA gB
    by_cases hA : i < (dig 10000 a).length <;> by_cases hB : i < (dig 10000 b).length
    · simp (maxSteps := 2000000) (disch := omega) only [↓avp, ↓avmD, avq, ↓reduceIte, Nat.reduceAdd, Nat.reduceMul, Nat.reduceSub, Nat.reduceLT, Nat.reduceLeDiff, Nat.reduceEqDiff, Nat.reducePow, Nat.reduceMod, slV, ei, en, decide_eq_true hA, decide_eq_true hB, hA, hB, hl1, hl2]
      refine ifB_dec (fun h => ?_) (fun h => ifB_dec (fun h' => ?_) (fun h' => ?_))
      · refine ret_now ?_
        simp (maxSteps := 2000000) (disch := omega) only [↓avp, ↓avmD, avq, ↓reduceIte, Nat.reduceAdd, Nat.reduceMul, Nat.reduceSub, Nat.reduceLT, Nat.reduceLeDiff, Nat.reduceEqDiff, Nat.reducePow, Nat.reduceMod, fin2.1 h]
      · refine ret_now ?_
        simp (maxSteps := 2000000) (disch := omega) only [↓avp, ↓avmD, avq, ↓reduceIte, Nat.reduceAdd, Nat.reduceMul, Nat.reduceSub, Nat.reduceLT, Nat.reduceLeDiff, Nat.reduceEqDiff, Nat.reducePow, Nat.reduceMod, fin2.2.1 h']
        rfl
      · exact LN.next i [0, 1, 5] ⟨by omega, fin2.2.2 h h'⟩ (by omega) rfl
    · have fin2 := fin _ 0 gA (dig_high_mod (by decide) hB).symm
      simp (maxSteps := 2000000) (disch := omega) only [↓avp, ↓avmD, avq, ↓reduceIte, Nat.reduceAdd, Nat.reduceMul, Nat.reduceSub, Nat.reduceLT, Nat.reduceLeDiff, Nat.reduceEqDiff, Nat.reducePow, Nat.reduceMod, slV, ei, en, decide_eq_true hA, decide_eq_false hB, hA, hl1, hl2]
      refine ifB_dec (fun h => ?_) (fun h => ifB_dec (fun h' => ?_) (fun h' => ?_))
      · omega
      · refine ret_now ?_
        simp (maxSteps := 2000000) (disch := omega) only [↓avp, ↓avmD, avq, ↓reduceIte, Nat.reduceAdd, Nat.reduceMul, Nat.reduceSub, Nat.reduceLT, Nat.reduceLeDiff, Nat.reduceEqDiff, Nat.reducePow, Nat.reduceMod, fin2.2.1 h']
        rfl
      · exact LN.next i [0, 1, 5] ⟨by omega, fin2.2.2 h h'⟩ (by omega) rfl
    · have fin2 := fin 0 _ (dig_high_mod (by decide) hA).symm gB
      simp (maxSteps := 2000000) (disch := omega) only [↓avp, ↓avmD, avq, ↓reduceIte, Nat.reduceAdd, Nat.reduceMul, Nat.reduceSub, Nat.reduceLT, Nat.reduceLeDiff, Nat.reduceEqDiff, Nat.reducePow, Nat.reduceMod, slV, ei, en, decide_eq_false hA, decide_eq_true hB, hB, hl1, hl2]
      refine ifB_dec (fun h => ?_) (fun h => ifB_dec (fun h' => ?_) (fun h' => ?_))
      · refine ret_now ?_
        simp (maxSteps := 2000000) (disch := omega) only [↓avp, ↓avmD, avq, ↓reduceIte, Nat.reduceAdd, Nat.reduceMul, Nat.reduceSub, Nat.reduceLT, Nat.reduceLeDiff, Nat.reduceEqDiff, Nat.reducePow, Nat.reduceMod, fin2.1 h]
      · omega
      · exact LN.next i [0, 1, 5] ⟨by omega, fin2.2.2 h h'⟩ (by omega) rfl
    · omega
end Va
/- The reference's sums. -/
set_option linter.unusedSimpArgs false
set_option linter.unusedVariables false
set_option maxRecDepth 100000
set_option maxHeartbeats 8000000
open Go Go.Avm
namespace Va
attribute [local irreducible] ACallF FCallF
variable {G : Glob}
theorem ref_Add_px (a b : Nat) (ha : dl 10000 a ≤ 1000000000) (hb : dl 10000 b ≤ 1000000000) : PX P G n_ref1_Add [refV a, refV b] (refV (a + b)) := by
  refine PX_of_awp low_ref1_Add fol (by simp only [avmF, refV, and_true]) (by simp only [avmF, refV, and_true]) ?_
  obtain ⟨n, hn⟩ : ∃ n, n = max (dig 10000 a).length (dig 10000 b).length + 1 := ⟨_, rfl⟩
  have hna : dl 10000 a < n ∧ dl 10000 b < n := by unfold dl; omega
  have hn2 : n ≤ 1000000001 := by unfold dl at ha hb; omega
  simp only [ir_ref1_Add, sX, mX, initF, List.replicate, Nat.reduceAdd, Nat.reduceSub, iv, avmL, refV]
  simp (maxSteps := 2000000) (disch := omega) only [↓avp, ↓avmD, avq, ↓reduceIte, Nat.reduceAdd, Nat.reduceMul, Nat.reduceSub, Nat.reduceLT, Nat.reduceLeDiff, Nat.reduceEqDiff, Nat.reducePow, Nat.reduceMod, slV]
  intro hl1 hl2
  simp (maxSteps := 2000000) (disch := omega) only [↓avp, ↓avmD, avq, ↓reduceIte, Nat.reduceAdd, Nat.reduceMul, Nat.reduceSub, Nat.reduceLT, Nat.reduceLeDiff, Nat.reduceEqDiff, Nat.reducePow, Nat.reduceMod, ← hn]
  refine ⟨by omega, ?_⟩
  intro hl3
  have hstart : AddI 10000 a b n 0 (List.replicate n 0) := ⟨by simp, AllLt.rep (by decide) n, by rw [val_rep0]; simp [Nat.mod_one]⟩
  refine loop_of (fun c : Nat × List Nat => ⟨[slV .i64 (dig 10000 a),slV .i64 (dig 10000 b),J,J,J,.osl 0 0 n,J,J,J,J,J,J,J,J,J,.int .i64 n,.int .i64 c.1,J,J,J,J,J,J,J,J,J,J,J,J,J,J,J,J,J,J,J,J,J,J,J,J,J,J,J,J,J,J,J,J,J,J,J,J,J,J,J,J,J,J,J,J,J,J,J,J,J,J,J], [.arr t_int 1 false (row .i64 c.2)]⟩)
    (fun c => c.1 ≤ n ∧ AddI 10000 a b n c.1 c.2) (fun c => n - c.1) (0, List.replicate n 0) [0, 1, 5, 15, 16] rfl ⟨by simp, hstart⟩ ?_
  rintro ⟨i, l⟩ ⟨hi, H⟩
  simp only at hi H
  have hll := H.len
  by_cases h0 : i < n
  · have hil : i < l.length := by omega
    have gA := dig_getD (B := 10000) (by decide) a i
    have gB := dig_getD (B := 10000) (by decide) b i
    have mA : a / 10000 ^ i % 10000 < 10000 := Nat.mod_lt _ (by decide)
    have mB : b / 10000 ^ i % 10000 < 10000 := Nat.mod_lt _ (by decide)
    have hlow := H.low (by decide)
    obtain ⟨s, hs⟩ : ∃ s, s = l.getD i 0 + a / 10000 ^ i % 10000 + b / 10000 ^ i % 10000 := ⟨_, rfl⟩
    have q2 : i + 1 ≤ l.length := by omega
    have ui : i ≤ 9223372036854775806 := by omega
    have u1 : l.getD i 0 + a / 10000 ^ i % 10000 ≤ 9223372036854775807 := by omega
    have us : s ≤ 9223372036854775807 := by omega
    have us' : s - 10000 ≤ 9223372036854775807 := by omega
    have uc : l.getD (i + 1) 0 ≤ 9223372036854775806 := by omega
    have nn : i ≠ i + 1 := by omega
    have sAB : l.getD i 0 + a / 10000 ^ i % 10000 + b / 10000 ^ i % 10000 = s := hs.symm
    have sA : ¬ i < (dig 10000 b).length → l.getD i 0 + a / 10000 ^ i % 10000 = s := fun h => by
      have := dig_high_mod (B := 10000) (n := b) (by decide) h; omega
    have sB : ¬ i < (dig 10000 a).length → l.getD i 0 + b / 10000 ^ i % 10000 = s := fun h => by
      have := dig_high_mod (B := 10000) (n := a) (by decide) h; omega
    by_cases hc : 10000 ≤ s
    · obtain ⟨c1, c2, c3⟩ := H.carry (by decide) hna h0 hs hc
      have q3 : i + 1 < l.length := by omega
      have q4 : i + 1 + 1 ≤ l.length := by omega
      have w2 : ((s : Nat) : Int) - ((10000 : Nat) : Int) = ((s - 10000 : Nat) : Int) := csub hc
      by_cases hA : i < (dig 10000 a).length <;> by_cases hB : i < (dig 10000 b).length
      · simp (maxSteps := 2000000) only [↓avp, ↓avmD, avq, ↓reduceIte, Nat.reduceAdd, Nat.reduceMul, Nat.reduceSub, Nat.reduceLT, Nat.reduceLeDiff, Nat.reduceEqDiff, Nat.reducePow, Nat.reduceMod, slV, hA, hB, hc, hl1, hl2, hil, gA, gB, sAB, List.length_set, List.set_set, getD_set_eq, getD_set_ne, ne_eq, not_false_eq_true, nn, h0, c1, q2, q3, q4, ui, u1, us, us', uc, w2]
        exact LN.next (i + 1, (l.set i (s - 10000)).set (i + 1) (l.getD (i + 1) 0 + 1)) [0, 1, 5, 15, 16] ⟨by simp only; omega, c3⟩ (by simp only; omega) rfl
      · simp (maxSteps := 2000000) only [↓avp, ↓avmD, avq, ↓reduceIte, Nat.reduceAdd, Nat.reduceMul, Nat.reduceSub, Nat.reduceLT, Nat.reduceLeDiff, Nat.reduceEqDiff, Nat.reducePow, Nat.reduceMod, slV, hA, hB, hc, hl1, hl2, hil, gA, gB, sA hB, List.length_set, List.set_set, getD_set_eq, getD_set_ne, ne_eq, not_false_eq_true, nn, h0, c1, q2, q3, q4, ui, u1, us, us', uc, w2]
        exact LN.next (i + 1, (l.set i (s - 10000)).set (i + 1) (l.getD (i + 1) 0 + 1)) [0, 1, 5, 15, 16] ⟨by simp only; omega, c3⟩ (by simp only; omega) rfl
      · simp (maxSteps := 2000000) only [↓avp, ↓avmD, avq, ↓reduceIte, Nat.reduceAdd, Nat.reduceMul, Nat.reduceSub, Nat.reduceLT, Nat.reduceLeDiff, Nat.reduceEqDiff, Nat.reducePow, Nat.reduceMod, slV, hA, hB, hc, hl1, hl2, hil, gA, gB, sB hA, List.length_set, List.set_set, getD_set_eq, getD_set_ne, ne_eq, not_false_eq_true, nn, h0, c1, q2, q3, q4, ui, u1, us, us', uc, w2]
        exact LN.next (i + 1, (l.set i (s - 10000)).set (i + 1) (l.getD (i + 1) 0 + 1)) [0, 1, 5, 15, 16] ⟨by simp only; omega, c3⟩ (by simp only; omega) rfl
      · have := sA hB
        have := dig_high_mod (B := 10000) (n := a) (by decide) hA
        omega
    · have c3 := H.step (by decide) h0 hs (by omega)
      by_cases hA : i < (dig 10000 a).length <;> by_cases hB : i < (dig 10000 b).length
      · simp (maxSteps := 2000000) only [↓avp, ↓avmD, avq, ↓reduceIte, Nat.reduceAdd, Nat.reduceMul, Nat.reduceSub, Nat.reduceLT, Nat.reduceLeDiff, Nat.reduceEqDiff, Nat.reducePow, Nat.reduceMod, slV, hA, hB, hc, hl1, hl2, hil, gA, gB, sAB, List.length_set, List.set_set, getD_set_eq, ne_eq, not_false_eq_true, h0, q2, ui, u1, us]
        exact LN.next (i + 1, l.set i s) [0, 1, 5, 15, 16] ⟨by simp only; omega, c3⟩ (by simp only; omega) rfl
      · simp (maxSteps := 2000000) only [↓avp, ↓avmD, avq, ↓reduceIte, Nat.reduceAdd, Nat.reduceMul, Nat.reduceSub, Nat.reduceLT, Nat.reduceLeDiff, Nat.reduceEqDiff, Nat.reducePow, Nat.reduceMod, slV, hA, hB, hc, hl1, hl2, hil, gA, gB, sA hB, List.length_set, List.set_set, getD_set_eq, ne_eq, not_false_eq_true, h0, q2, ui, u1, us]
        exact LN.next (i + 1, l.set i s) [0, 1, 5, 15, 16] ⟨by simp only; omega, c3⟩ (by simp only; omega) rfl
      · simp (maxSteps := 2000000) only [↓avp, ↓avmD, avq, ↓reduceIte, Nat.reduceAdd, Nat.reduceMul, Nat.reduceSub, Nat.reduceLT, Nat.reduceLeDiff, Nat.reduceEqDiff, Nat.reducePow, Nat.reduceMod, slV, hA, hB, hc, hl1, hl2, hil, gA, gB, sB hA, List.length_set, List.set_set, getD_set_eq, ne_eq, not_false_eq_true, h0, q2, ui, u1, us]
        exact LN.next (i + 1, l.set i s) [0, 1, 5, 15, 16] ⟨by simp only; omega, c3⟩ (by simp only; omega) rfl
      · have e1 := sA hB
        have e2 := dig_high_mod (B := 10000) (n := a) (by decide) hA
        have e3 : l.getD i 0 = s := by omega
        have e4 : l.set i s = l := by rw [← e3]; exact set_self hil
        rw [e4] at c3
        simp (maxSteps := 2000000) only [↓avp, ↓avmD, avq, ↓reduceIte, Nat.reduceAdd, Nat.reduceMul, Nat.reduceSub, Nat.reduceLT, Nat.reduceLeDiff, Nat.reduceEqDiff, Nat.reducePow, Nat.reduceMod, slV, hA, hB, hc, hl1, hl2, hil, e3, h0, q2, ui, u1, us]
        exact LN.next (i + 1, l) [0, 1, 5, 15, 16] ⟨by simp only; omega, c3⟩ (by simp only; omega) rfl
  · have e : i = n := by omega
    subst e
    have hv := H.v
    rw [Nat.mod_eq_of_lt ((dl_le_iff (by decide)).1 (by omega)), Nat.mod_eq_of_lt ((dl_le_iff (by decide)).1 (by omega))] at hv
    simp (maxSteps := 2000000) only [↓avp, ↓avmD, avq, ↓reduceIte, Nat.reduceAdd, Nat.reduceMul, Nat.reduceSub, Nat.reduceLT, Nat.reduceLeDiff, Nat.reduceEqDiff, Nat.reducePow, Nat.reduceMod, h0]
    refine ACall.fzc (H0 := []) 0 rfl rfl (Nat.le_refl _) (by simp only [avmF]) ?_
    have e0 : i ≤ l.length := by omega
    have e1 : l.take i = l := List.take_of_length_le (by omega)
    simp (maxSteps := 2000000) only [↓avp, ↓avmD, avq, ↓reduceIte, Nat.reduceAdd, Nat.reduceMul, Nat.reduceSub, Nat.reduceLT, Nat.reduceLeDiff, Nat.reduceEqDiff, Nat.reducePow, Nat.reduceMod, avmT, e0, e1]
    have ht := ref_trim_px (G := G) l H.lt
    rw [hv] at ht
    unfold slV at ht
    rw [hll] at ht
    refine ht.call ?_
    simp (maxSteps := 2000000) only [↓avp, ↓avmD, avq, ↓reduceIte, Nat.reduceAdd, Nat.reduceMul, Nat.reduceSub, Nat.reduceLT, Nat.reduceLeDiff, Nat.reduceEqDiff, Nat.reducePow, Nat.reduceMod]
    refine ret_now ?_
    simp (maxSteps := 2000000) only [↓avp, ↓avmD, avq, ↓reduceIte, Nat.reduceAdd, Nat.reduceMul, Nat.reduceSub, Nat.reduceLT, Nat.reduceLeDiff, Nat.reduceEqDiff, Nat.reducePow, Nat.reduceMod]
    rfl
end Va
/- The reference's products. -/
set_option linter.unusedSimpArgs false
set_option linter.unusedVariables false
set_option maxRecDepth 100000
set_option maxHeartbeats 8000000
open Go Go.Avm
namespace Va
attribute [local irreducible] ACallF FCallF
variable {G : Glob}
theorem mul_le4 {a b : Nat} (ha : a < 10000) (hb : b < 10000) : a * b ≤ 99980001 := by
  have : a * b ≤ 9999 * 9999 := Nat.mul_le_mul (by omega) (by omega)
  omega
theorem set3 (l : List Nat) (p x y z : Nat) : ((l.set p x).set (p + 1) y).set p z = (l.set p z).set (p + 1) y := by
  rw [List.set_comm _ _ (by omega), List.set_set]
theorem ref_Mul_px (a b : Nat) (ha : dl 10000 a ≤ 1000000000) (hb : dl 10000 b ≤ 1000000000) : PX P G n_ref1_Mul [refV a, refV b] (refV (a * b)) := by
  refine PX_of_awp low_ref1_Mul fol (by simp only [avmF, refV, and_true]) (by simp only [avmF, refV, and_true]) ?_
  obtain ⟨la, hla⟩ : ∃ n, n = (dig 10000 a).length := ⟨_, rfl⟩
  obtain ⟨lb, hlb⟩ : ∃ n, n = (dig 10000 b).length := ⟨_, rfl⟩
  obtain ⟨n, hn⟩ : ∃ n, n = la + lb + 1 := ⟨_, rfl⟩
  have hb2 : dl 10000 b = lb := hlb.symm
  have ha2 : dl 10000 a = la := hla.symm
  have u0 : la + lb ≤ 9223372036854775807 := by omega
  have u1 : n ≤ 9223372036854775807 := by omega
  have u2 : n * 8 ≤ 140737488355328 := by omega
  have u3 : la ≤ 9223372036854775807 := by omega
  have u4 : lb ≤ 9223372036854775807 := by omega
  simp only [ir_ref1_Mul, sX, mX, initF, List.replicate, Nat.reduceAdd, Nat.reduceSub, iv, avmL, refV]
  simp (maxSteps := 2000000) only [↓avp, ↓avmD, avq, ↓reduceIte, Nat.reduceAdd, Nat.reduceMul, Nat.reduceSub, Nat.reduceLT, Nat.reduceLeDiff, Nat.reduceEqDiff, Nat.reducePow, Nat.reduceMod, slV, ← hla, ← hlb, u0, u1, u2, u3, u4, ← hn]
  refine ⟨by omega, ?_⟩
  refine loop_of (fun c : Nat × List Nat => ⟨[.sl la (row .i64 (dig 10000 a)),.sl lb (row .i64 (dig 10000 b)),J,J,J,.osl 0 0 n,J,J,J,J,J,J,J,J,J,J,J,.int .i64 la,.int .i64 c.1,J,J,J,J,J,J,J,J,J,J,J,J,J,J,J,J,J,J,J,J,J,J,J,J,J,J,J,J,J,J,J,J,J,J,J,J,J,J,J,J,J,J,J,J,J,J,J,J,J,J,J,J,J,J,J,J,J,J,J,J,J,J,J,J,J,J,J,J,J,J,J,J,J,J,J,J,J,J,J,J,J,J,J], [.arr t_int 1 false (row .i64 c.2)]⟩)
    (fun c => c.1 ≤ la ∧ MulI 10000 a b lb n c.1 0 c.2) (fun c => la - c.1) (0, List.replicate n 0) [0, 1, 5, 17, 18] rfl ⟨by simp, MulI.start (by decide)⟩ ?_
  rintro ⟨i, l⟩ ⟨hi, H⟩
  simp only at hi H
  by_cases h0 : i < la
  · simp (maxSteps := 2000000) only [↓avp, ↓avmD, avq, ↓reduceIte, Nat.reduceAdd, Nat.reduceMul, Nat.reduceSub, Nat.reduceLT, Nat.reduceLeDiff, Nat.reduceEqDiff, Nat.reducePow, Nat.reduceMod, h0, u4]
    refine loop_of (fun c : Nat × List Nat => ⟨[.sl la (row .i64 (dig 10000 a)),.sl lb (row .i64 (dig 10000 b)),J,J,J,.osl 0 0 n,.int .i64 i,J,J,J,J,J,J,J,J,J,J,.int .i64 la,.int .i64 i,J,J,J,.int .i64 lb,.int .i64 c.1,J,J,J,J,J,J,J,J,J,J,J,J,J,J,J,J,J,J,J,J,J,J,J,J,J,J,J,J,J,J,J,J,J,J,J,J,J,J,J,J,J,J,J,J,J,J,J,J,J,J,J,J,J,J,J,J,J,J,J,J,J,J,J,J,J,J,J,J,J,J,J,J,J,J,J,J,J,J], [.arr t_int 1 false (row .i64 c.2)]⟩)
      (fun c => c.1 ≤ lb ∧ MulI 10000 a b lb n i c.1 c.2) (fun c => lb - c.1) (0, l) [0, 1, 5, 6, 17, 18, 22, 23] rfl ⟨by simp, H⟩ ?_
    clear H l
    rintro ⟨k, l⟩ ⟨hk, H⟩
    simp only at hk H
    by_cases h1 : k < lb
    · obtain ⟨x, hx⟩ : ∃ x, x = l.getD (i + k) 0 + (a / 10000 ^ i % 10000) * (b / 10000 ^ k % 10000) := ⟨_, rfl⟩
      obtain ⟨s1, s2, s3, S⟩ := H.step (by decide) h1 (by omega) hx
      have hll := H.len
      have gA : (row .i64 (dig 10000 a)).getD i .junk = .int .i64 ((a / 10000 ^ i % 10000 : Nat) : Int) := by rw [row_getD .i64 (by omega), dig_getD (by decide)]
      have gB : (row .i64 (dig 10000 b)).getD k .junk = .int .i64 ((b / 10000 ^ k % 10000 : Nat) : Int) := by rw [row_getD .i64 (by omega), dig_getD (by decide)]
      have mm := mul_le4 (Nat.mod_lt (a / 10000 ^ i) (show 0 < 10000 by decide)) (Nat.mod_lt (b / 10000 ^ k) (show 0 < 10000 by decide))
      have g1 : (row .i64 l).getD (i + k) .junk = .int .i64 ((l.getD (i + k) 0 : Nat) : Int) := row_getD .i64 (by omega)
      have g2 : (row .i64 (l.set (i + k) x)).getD (i + k) .junk = .int .i64 ((x : Nat) : Int) := by rw [row_getD .i64 (by rw [List.length_set]; omega), getD_set_eq (by omega)]
      have g3 : (row .i64 (l.set (i + k) x)).getD (i + k + 1) .junk = .int .i64 ((l.getD (i + k + 1) 0 : Nat) : Int) := by rw [row_getD .i64 (by rw [List.length_set]; omega), getD_set_ne (by omega)]
      have g4 : (row .i64 ((l.set (i + k) x).set (i + k + 1) (l.getD (i + k + 1) 0 + x / 10000))).getD (i + k) .junk = .int .i64 ((x : Nat) : Int) := by
        rw [row_getD .i64 (by rw [List.length_set, List.length_set]; omega), getD_set_ne (by omega), getD_set_eq (by omega)]
      have w1 : IntKind.i64.wrap ((i + k : Nat) : Int) = ((i + k : Nat) : Int) := wi64 (by omega)
      have w2 : IntKind.i64.wrap ((i + k + 1 : Nat) : Int) = ((i + k + 1 : Nat) : Int) := wi64 (by omega)
      have w3 : IntKind.i64.wrap (((a / 10000 ^ i % 10000) * (b / 10000 ^ k % 10000) : Nat) : Int) = (((a / 10000 ^ i % 10000) * (b / 10000 ^ k % 10000) : Nat) : Int) := wi64 (by omega)
      have w4 : IntKind.i64.wrap ((x : Nat) : Int) = ((x : Nat) : Int) := wi64 (by omega)
      have w5 : IntKind.i64.wrap ((x / 10000 : Nat) : Int) = ((x / 10000 : Nat) : Int) := wi64 (by omega)
      have w6 : IntKind.i64.wrap ((l.getD (i + k + 1) 0 + x / 10000 : Nat) : Int) = ((l.getD (i + k + 1) 0 + x / 10000 : Nat) : Int) := wi64 (by omega)
      have w7 : IntKind.i64.wrap ((k + 1 : Nat) : Int) = ((k + 1 : Nat) : Int) := wi64 (by omega)
      have c1 : i + k < n := by omega
      have c2 : i + k + 1 < n := by omega
      have c3 : i < la := h0
      have d1 : (dig 10000 a).length = la := hla.symm
      have d2 : (dig 10000 b).length = lb := hlb.symm
      have c4 : i + k + 1 ≤ n := by omega
      have c5 : i + k + 1 + 1 ≤ n := by omega
      simp (maxSteps := 2000000) only [↓avp, ↓avmD, avq, ↓reduceIte, Nat.reduceAdd, Nat.reduceMul, Nat.reduceSub, Nat.reduceLT, Nat.reduceLeDiff, Nat.reduceEqDiff, Nat.reducePow, Nat.reduceMod, h1, gA, gB, g1, g2, g3, g4, w1, w2, w3, w4, w5, w6, w7, c1, c2, c3, c4, c5, d1, d2, hll, ← hx, List.length_set, set3]
      exact LN.next (k + 1, (l.set (i + k) (x % 10000)).set (i + k + 1) (l.getD (i + k + 1) 0 + x / 10000)) [0, 1, 5, 6, 17, 18, 22, 23] ⟨by simp only; omega, S⟩ (by simp only; omega) rfl
    · have e : k = lb := by omega
      subst e
      have w1 : IntKind.i64.wrap ((i + 1 : Nat) : Int) = ((i + 1 : Nat) : Int) := wi64 (by omega)
      simp (maxSteps := 2000000) only [↓avp, ↓avmD, avq, ↓reduceIte, Nat.reduceAdd, Nat.reduceMul, Nat.reduceSub, Nat.reduceLT, Nat.reduceLeDiff, Nat.reduceEqDiff, Nat.reducePow, Nat.reduceMod, h1, w1]
      exact LN.next (i + 1, l) [0, 1, 5, 17, 18] ⟨by simp only; omega, H.next (by decide) hb2⟩ (by simp only; omega) rfl
  · have e : i = la := by omega
    subst e
    have C := H.done (by decide) ((dl_le_iff (by decide)).1 (by omega))
    simp (maxSteps := 2000000) only [↓avp, ↓avmD, avq, ↓reduceIte, Nat.reduceAdd, Nat.reduceMul, Nat.reduceSub, Nat.reduceLT, Nat.reduceLeDiff, Nat.reduceEqDiff, Nat.reducePow, Nat.reduceMod, h0]
    have hab : a * b < 10000 ^ (n - 1) := by
      rw [show n - 1 = i + lb by omega, Nat.pow_add]
      exact Nat.mul_lt_mul'' ((dl_le_iff (by decide)).1 (by omega)) ((dl_le_iff (by decide)).1 (by omega))
    refine loop_of (fun c : Nat × List Nat => ⟨[J,J,J,J,J,.osl 0 0 n,J,J,.int .i64 c.1,J,J,J,J,J,J,J,J,J,J,J,J,J,J,J,J,J,J,J,J,J,J,J,J,J,J,J,J,J,J,J,J,J,J,J,J,J,J,J,J,J,J,J,J,J,J,J,J,J,J,J,J,J,J,J,J,J,J,J,J,J,J,J,J,J,J,J,J,J,J,J,J,J,J,J,J,J,J,J,J,J,J,J,J,J,J,J,J,J,J,J,J,J], [.arr t_int 1 false (row .i64 c.2)]⟩)
      (fun c => c.1 < n ∧ CarI 10000 (a * b) n c.1 c.2) (fun c => n - c.1) (0, l) [5, 8] rfl ⟨by simp only; omega, C⟩ ?_
    clear C H l
    rintro ⟨j, l⟩ ⟨hj, C⟩
    simp only at hj C
    have hll := C.len
    have w1 : IntKind.i64.wrap ((j + 1 : Nat) : Int) = ((j + 1 : Nat) : Int) := wi64 (by omega)
    by_cases h2 : j + 1 < n
    · have S := C.step (by decide) h2
      have b1 := C.h
      have b2 := C.up (j + 1) (by omega)
      have g1 : (row .i64 l).getD j .junk = .int .i64 ((l.getD j 0 : Nat) : Int) := row_getD .i64 (by omega)
      have g2 : (row .i64 l).getD (j + 1) .junk = .int .i64 ((l.getD (j + 1) 0 : Nat) : Int) := row_getD .i64 (by omega)
      have g3 : (row .i64 (l.set (j + 1) (l.getD (j + 1) 0 + l.getD j 0 / 10000))).getD j .junk = .int .i64 ((l.getD j 0 : Nat) : Int) := by rw [row_getD .i64 (by rw [List.length_set]; omega), getD_set_ne (by omega)]
      have w2 : IntKind.i64.wrap ((l.getD j 0 / 10000 : Nat) : Int) = ((l.getD j 0 / 10000 : Nat) : Int) := wi64 (by omega)
      have w3 : IntKind.i64.wrap ((l.getD (j + 1) 0 + l.getD j 0 / 10000 : Nat) : Int) = ((l.getD (j + 1) 0 + l.getD j 0 / 10000 : Nat) : Int) := wi64 (by omega)
      have c4 : j + 1 ≤ n := by omega
      have c5 : j + 1 + 1 ≤ n := by omega
      simp (maxSteps := 2000000) only [↓avp, ↓avmD, avq, ↓reduceIte, Nat.reduceAdd, Nat.reduceMul, Nat.reduceSub, Nat.reduceLT, Nat.reduceLeDiff, Nat.reduceEqDiff, Nat.reducePow, Nat.reduceMod, h2, hj, u1, w1, w2, w3, g1, g2, g3, c4, c5, hll, List.length_set]
      exact LN.next (j + 1, (l.set (j + 1) (l.getD (j + 1) 0 + l.getD j 0 / 10000)).set j (l.getD j 0 % 10000)) [5, 8] ⟨h2, S⟩ (by simp only; omega) rfl
    · have hL := C.fin (by decide) (by omega) hab
      have ht := ref_trim_px (G := G) l hL
      rw [C.v] at ht
      unfold slV at ht
      rw [hll] at ht
      simp (maxSteps := 2000000) only [↓avp, ↓avmD, avq, ↓reduceIte, Nat.reduceAdd, Nat.reduceMul, Nat.reduceSub, Nat.reduceLT, Nat.reduceLeDiff, Nat.reduceEqDiff, Nat.reducePow, Nat.reduceMod, h2, u1, w1]
      refine ACall.fzc (H0 := []) 0 rfl rfl (Nat.le_refl _) (by simp only [avmF]) ?_
      have e0 : n ≤ l.length := by omega
      have e1 : l.take n = l := List.take_of_length_le (by omega)
      simp (maxSteps := 2000000) only [↓avp, ↓avmD, avq, ↓reduceIte, Nat.reduceAdd, Nat.reduceMul, Nat.reduceSub, Nat.reduceLT, Nat.reduceLeDiff, Nat.reduceEqDiff, Nat.reducePow, Nat.reduceMod, avmT, e0, e1]
      refine ht.call ?_
      simp (maxSteps := 2000000) only [↓avp, ↓avmD, avq, ↓reduceIte, Nat.reduceAdd, Nat.reduceMul, Nat.reduceSub, Nat.reduceLT, Nat.reduceLeDiff, Nat.reduceEqDiff, Nat.reducePow, Nat.reduceMod]
      refine ret_now ?_
      simp (maxSteps := 2000000) only [↓avp, ↓avmD, avq, ↓reduceIte, Nat.reduceAdd, Nat.reduceMul, Nat.reduceSub, Nat.reduceLT, Nat.reduceLeDiff, Nat.reduceEqDiff, Nat.reducePow, Nat.reduceMod]
      rfl
end Va
/- The reference's powers of two, differences. -/
set_option linter.unusedSimpArgs false
set_option linter.unusedVariables false
set_option maxRecDepth 100000
set_option exponentiation.threshold 2000
set_option maxHeartbeats 8000000
open Go Go.Avm
namespace Va
attribute [local irreducible] ACallF FCallF
variable {G : Glob}
theorem refV_small {d : Nat} (h0 : 0 < d) (h1 : d < 10000) : refV d = .sl 1 (row .i64 [d]) := by
  unfold refV slV
  rw [dig_pos (by decide) h0, Nat.div_eq_of_lt h1, dig_zero, Nat.mod_eq_of_lt h1]
  rfl
theorem pow_dl {B c m v : Nat} (hc : c < B) (hm : m ≠ 0) (h : v ≤ c ^ m) : dl B v ≤ m := by
  by_cases h1 : 1 < B
  · exact (dl_le_iff h1).2 (Nat.lt_of_le_of_lt h (Nat.pow_lt_pow_left hc hm))
  · have : c = 0 := by omega
    subst this
    rw [Nat.zero_pow (Nat.pos_of_ne_zero hm)] at h
    have : v = 0 := by omega
    subst this
    rw [dl_zero]; omega
theorem dl_two {v k : Nat} (hv : v ≤ 2 ^ k) (hk : k ≤ 1000) : dl 10000 v ≤ 1000000000 := by
  have h1 : v ≤ 2 ^ 1000 := Nat.le_trans hv (Nat.pow_le_pow_right (by decide) hk)
  exact Nat.le_trans (pow_dl (show 2 < 10000 by decide) (show 1000 ≠ 0 by decide) h1) (by decide)
theorem row_set_getD (k : IntKind) {l : List Nat} {i : Nat} (h : i < l.length) (x : AV) : ((row k l).set i x).getD i .junk = x := by
  simp [List.getD_eq_getElem?_getD, List.getElem?_set, row_length, h]
theorem row_set_getD_ne (k : IntKind) {l : List Nat} {i j : Nat} (h : i ≠ j) (hj : j < l.length) (x : AV) : ((row k l).set i x).getD j .junk = .int k ((l.getD j 0 : Nat) : Int) := by
  rw [← row_getD k hj]
  simp [List.getD_eq_getElem?_getD, List.getElem?_set, h]
theorem row_set_end (k : IntKind) {l : List Nat} {i : Nat} (h : l.length ≤ i) (x : AV) : (row k l).set i x = row k l := List.set_eq_of_length_le (by rw [row_length]; exact h)
theorem row_set_id (k : IntKind) {l : List Nat} {i : Nat} : (row k l).set i (.int k ((l.getD i 0 : Nat) : Int)) = row k l := by
  rw [row_set]
  rcases Nat.lt_or_ge i l.length with h | h
  · rw [set_self h]
  · rw [List.set_eq_of_length_le h]
theorem ref_Sub_px (a b : Nat) (hba : b ≤ a) (ha : dl 10000 a ≤ 1000000000) : PX P G n_ref1_Sub [refV a, refV b] (refV (a - b)) := by
  refine PX_of_awp low_ref1_Sub fol (by simp only [avmF, refV, and_true]) (by simp only [avmF, refV, and_true]) ?_
  have hb : dl 10000 b ≤ dl 10000 a := dl_mono (by decide) hba
  obtain ⟨n, hn⟩ : ∃ n, n = (dig 10000 a).length := ⟨_, rfl⟩
  obtain ⟨lb, hlb⟩ : ∃ n, n = (dig 10000 b).length := ⟨_, rfl⟩
  have hb2 : dl 10000 b = lb := hlb.symm
  have ha2 : dl 10000 a = n := hn.symm
  have u1 : n ≤ 9223372036854775807 := by omega
  have u3 : lb ≤ 9223372036854775807 := by omega
  simp only [ir_ref1_Sub, sX, mX, initF, List.replicate, Nat.reduceAdd, Nat.reduceSub, iv, avmL, refV]
  simp (maxSteps := 2000000) only [↓avp, ↓avmD, avq, ↓reduceIte, Nat.reduceAdd, Nat.reduceMul, Nat.reduceSub, Nat.reduceLT, Nat.reduceLeDiff, Nat.reduceEqDiff, Nat.reducePow, Nat.reduceMod, slV, ← hn, ← hlb, u1, u3]
  refine ⟨by omega, ?_⟩
  have hstart : SubI 10000 a b n 0 0 (dig 10000 a) := ⟨hn.symm, dig_lt (by decide) a, by omega, by rw [val_dig (by decide)]; simp [Nat.mod_one]⟩
  refine loop_of (fun q : Nat × Nat × List Nat => ⟨[J,.sl lb (row .i64 (dig 10000 b)),J,J,J,.osl 0 0 n,J,J,J,J,.int .i64 n,.int .i64 q.1,J,J,J,J,J,J,J,J,J,J,J,J,J,J,J,J,J,J,J,J,J,J,J,J,J,J,J,J,J,J,J,J,J,J,J,J,J], [.arr t_int 1 false ((row .i64 q.2.2).set q.1 (.int .i64 ((q.2.2.getD q.1 0 : Nat) - (q.2.1 : Int))))]⟩)
    (fun q => q.1 ≤ n ∧ SubI 10000 a b n q.1 q.2.1 q.2.2) (fun q => n - q.1) (0, 0, dig 10000 a) [1, 5, 10, 11] ?_ ⟨by simp, hstart⟩ ?_
  · simp only [Int.natCast_zero, Int.sub_zero, row_set_id]
    rfl
  rintro ⟨i, c, l⟩ ⟨hi, H⟩
  simp only at hi H
  have hll := H.len
  by_cases h0 : i < n
  · have gB := dig_getD (B := 10000) (by decide) b i
    have mB : b / 10000 ^ i % 10000 < 10000 := Nat.mod_lt _ (by decide)
    have md := H.lt.getD (by decide) i
    have hc1 := H.c1
    obtain ⟨d, hd⟩ : ∃ d : Int, d = ((l.getD i 0 : Nat) : Int) - (c : Int) := ⟨_, rfl⟩
    obtain ⟨s, hs⟩ : ∃ s : Int, s = d - ((b / 10000 ^ i % 10000 : Nat) : Int) := ⟨_, rfl⟩
    have w1 : IntKind.i64.wrap s = s := wi64_in (by omega) (by omega)
    have w2 : IntKind.i64.wrap (s + ((10000 : Nat) : Int)) = s + ((10000 : Nat) : Int) := wi64_in (by omega) (by omega)
    have w3 : IntKind.i64.wrap ((i + 1 : Nat) : Int) = ((i + 1 : Nat) : Int) := wi64 (by omega)
    have q1 : i + 1 ≤ n := by omega
    have g1 : ((row .i64 l).set i (.int .i64 d)).getD i .junk = .int .i64 d := row_set_getD _ (by omega) _
    have g2 : ((row .i64 l).set i (.int .i64 s)).getD i .junk = .int .i64 s := row_set_getD _ (by omega) _
    have gl : ∀ x : AV, ((row .i64 l).set i x).length = n := fun x => by rw [List.length_set, row_length]; exact hll
    have d2 : (dig 10000 b).length = lb := hlb.symm
    have sB : ¬ i < lb → d = s := fun h => by
      have := dig_high_mod (B := 10000) (n := b) (i := i) (by decide) (by omega); omega
    by_cases hc : s < 0
    · obtain ⟨t, ht⟩ : ∃ t : Nat, s + ((10000 : Nat) : Int) = (t : Int) := ⟨(s + 10000).toNat, by omega⟩
      obtain ⟨c1, S⟩ := H.take (by decide) h0 (by omega) hba (s := t) (by omega) (by omega)
      have md' := H.lt.getD (by decide) (i + 1)
      have w4 : IntKind.i64.wrap (((l.getD (i + 1) 0 : Nat) : Int) - ((1 : Nat) : Int)) = ((l.getD (i + 1) 0 : Nat) : Int) - ((1 : Nat) : Int) := wi64_in (by omega) (by omega)
      have g3 : (row .i64 (l.set i t)).getD (i + 1) .junk = .int .i64 ((l.getD (i + 1) 0 : Nat) : Int) := by rw [row_getD .i64 (by rw [List.length_set]; omega), getD_set_ne (by omega)]
      have q3 : i + 1 + 1 ≤ n := by omega
      have w5 : IntKind.i64.wrap ((t : Nat) : Int) = ((t : Nat) : Int) := wi64 (by omega)
      have hc' : (s < ((0 : Nat) : Int)) = True := by simp [hc]
      have fin : ∀ f : List AV, keepF [1, 5, 10, 11] 0 f = [J,.sl lb (row .i64 (dig 10000 b)),J,J,J,.osl 0 0 n,J,J,J,J,.int .i64 n,.int .i64 ((i + 1 : Nat) : Int),J,J,J,J,J,J,J,J,J,J,J,J,J,J,J,J,J,J,J,J,J,J,J,J,J,J,J,J,J,J,J,J,J,J,J,J,J] →
          LN P G 0 (fun q : Nat × Nat × List Nat => ⟨[J,.sl lb (row .i64 (dig 10000 b)),J,J,J,.osl 0 0 n,J,J,J,J,.int .i64 n,.int .i64 q.1,J,J,J,J,J,J,J,J,J,J,J,J,J,J,J,J,J,J,J,J,J,J,J,J,J,J,J,J,J,J,J,J,J,J,J,J,J], [.arr t_int 1 false ((row .i64 q.2.2).set q.1 (.int .i64 ((q.2.2.getD q.1 0 : Nat) - (q.2.1 : Int))))]⟩)
            (fun q => q.1 ≤ n ∧ SubI 10000 a b n q.1 q.2.1 q.2.2) (fun q => n - q.1) (n - i) ⟨f, [.arr t_int 1 false ((row .i64 (l.set i t)).set (i + 1) (.int .i64 (((l.getD (i + 1) 0 : Nat) : Int) - ((1 : Nat) : Int))))]⟩ := fun f hf => by
        refine LN.next (i + 1, 1, l.set i t) [1, 5, 10, 11] ⟨by simp only; omega, S⟩ (by simp only; omega) ?_
        simp only [hf, getD_set_ne (show i ≠ i + 1 by omega)]
      by_cases hB : i < lb
      · simp (maxSteps := 2000000) only [↓avp, ↓avmD, avq, ↓reduceIte, Nat.reduceAdd, Nat.reduceMul, Nat.reduceSub, Nat.reduceLT, Nat.reduceLeDiff, Nat.reduceEqDiff, Nat.reducePow, Nat.reduceMod, h0, hB, u3, ← hd, ← hs, g1, g2, gl, gB, d2, w1, w2, w3, w4, w5, ht, g3, q1, q3, c1, hc', List.set_set, List.length_set, hll]
        exact fin _ rfl
      · have e := sB hB
        simp (maxSteps := 2000000) only [↓avp, ↓avmD, avq, ↓reduceIte, Nat.reduceAdd, Nat.reduceMul, Nat.reduceSub, Nat.reduceLT, Nat.reduceLeDiff, Nat.reduceEqDiff, Nat.reducePow, Nat.reduceMod, h0, hB, u3, ← hd, e, g1, g2, gl, gB, d2, w1, w2, w3, w4, w5, ht, g3, q1, q3, c1, hc', List.set_set, List.length_set, hll]
        exact fin _ rfl
    · obtain ⟨t, ht⟩ : ∃ t : Nat, s = (t : Int) := ⟨s.toNat, by omega⟩
      obtain ⟨c1, S⟩ := H.stay (by decide) h0 (s := t) (by omega)
      have hc' : (((t : Nat) : Int) < ((0 : Nat) : Int)) = False := by simp
      have hs' : d - ((b / 10000 ^ i % 10000 : Nat) : Int) = ((t : Nat) : Int) := by omega
      have w5 : IntKind.i64.wrap ((t : Nat) : Int) = ((t : Nat) : Int) := wi64 (by omega)
      have g3 : (row .i64 (l.set i t)).getD i .junk = .int .i64 ((t : Nat) : Int) := by rw [row_getD .i64 (by rw [List.length_set]; omega), getD_set_eq (by omega)]
      have fin : ∀ f : List AV, keepF [1, 5, 10, 11] 0 f = [J,.sl lb (row .i64 (dig 10000 b)),J,J,J,.osl 0 0 n,J,J,J,J,.int .i64 n,.int .i64 ((i + 1 : Nat) : Int),J,J,J,J,J,J,J,J,J,J,J,J,J,J,J,J,J,J,J,J,J,J,J,J,J,J,J,J,J,J,J,J,J,J,J,J,J] →
          LN P G 0 (fun q : Nat × Nat × List Nat => ⟨[J,.sl lb (row .i64 (dig 10000 b)),J,J,J,.osl 0 0 n,J,J,J,J,.int .i64 n,.int .i64 q.1,J,J,J,J,J,J,J,J,J,J,J,J,J,J,J,J,J,J,J,J,J,J,J,J,J,J,J,J,J,J,J,J,J,J,J,J,J], [.arr t_int 1 false ((row .i64 q.2.2).set q.1 (.int .i64 ((q.2.2.getD q.1 0 : Nat) - (q.2.1 : Int))))]⟩)
            (fun q => q.1 ≤ n ∧ SubI 10000 a b n q.1 q.2.1 q.2.2) (fun q => n - q.1) (n - i) ⟨f, [.arr t_int 1 false (row .i64 (l.set i t))]⟩ := fun f hf => by
        refine LN.next (i + 1, 0, l.set i t) [1, 5, 10, 11] ⟨by simp only; omega, S⟩ (by simp only; omega) ?_
        simp only [hf, Int.natCast_zero, Int.sub_zero, row_set_id]
      by_cases hB : i < lb
      · simp (maxSteps := 2000000) only [↓avp, ↓avmD, avq, ↓reduceIte, Nat.reduceAdd, Nat.reduceMul, Nat.reduceSub, Nat.reduceLT, Nat.reduceLeDiff, Nat.reduceEqDiff, Nat.reducePow, Nat.reduceMod, h0, hB, u3, ← hd, hs', g1, g3, gl, gB, d2, w3, w5, q1, hc', List.set_set, List.length_set, hll]
        exact fin _ rfl
      · have e := sB hB
        simp (maxSteps := 2000000) only [↓avp, ↓avmD, avq, ↓reduceIte, Nat.reduceAdd, Nat.reduceMul, Nat.reduceSub, Nat.reduceLT, Nat.reduceLeDiff, Nat.reduceEqDiff, Nat.reducePow, Nat.reduceMod, h0, hB, u3, ← hd, e, ht, g1, g3, gl, gB, d2, w3, w5, q1, hc', List.set_set, List.length_set, hll]
        exact fin _ rfl
  · have e : i = n := by omega
    subst e
    have hv := H.fin (by decide) (by omega) hba
    have ht := ref_trim_px (G := G) l H.lt
    rw [hv] at ht
    unfold slV at ht
    rw [hll] at ht
    have e2 : (row .i64 l).set i (.int .i64 (((l.getD i 0 : Nat) : Int) - (c : Int))) = row .i64 l := row_set_end _ (by omega) _
    simp (maxSteps := 2000000) only [↓avp, ↓avmD, avq, ↓reduceIte, Nat.reduceAdd, Nat.reduceMul, Nat.reduceSub, Nat.reduceLT, Nat.reduceLeDiff, Nat.reduceEqDiff, Nat.reducePow, Nat.reduceMod, h0, e2]
    refine ACall.fzc (H0 := []) 0 rfl rfl (Nat.le_refl _) (by simp only [avmF]) ?_
    have e0 : i ≤ l.length := by omega
    have e1 : l.take i = l := List.take_of_length_le (by omega)
    simp (maxSteps := 2000000) only [↓avp, ↓avmD, avq, ↓reduceIte, Nat.reduceAdd, Nat.reduceMul, Nat.reduceSub, Nat.reduceLT, Nat.reduceLeDiff, Nat.reduceEqDiff, Nat.reducePow, Nat.reduceMod, avmT, e0, e1]
    refine ht.call ?_
    simp (maxSteps := 2000000) only [↓avp, ↓avmD, avq, ↓reduceIte, Nat.reduceAdd, Nat.reduceMul, Nat.reduceSub, Nat.reduceLT, Nat.reduceLeDiff, Nat.reduceEqDiff, Nat.reducePow, Nat.reduceMod]
    refine ret_now ?_
    simp (maxSteps := 2000000) only [↓avp, ↓avmD, avq, ↓reduceIte, Nat.reduceAdd, Nat.reduceMul, Nat.reduceSub, Nat.reduceLT, Nat.reduceLeDiff, Nat.reduceEqDiff, Nat.reducePow, Nat.reduceMod]
    rfl
end Va
/- The reference's quotients. -/
set_option linter.unusedSimpArgs false
set_option linter.unusedVariables false
set_option maxRecDepth 100000
set_option maxHeartbeats 8000000
open Go Go.Avm
namespace Va
attribute [local irreducible] ACallF FCallF
variable {G : Glob}
theorem refV_zero : refV 0 = .sl 0 [] := by simp [refV, slV, dig_zero, row]
theorem ref_Div_px (a b : Nat) (hb0 : 0 < b) (ha : dl 10000 a ≤ 100000000) (hb : dl 10000 b ≤ 100000000) : PX P G n_ref1_Div [refV a, refV b] (.tup [refV (a / b), refV (a % b)]) := by
  refine PX_of_awp low_ref1_Div fol (by simp only [avmF, refV, and_true]) (by simp only [avmF, refV, and_true]) ?_
  obtain ⟨n, hn⟩ : ∃ n, n = (dig 10000 a).length := ⟨_, rfl⟩
  have ha2 : dl 10000 a = n := hn.symm
  have u1 : n ≤ 9223372036854775807 := by omega
  have hra : refV a = .sl n (row .i64 (dig 10000 a)) := by rw [hn]; rfl
  have w0 : IntKind.i64.wrap (((n : Nat) : Int) - ((1 : Nat) : Int)) = ((n : Nat) : Int) - 1 := wi64_in (by omega) (by omega)
  rw [hra]
  simp only [ir_ref1_Div, sX, mX, initF, List.replicate, Nat.reduceAdd, Nat.reduceSub, iv, avmL]
  simp (maxSteps := 2000000) only [↓avp, ↓avmD, avq, ↓reduceIte, Nat.reduceAdd, Nat.reduceMul, Nat.reduceSub, Nat.reduceLT, Nat.reduceLeDiff, Nat.reduceEqDiff, Nat.reducePow, Nat.reduceMod, u1, row_reps, w0]
  refine ⟨by omega, ?_⟩
  refine loop_gh (fun q : Nat × Nat × List Nat => ⟨[.sl n (row .i64 (dig 10000 a)),refV b,J,J,J,J,.osl 0 0 n,refV q.2.1,.int .i64 ((q.1 : Int) - 1),J,J,J,J,J,J,J,J,J,J,J,J,J,J,J,J,J,J,J,J,J,J,J,J,J,J,J,J,J,J,J,J,J,J,J,J,J,J,J,J,J,J,J,J,J,J,J,J,J,J,J,J,J,J,J], [.arr t_int 1 false (row .i64 q.2.2)]⟩)
    (fun q => q.1 ≤ n ∧ DivI 10000 a b n q.1 q.2.1 q.2.2) (fun q => q.1) (n, 0, List.replicate n 0) (Gh.trans (Gh.keep _ [0, 1, 6, 7, 8]) ?_) ⟨Nat.le_refl _, DivI.start (by decide) (by omega)⟩ ?_
  · show Gh G 0 _ ⟨[.sl n (row .i64 (dig 10000 a)),refV b,J,J,J,J,.osl 0 0 n,refV 0,.int .i64 ((n : Int) - 1),J,J,J,J,J,J,J,J,J,J,J,J,J,J,J,J,J,J,J,J,J,J,J,J,J,J,J,J,J,J,J,J,J,J,J,J,J,J,J,J,J,J,J,J,J,J,J,J,J,J,J,J,J,J,J], [.arr t_int 1 false (row .i64 (List.replicate n 0))]⟩
    rw [refV_zero]
    exact Gh.wk (wk_frame_nils (f := [.sl n (row .i64 (dig 10000 a)), refV b, .junk, .junk, .junk, .junk, .osl 0 0 n]))
  rintro ⟨k, r, l⟩ ⟨hk, H⟩
  simp only at hk H
  have hll := H.len
  rcases Nat.eq_zero_or_pos k with rfl | hk0
  · have h0 : (((0 : Nat) : Int) ≤ ((0 : Nat) : Int) - 1) = False := by simp
    obtain ⟨f1, f2⟩ := H.fin
    have ht := ref_trim_px (G := G) l H.lt
    rw [f1] at ht
    unfold slV at ht
    rw [hll] at ht
    simp (maxSteps := 2000000) only [↓avp, ↓avmD, avq, ↓reduceIte, Nat.reduceAdd, Nat.reduceMul, Nat.reduceSub, Nat.reduceLT, Nat.reduceLeDiff, Nat.reduceEqDiff, Nat.reducePow, Nat.reduceMod, h0]
    refine ACall.fzc (H0 := []) 0 rfl rfl (Nat.le_refl _) (by simp only [avmF]) ?_
    have e0 : n ≤ l.length := by omega
    have e1 : l.take n = l := List.take_of_length_le (by omega)
    simp (maxSteps := 2000000) only [↓avp, ↓avmD, avq, ↓reduceIte, Nat.reduceAdd, Nat.reduceMul, Nat.reduceSub, Nat.reduceLT, Nat.reduceLeDiff, Nat.reduceEqDiff, Nat.reducePow, Nat.reduceMod, avmT, avmK, e0, e1]
    refine ht.call ?_
    simp (maxSteps := 2000000) only [↓avp, ↓avmD, avq, ↓reduceIte, Nat.reduceAdd, Nat.reduceMul, Nat.reduceSub, Nat.reduceLT, Nat.reduceLeDiff, Nat.reduceEqDiff, Nat.reducePow, Nat.reduceMod]
    refine ret_now ?_
    simp (maxSteps := 2000000) only [↓avp, ↓avmD, avq, ↓reduceIte, Nat.reduceAdd, Nat.reduceMul, Nat.reduceSub, Nat.reduceLT, Nat.reduceLeDiff, Nat.reduceEqDiff, Nat.reducePow, Nat.reduceMod, f2]
  · obtain ⟨i, rfl⟩ : ∃ i, k = i + 1 := ⟨k - 1, by omega⟩
    have ei : (((i + 1 : Nat) : Int) - 1) = (i : Int) := by omega
    have wi : IntKind.i64.wrap (((i : Nat) : Int) - ((1 : Nat) : Int)) = ((i : Nat) : Int) - 1 := wi64_in (by omega) (by omega)
    have hrb : r < b := by rw [H.r]; exact Nat.mod_lt _ hb0
    have hdr : dl 10000 r ≤ dl 10000 b := dl_mono (by decide) (by omega)
    have gA : (row .i64 (dig 10000 a)).getD i .junk = .int .i64 ((a / 10000 ^ i % 10000 : Nat) : Int) := by rw [row_getD .i64 (by omega), dig_getD (by decide)]
    have md : a / 10000 ^ i % 10000 < 10000 := Nat.mod_lt _ (by decide)
    obtain ⟨r', hr'⟩ : ∃ r', r' = a / 10000 ^ i % 10000 + 10000 * r := ⟨_, rfl⟩
    have hT : PX P G n_ref1_trim [.sl (1 + (dig 10000 r).length) (row .i64 (a / 10000 ^ i % 10000 :: dig 10000 r))] (refV r') := by
      have := ref_trim_px (G := G) (a / 10000 ^ i % 10000 :: dig 10000 r) (AllLt.cons md (dig_lt (by decide) r))
      rw [val, val_dig (by decide), ← hr'] at this
      unfold slV at this
      rw [List.length_cons, Nat.add_comm] at this
      exact this
    have hdr' : dl 10000 r' ≤ 100000001 := by
      have h1 : r' < 10000 ^ (dl 10000 b + 1) := by
        have h2 := lt_pow_dl (B := 10000) (by decide) b
        rw [Nat.pow_succ]
        omega
      have := (dl_le_iff (B := 10000) (by decide)).2 h1
      omega
    have hC := ref_Cmp_px (G := G) r' b (by omega) (by omega)
    have c0 : i < n := by omega
    have u2 : (1 + (dig 10000 r).length) * 8 ≤ 140737488355328 := by unfold dl at hdr hb; omega
    have t1 : (row IntKind.i64 (dig 10000 r)).take (dig 10000 r).length = row IntKind.i64 (dig 10000 r) := List.take_of_length_le (by rw [row_length]; omega)
    have hrr : refV r = .sl (dig 10000 r).length (row .i64 (dig 10000 r)) := rfl
    have d1 : (dig 10000 a).length = n := hn.symm
    simp (maxSteps := 2000000) only [↓avp, ↓avmD, avq, ↓reduceIte, Nat.reduceAdd, Nat.reduceMul, Nat.reduceSub, Nat.reduceLT, Nat.reduceLeDiff, Nat.reduceEqDiff, Nat.reducePow, Nat.reduceMod, ei, gA, c0, d1, hrr, cellsOf, putAt, fillP, List.replicate_one, List.set_cons_zero, List.length_cons, List.length_nil, avmK, u2, ne_eq, not_false_eq_true]
    refine ⟨⟨Nat.zero_le _, fun h => by cases h⟩, ?_⟩
    refine ACall.fzc (H0 := [_]) 1 rfl rfl (Nat.zero_le _) (by simp only [avmF, row_append]) ?_
    have e0 : 1 + (dig 10000 r).length ≤ ([a / 10000 ^ i % 10000] ++ dig 10000 r).length := by simp; omega
    have e1 : ([a / 10000 ^ i % 10000] ++ dig 10000 r).take (1 + (dig 10000 r).length) = a / 10000 ^ i % 10000 :: dig 10000 r := List.take_of_length_le (by simp; omega)
    simp (maxSteps := 2000000) only [↓avp, ↓avmD, avq, ↓reduceIte, Nat.reduceAdd, Nat.reduceMul, Nat.reduceSub, Nat.reduceLT, Nat.reduceLeDiff, Nat.reduceEqDiff, Nat.reducePow, Nat.reduceMod, avmT, avmK, ne_eq, not_false_eq_true, e0, e1]
    refine hT.call ?_
    simp (maxSteps := 2000000) only [↓avp, ↓avmD, avq, ↓reduceIte, Nat.reduceAdd, Nat.reduceMul, Nat.reduceSub, Nat.reduceLT, Nat.reduceLeDiff, Nat.reduceEqDiff, Nat.reducePow, Nat.reduceMod]
    refine hC.call ?_
    clear hT hrr
    by_cases hlt : r' < b
    · have cm : (cmpI r' b < ((0 : Nat) : Int)) = True := by simp [cmpI, hlt]
      simp (maxSteps := 2000000) only [↓avp, ↓avmD, avq, ↓reduceIte, Nat.reduceAdd, Nat.reduceMul, Nat.reduceSub, Nat.reduceLT, Nat.reduceLeDiff, Nat.reduceEqDiff, Nat.reducePow, Nat.reduceMod, cm, wi]
      exact LN.next (i, r', l) [0, 1, 6, 7, 8] ⟨by simp only; omega, by rw [hr'] at hlt ⊢; exact H.skip (by decide) hb0 hlt⟩ (by simp only; omega) rfl
    · have cm : (cmpI r' b < ((0 : Nat) : Int)) = False := by
        simp [cmpI, hlt]
        split <;> simp
      have hq := H.put (by decide) hb0 (by omega) (q := r' / b) (by rw [hr'])
      rw [← hr'] at hq
      obtain ⟨hqB, hqI⟩ := hq
      have hM : ∀ d, 0 < d → d < 10000 → PX P G n_ref1_Mul [refV b, .sl 1 (row .i64 [d])] (refV (b * d)) := fun d h0 h1 => by
        rw [← refV_small h0 h1]
        refine ref_Mul_px b d (by omega) ?_
        have := (dl_le_iff (B := 10000) (n := d) (k := 1) (by decide)).2 (by omega)
        omega
      simp (maxSteps := 2000000) only [↓avp, ↓avmD, avq, ↓reduceIte, Nat.reduceAdd, Nat.reduceMul, Nat.reduceSub, Nat.reduceLT, Nat.reduceLeDiff, Nat.reduceEqDiff, Nat.reducePow, Nat.reduceMod, cm]
      refine loop_of (fun q : Nat × Nat => ⟨[.sl n (row .i64 (dig 10000 a)),refV b,J,J,J,J,.osl 0 0 n,refV r',.int .i64 (i : Int),.int .i64 q.1,.int .i64 q.2,J,J,J,J,J,J,J,J,J,J,J,J,J,J,J,J,J,J,J,J,J,J,J,J,J,J,J,J,J,J,J,J,J,J,J,J,J,J,J,J,J,J,J,J,J,J,J,J,J,J,J,J,J], [.arr t_int 1 false (row .i64 l)]⟩)
        (fun q => 1 ≤ q.1 ∧ q.1 < q.2 ∧ q.2 ≤ 10000 ∧ q.1 * b ≤ r' ∧ r' < q.2 * b) (fun q => q.2 - q.1) (1, 10000) [0, 1, 6, 7, 8, 9, 10] rfl
        ⟨by decide, by decide, by decide, by simp only; omega, by
          simp only
          have := Nat.lt_mul_of_div_lt hqB hb0
          omega⟩ ?_
      rintro ⟨lo, hi⟩ ⟨q1, q2, q3, q4, q5⟩
      simp only at q1 q2 q3 q4 q5
      have v1 : IntKind.i64.wrap (((hi : Nat) : Int) - ((lo : Nat) : Int)) = ((hi - lo : Nat) : Int) := by rw [wi64_in (by omega) (by omega)]; omega
      by_cases hw : 1 < hi - lo
      · have v2 : IntKind.i64.wrap ((lo + hi : Nat) : Int) = ((lo + hi : Nat) : Int) := wi64 (by omega)
        have v3 : IntKind.i64.wrap (((lo + hi) / 2 : Nat) : Int) = (((lo + hi) / 2 : Nat) : Int) := wi64 (by omega)
        have hCm := ref_Cmp_px (G := G) (b * ((lo + hi) / 2)) r' (by
          have h1 := dl_mul (B := 10000) (by decide) b ((lo + hi) / 2)
          have h2 := (dl_le_iff (B := 10000) (n := (lo + hi) / 2) (k := 1) (by decide)).2 (by omega)
          omega) (by omega)
        simp (maxSteps := 2000000) only [↓avp, ↓avmD, avq, ↓reduceIte, Nat.reduceAdd, Nat.reduceMul, Nat.reduceSub, Nat.reduceLT, Nat.reduceLeDiff, Nat.reduceEqDiff, Nat.reducePow, Nat.reduceMod, v1, hw, v2, v3, cellsOf, putAt, fillP, List.replicate_one, List.set_cons_zero, List.length_cons, List.length_nil]
        refine ACall.fzc (H0 := [_]) 1 rfl rfl (Nat.zero_le _) (by simp only [avmF]) ?_
        simp (maxSteps := 2000000) only [↓avp, ↓avmD, avq, ↓reduceIte, Nat.reduceAdd, Nat.reduceMul, Nat.reduceSub, Nat.reduceLT, Nat.reduceLeDiff, Nat.reduceEqDiff, Nat.reducePow, Nat.reduceMod, avmT, avmK, ne_eq, not_false_eq_true, List.length_cons, List.length_nil, List.take_succ_cons, List.take_zero]
        refine (hM _ (by omega) (by omega)).call ?_
        simp (maxSteps := 2000000) only [↓avp, ↓avmD, avq, ↓reduceIte, Nat.reduceAdd, Nat.reduceMul, Nat.reduceSub, Nat.reduceLT, Nat.reduceLeDiff, Nat.reduceEqDiff, Nat.reducePow, Nat.reduceMod]
        refine hCm.call ?_
        by_cases hle : b * ((lo + hi) / 2) ≤ r'
        · have cm2 : (cmpI (b * ((lo + hi) / 2)) r' ≤ ((0 : Nat) : Int)) = True := by
            simp only [cmpI]
            split
            · simp
            · split
              · omega
              · simp
          simp (maxSteps := 2000000) only [↓avp, ↓avmD, avq, ↓reduceIte, Nat.reduceAdd, Nat.reduceMul, Nat.reduceSub, Nat.reduceLT, Nat.reduceLeDiff, Nat.reduceEqDiff, Nat.reducePow, Nat.reduceMod, cm2]
          exact LN.next ((lo + hi) / 2, hi) [0, 1, 6, 7, 8, 9, 10] ⟨by simp only; omega, by simp only; omega, q3, by simp only; rw [Nat.mul_comm]; exact hle, q5⟩ (by simp only; omega) rfl
        · have cm2 : (cmpI (b * ((lo + hi) / 2)) r' ≤ ((0 : Nat) : Int)) = False := by
            simp only [cmpI]
            rw [if_neg (by omega), if_pos (by omega)]
            simp
          simp (maxSteps := 2000000) only [↓avp, ↓avmD, avq, ↓reduceIte, Nat.reduceAdd, Nat.reduceMul, Nat.reduceSub, Nat.reduceLT, Nat.reduceLeDiff, Nat.reduceEqDiff, Nat.reducePow, Nat.reduceMod, cm2]
          exact LN.next (lo, (lo + hi) / 2) [0, 1, 6, 7, 8, 9, 10] ⟨q1, by simp only; omega, by simp only; omega, q4, by simp only; rw [Nat.mul_comm]; omega⟩ (by simp only; omega) rfl
      · have hlo := half_fin hb0 q4 q5 (by omega) q2
        have hS := ref_Sub_px (G := G) r' (b * lo) (by rw [Nat.mul_comm]; exact q4) (by omega)
        have q6 : i + 1 ≤ n := by omega
        simp (maxSteps := 2000000) only [↓avp, ↓avmD, avq, ↓reduceIte, Nat.reduceAdd, Nat.reduceMul, Nat.reduceSub, Nat.reduceLT, Nat.reduceLeDiff, Nat.reduceEqDiff, Nat.reducePow, Nat.reduceMod, v1, hw, c0, hll, q6, cellsOf, putAt, fillP, List.replicate_one, List.set_cons_zero, List.length_cons, List.length_nil]
        refine ACall.fzc (H0 := [_]) 1 rfl rfl (Nat.zero_le _) (by simp only [avmF]) ?_
        simp (maxSteps := 2000000) only [↓avp, ↓avmD, avq, ↓reduceIte, Nat.reduceAdd, Nat.reduceMul, Nat.reduceSub, Nat.reduceLT, Nat.reduceLeDiff, Nat.reduceEqDiff, Nat.reducePow, Nat.reduceMod, avmT, avmK, ne_eq, not_false_eq_true, List.length_cons, List.length_nil, List.take_succ_cons, List.take_zero]
        repeat ((first | refine (hM _ (by omega) (by omega)).call ?_ | refine hS.call ?_); simp (maxSteps := 2000000) only [↓avp, ↓avmD, avq, ↓reduceIte, Nat.reduceAdd, Nat.reduceMul, Nat.reduceSub, Nat.reduceLT, Nat.reduceLeDiff, Nat.reduceEqDiff, Nat.reducePow, Nat.reduceMod, wi])
        subst hlo
        exact LN.next (i, r' - b * (r' / b), l.set i (r' / b)) [0, 1, 6, 7, 8] ⟨by simp only; omega, hqI⟩ (by simp only; omega) rfl
end Va
