/- Joined texts. -/
import Derived.Test.YtdhhdjnhjlomkaaGreatDoorFQ
/- The reference's fractions: texts read. -/
set_option linter.unusedSimpArgs false
set_option linter.unusedVariables false
set_option maxRecDepth 100000
set_option exponentiation.threshold 3000
set_option maxHeartbeats 8000000
open Go Go.Avm
namespace Va
attribute [local irreducible] ACallF FCallF
variable {G : Glob}
/-- What the reference's Get hands out. -/
def rgetV (s : List UInt8) : AV := match getQ s with
  | some q => .tup [refQ (decide (q.num < 0)) q.num.natAbs q.den, .bool true]
  | none => .tup [.agg [.bool false, .nils, refV 1], .bool false]
theorem rgetV_frz (s : List UInt8) : Frz (rgetV s) = True := by unfold rgetV; split <;> simp only [avmF, avmU, and_true]
theorem rget_no {s : List UInt8} (h : getQ s = none) : rgetV s = .tup [.agg [.bool false, .nils, refV 1], .bool false] := by rw [rgetV, h]
theorem getQ_none {s : List UInt8} (h : ¬ (okN (topQ (bodyQ s)) = true ∧ okN (lowQ (bodyQ s)) = true ∧ num (lowQ (bodyQ s)) ≠ 0)) : getQ s = none := by rw [getQ, if_neg h]
theorem getQ_none2 {s : List UInt8} (h : ¬ ratTxt (mkRat (sgn (negQ s) (num (topQ (bodyQ s)))) (num (lowQ (bodyQ s)))) = s) : getQ s = none := by
  rw [getQ]
  by_cases h1 : okN (topQ (bodyQ s)) = true ∧ okN (lowQ (bodyQ s)) = true ∧ num (lowQ (bodyQ s)) ≠ 0
  · rw [if_pos h1, if_neg h]
  · rw [if_neg h1]
theorem getQ_some {s : List UInt8} (h1 : okN (topQ (bodyQ s)) = true) (h2 : okN (lowQ (bodyQ s)) = true) (h3 : num (lowQ (bodyQ s)) ≠ 0) (h : ratTxt (mkRat (sgn (negQ s) (num (topQ (bodyQ s)))) (num (lowQ (bodyQ s)))) = s) :
    getQ s = some (mkRat (sgn (negQ s) (num (topQ (bodyQ s)))) (num (lowQ (bodyQ s)))) := by rw [getQ, if_pos ⟨h1, h2, h3⟩, if_pos h]
theorem idx_ref (H : List AObj) (n : Nat) (k : IntKind) (K : AV → Prop) (h : dl 10000 n = 1) : idxAP H 1 (refV n) (.int k ((0 : Nat) : Int)) K = K (.ptr (row .i64 (dig 10000 n)) 0) := by
  have h' : (dig 10000 n).length = 1 := h
  simp [refV, slV, idxAP, h']
theorem dig_one {n : Nat} (h : dl 10000 n = 1) : (row .i64 (dig 10000 n)).getD 0 .junk = .int .i64 ((n : Nat) : Int) ∧ 0 < (dig 10000 n).length := by
  have h' : (dig 10000 n).length = 1 := h
  have hl := lt_pow_dl (B := 10000) (by decide) n
  rw [h] at hl
  refine ⟨?_, by omega⟩
  rw [row_getD .i64 (by omega), dig_getD (by decide), Nat.pow_zero, Nat.div_one, Nat.mod_eq_of_lt (by omega)]
theorem len_of (n : Nat) (h : dl 10000 n ≤ 9223372036854775807) : ∀ (H : List AObj) (K : AV → Prop), lenP H (refV n) K = K (.int .i64 ((dl 10000 n : Nat) : Int)) := fun H K => by rw [len_ref]; simp [h]
theorem dl_nought (n : Nat) : (dl 10000 n = 0) = (n = 0) := propext (dl_eq_zero (by decide))
theorem okN_dl4 {s : List UInt8} (h : okN s = true) : dl 10000 (num s) ≤ 2000 := by
  obtain ⟨h1, h2, h3, h4⟩ := okN_dg h
  exact dlr (Nat.lt_of_lt_of_le (num_lt h1) (Nat.pow_le_pow_right (by decide) h3))
theorem topQ_len' (t : List UInt8) : (topQ t).length ≤ t.length := by unfold topQ; rw [List.length_take]; omega
theorem lowQ_len' (t : List UInt8) : (lowQ t).length ≤ t.length + 1 := by
  unfold lowQ
  split
  · rw [List.length_drop]; omega
  · simp
theorem ref_Get_t1 (s t : List UInt8) (neg : Bool) (k : Nat) (hs : s.length ≤ 1000000) (ht : t = bodyQ s) (hneg : neg = negQ s) (hk : k = slashQ t) (htl : t.length ≤ s.length) (h1 : okN (topQ t) = false) (g21 g22 g23 g24 g25 g26 g27 g28 g29 g30 : AV) : awp (ctx P G 0) (peel 5 ir_ref1_Get.body) (exRet (ctx P G 0) ir_ref1_Get.res fun (x : AV) (_ : List AObj) => x = rgetV s) ⟨[J,J,.own 0 0,J,.str t,.bool neg,.int .i64 k,J,J,J,J,J,J,J,J,J,J,J,J,J,J,g21,g22,g23,g24,g25,g26,g27,g28,g29,g30,J,J,J,J,J,J,J,J,J,J,J,J,J,J,J,J,J,J,J,J,J,J,J,J,J,J,J,J,J,J,J,J,J,J,J,J,J,J,J,J,J,J,J,J,J,J,J,J,J,J,J,J,J,J,J,J,J,J,J,J,J,J,J,J,J,J,J,J,J,J,J,J,J,J,J,J,J,J], [.arr t_ref1_Q 3 false [.bool false, .nils, .nils]]⟩ := by
  have n1 : (!true) = false := rfl
  have n2 : (!false) = true := rfl
  have hk2 : k ≤ t.length := by rw [hk]; exact slashQ_le t
  have htop : t.take k = topQ t := by rw [hk]; rfl
  have t1 := topQ_len' t
  have t2 := lowQ_len' t
  have R1 := ref_GetN_px (G := G) (topQ t) (by omega)
  rw [h1, if_neg (by decide)] at R1
  have F := ref_Frac_px (G := G) neg 0 1 (by rw [dl_zero]; decide)
  rw [refV_one] at F
  have hno : getQ s = none := getQ_none (by rw [← ht, h1]; exact fun h => by cases h.1)
  rw [rget_no hno, refV_one]
  simp only [ir_ref1_Get, sX, mX, peel, lft, iv]
  simp (maxSteps := 2000000) only [↓avp, ↓avmD, avq, ↓reduceIte, Nat.reduceAdd, Nat.reduceMul, Nat.reduceSub, Nat.reduceLT, Nat.reduceLeDiff, Nat.reduceEqDiff, Nat.reducePow, Nat.reduceMod, hk2, htop]
  refine R1.call ?_
  simp (maxSteps := 2000000) only [↓avp, ↓avmD, avq, ↓reduceIte, Nat.reduceAdd, Nat.reduceMul, Nat.reduceSub, Nat.reduceLT, Nat.reduceLeDiff, Nat.reduceEqDiff, Nat.reducePow, Nat.reduceMod, cellsOf, putAt, fillP, List.replicate_one, List.set_cons_zero, List.length_cons, List.length_nil]
  refine ACall.fzc (H0 := [_]) 1 rfl rfl (Nat.zero_le _) (by simp only [avmF]) ?_
  simp (maxSteps := 2000000) only [↓avp, ↓avmD, avq, ↓reduceIte, Nat.reduceAdd, Nat.reduceMul, Nat.reduceSub, Nat.reduceLT, Nat.reduceLeDiff, Nat.reduceEqDiff, Nat.reducePow, Nat.reduceMod, avmT, avmK, avmU, ne_eq, not_false_eq_true, List.length_cons, List.length_nil, List.take_succ_cons, List.take_zero]
  refine F.call ?_
  simp (maxSteps := 2000000) only [↓avp, ↓avmD, avq, ↓reduceIte, Nat.reduceAdd, Nat.reduceMul, Nat.reduceSub, Nat.reduceLT, Nat.reduceLeDiff, Nat.reduceEqDiff, Nat.reducePow, Nat.reduceMod, n1, avmU, n1, n2]
  refine ret_fz 2 (by rfl) (by simp only [avmF]) ?_
  simp (maxSteps := 2000000) only [↓avp, ↓avmD, avq, ↓reduceIte, Nat.reduceAdd, Nat.reduceMul, Nat.reduceSub, Nat.reduceLT, Nat.reduceLeDiff, Nat.reduceEqDiff, Nat.reducePow, Nat.reduceMod, avmT, avmU, ne_eq, not_false_eq_true, List.length_cons, List.length_nil, List.take_succ_cons, List.take_zero, List.replicate_one, List.set_cons_zero]
  refine ret_now ?_
  simp (maxSteps := 2000000) only [↓avp, ↓avmD, avq, ↓reduceIte, Nat.reduceAdd, Nat.reduceMul, Nat.reduceSub, Nat.reduceLT, Nat.reduceLeDiff, Nat.reduceEqDiff, Nat.reducePow, Nat.reduceMod, List.take_succ_cons, List.take_zero, refV_one]

theorem ref_Get_t2 (s t : List UInt8) (neg : Bool) (k : Nat) (hs : s.length ≤ 1000000) (ht : t = bodyQ s) (hneg : neg = negQ s) (hk : k = slashQ t) (htl : t.length ≤ s.length) (h1 : okN (topQ t) = true) (hsl : ¬ k < t.length) (g21 g22 g23 g24 g25 g26 g27 g28 g29 g30 : AV) : awp (ctx P G 0) (peel 5 ir_ref1_Get.body) (exRet (ctx P G 0) ir_ref1_Get.res fun (x : AV) (_ : List AObj) => x = rgetV s) ⟨[J,J,.own 0 0,J,.str t,.bool neg,.int .i64 k,J,J,J,J,J,J,J,J,J,J,J,J,J,J,g21,g22,g23,g24,g25,g26,g27,g28,g29,g30,J,J,J,J,J,J,J,J,J,J,J,J,J,J,J,J,J,J,J,J,J,J,J,J,J,J,J,J,J,J,J,J,J,J,J,J,J,J,J,J,J,J,J,J,J,J,J,J,J,J,J,J,J,J,J,J,J,J,J,J,J,J,J,J,J,J,J,J,J,J,J,J,J,J,J,J,J,J], [.arr t_ref1_Q 3 false [.bool false, .nils, .nils]]⟩ := by
  have n1 : (!true) = false := rfl
  have n2 : (!false) = true := rfl
  have hk2 : k ≤ t.length := by rw [hk]; exact slashQ_le t
  have htop : t.take k = topQ t := by rw [hk]; rfl
  have t1 := topQ_len' t
  have t2 := lowQ_len' t
  have R1 := ref_GetN_px (G := G) (topQ t) (by omega)
  rw [h1, if_pos rfl] at R1
  have o1 := okN_dl4 h1
  obtain ⟨n, hn⟩ : ∃ n, n = num (topQ t) := ⟨_, rfl⟩
  rw [← hn] at R1 o1
  have F := ref_Frac_px (G := G) neg n 1 (by omega)
  rw [refV_one] at F
  have d1 : dl 10000 1 = 1 := by rw [dl_one (by decide) (by decide)]; rfl
  have Gc := ref_Gcd_px (G := G) n 1 (by omega) (by omega)
  rw [Nat.gcd_one_right] at Gc
  have C : PX P G n_ref1_Cmp [refV 1, .sl 1 (row .i64 [1])] (.int .i64 (cmpI 1 1)) := by
    rw [← refV_one]
    exact ref_Cmp_px (G := G) 1 1 (by omega) (by omega)
  have c1 : (cmpI 1 1 ≠ ((0 : Nat) : Int)) = False := by simp [cmpI]
  have hlow : lowQ t = [49] := by rw [lowQ, if_neg (by rw [← hk]; exact hsl)]
  have h2 : okN (lowQ t) = true := by rw [hlow]; rfl
  have h3 : num (lowQ t) = 1 := by rw [hlow]; rfl
  have un : dl 10000 n ≤ 9223372036854775807 := by omega
  have u1 : dl 10000 1 ≤ 9223372036854775807 := by rw [d1]; decide
  have l2 : (dl 10000 1 = 1) = True := by simp [d1]
  obtain ⟨g0, g1⟩ := dig_one d1
  have hown := own_iff (s := s) (by rw [← ht]; exact h1) (by rw [← ht]; exact h2) (by rw [← ht, h3]; decide)
  rw [← ht, h3, ← hn, ← hneg, ← hk] at hown
  by_cases h4 : neg = true ∧ n = 0
  · obtain ⟨h5, h6⟩ := h4
    have hno : getQ s = none := getQ_none2 (by rw [← ht, h3, ← hn, ← hneg, hown]; exact fun h => h.2.1 ⟨h5, h6⟩)
    rw [rget_no hno, refV_one]
    have e6 : (n = 0) = True := by simp [h6]
    rw [h5] at F ⊢
    simp only [ir_ref1_Get, sX, mX, peel, lft, iv]
    simp (maxSteps := 2000000) only [↓avp, ↓avmD, avq, ↓reduceIte, Nat.reduceAdd, Nat.reduceMul, Nat.reduceSub, Nat.reduceLT, Nat.reduceLeDiff, Nat.reduceEqDiff, Nat.reducePow, Nat.reduceMod, hk2, htop]
    refine R1.call ?_
    simp (maxSteps := 2000000) only [↓avp, ↓avmD, avq, ↓reduceIte, Nat.reduceAdd, Nat.reduceMul, Nat.reduceSub, Nat.reduceLT, Nat.reduceLeDiff, Nat.reduceEqDiff, Nat.reducePow, Nat.reduceMod, cellsOf, putAt, fillP, List.replicate_one, List.set_cons_zero, List.length_cons, List.length_nil]
    refine ACall.fzc (H0 := [_]) 1 rfl rfl (Nat.zero_le _) (by simp only [avmF]) ?_
    simp (maxSteps := 2000000) only [↓avp, ↓avmD, avq, ↓reduceIte, Nat.reduceAdd, Nat.reduceMul, Nat.reduceSub, Nat.reduceLT, Nat.reduceLeDiff, Nat.reduceEqDiff, Nat.reducePow, Nat.reduceMod, avmT, avmK, avmU, ne_eq, not_false_eq_true, List.length_cons, List.length_nil, List.take_succ_cons, List.take_zero]
    refine F.call ?_
    simp (maxSteps := 2000000) only [↓avp, ↓avmD, avq, ↓reduceIte, Nat.reduceAdd, Nat.reduceMul, Nat.reduceSub, Nat.reduceLT, Nat.reduceLeDiff, Nat.reduceEqDiff, Nat.reducePow, Nat.reduceMod, hsl, len_of n un, len_of 1 u1, e6, l2, idx_ref _ 1 _ _ d1, g0, g1, dl_nought, avmU, n1, n2]
    refine ret_fz 2 (by rfl) (by simp only [avmF]) ?_
    simp (maxSteps := 2000000) only [↓avp, ↓avmD, avq, ↓reduceIte, Nat.reduceAdd, Nat.reduceMul, Nat.reduceSub, Nat.reduceLT, Nat.reduceLeDiff, Nat.reduceEqDiff, Nat.reducePow, Nat.reduceMod, avmT, avmU, ne_eq, not_false_eq_true, List.length_cons, List.length_nil, List.take_succ_cons, List.take_zero, List.replicate_one, List.set_cons_zero]
    refine ret_now ?_
    simp (maxSteps := 2000000) only [↓avp, ↓avmD, avq, ↓reduceIte, Nat.reduceAdd, Nat.reduceMul, Nat.reduceSub, Nat.reduceLT, Nat.reduceLeDiff, Nat.reduceEqDiff, Nat.reducePow, Nat.reduceMod, List.take_succ_cons, List.take_zero, refV_one]
  · have hyes : getQ s = some (mkRat (sgn neg n) 1) := by
      have hr := hown.2 ⟨fun h => hsl h.1, h4, by rw [Nat.gcd_one_right]⟩
      have := getQ_some (s := s) (by rw [← ht]; exact h1) (by rw [← ht]; exact h2) (by rw [← ht, h3]; decide) (by rw [← ht, h3, ← hn, ← hneg]; exact hr)
      rw [← ht, h3, ← hn, ← hneg] at this
      exact this
    have q1 := mk_neg neg n (d := 1) (by decide)
    have q2 := mk_abs neg n (d := 1) (by decide)
    have q3 := mk_den neg n (d := 1) (by decide)
    rw [Nat.gcd_one_right, Nat.div_one] at q2 q3
    have hv : rgetV s = .tup [refQ (neg && decide (n ≠ 0)) n 1, .bool true] := by rw [rgetV, hyes]; simp only [q1, q2, q3]
    rw [hv]
    cases hne : neg with
    | false =>
      rw [hne] at F
      simp only [ir_ref1_Get, sX, mX, peel, lft, iv]
      simp (maxSteps := 2000000) only [↓avp, ↓avmD, avq, ↓reduceIte, Nat.reduceAdd, Nat.reduceMul, Nat.reduceSub, Nat.reduceLT, Nat.reduceLeDiff, Nat.reduceEqDiff, Nat.reducePow, Nat.reduceMod, hk2, htop]
      refine R1.call ?_
      simp (maxSteps := 2000000) only [↓avp, ↓avmD, avq, ↓reduceIte, Nat.reduceAdd, Nat.reduceMul, Nat.reduceSub, Nat.reduceLT, Nat.reduceLeDiff, Nat.reduceEqDiff, Nat.reducePow, Nat.reduceMod, cellsOf, putAt, fillP, List.replicate_one, List.set_cons_zero, List.length_cons, List.length_nil]
      refine ACall.fzc (H0 := [_]) 1 rfl rfl (Nat.zero_le _) (by simp only [avmF]) ?_
      simp (maxSteps := 2000000) only [↓avp, ↓avmD, avq, ↓reduceIte, Nat.reduceAdd, Nat.reduceMul, Nat.reduceSub, Nat.reduceLT, Nat.reduceLeDiff, Nat.reduceEqDiff, Nat.reducePow, Nat.reduceMod, avmT, avmK, avmU, ne_eq, not_false_eq_true, List.length_cons, List.length_nil, List.take_succ_cons, List.take_zero]
      repeat ((first | refine F.call ?_ | refine Gc.call ?_); simp (maxSteps := 2000000) only [↓avp, ↓avmD, avq, ↓reduceIte, Nat.reduceAdd, Nat.reduceMul, Nat.reduceSub, Nat.reduceLT, Nat.reduceLeDiff, Nat.reduceEqDiff, Nat.reducePow, Nat.reduceMod, hsl, len_of n un, len_of 1 u1, l2, idx_ref _ 1 _ _ d1, g0, g1, dl_nought, avmU, n1, n2])
      refine ACall.fzc (H0 := [_, _]) 2 rfl rfl (Nat.zero_le _) (by simp only [avmF]) ?_
      simp (maxSteps := 2000000) only [↓avp, ↓avmD, avq, ↓reduceIte, Nat.reduceAdd, Nat.reduceMul, Nat.reduceSub, Nat.reduceLT, Nat.reduceLeDiff, Nat.reduceEqDiff, Nat.reducePow, Nat.reduceMod, avmT, avmK, avmU, ne_eq, not_false_eq_true, List.length_cons, List.length_nil, List.take_succ_cons, List.take_zero]
      refine C.call ?_
      simp (maxSteps := 2000000) only [↓avp, ↓avmD, avq, ↓reduceIte, Nat.reduceAdd, Nat.reduceMul, Nat.reduceSub, Nat.reduceLT, Nat.reduceLeDiff, Nat.reduceEqDiff, Nat.reducePow, Nat.reduceMod, c1, avmU, n1, n2, List.take_succ_cons, List.take_zero]
      refine ret_now ?_
      simp (maxSteps := 2000000) only [↓avp, ↓avmD, avq, ↓reduceIte, Nat.reduceAdd, Nat.reduceMul, Nat.reduceSub, Nat.reduceLT, Nat.reduceLeDiff, Nat.reduceEqDiff, Nat.reducePow, Nat.reduceMod, List.take_succ_cons, List.take_zero, refQ]
    | true =>
      have e6 : (n = 0) = False := by simp; exact fun h => h4 ⟨hne, h⟩
      rw [hne] at F
      simp only [ir_ref1_Get, sX, mX, peel, lft, iv]
      simp (maxSteps := 2000000) only [↓avp, ↓avmD, avq, ↓reduceIte, Nat.reduceAdd, Nat.reduceMul, Nat.reduceSub, Nat.reduceLT, Nat.reduceLeDiff, Nat.reduceEqDiff, Nat.reducePow, Nat.reduceMod, hk2, htop]
      refine R1.call ?_
      simp (maxSteps := 2000000) only [↓avp, ↓avmD, avq, ↓reduceIte, Nat.reduceAdd, Nat.reduceMul, Nat.reduceSub, Nat.reduceLT, Nat.reduceLeDiff, Nat.reduceEqDiff, Nat.reducePow, Nat.reduceMod, cellsOf, putAt, fillP, List.replicate_one, List.set_cons_zero, List.length_cons, List.length_nil]
      refine ACall.fzc (H0 := [_]) 1 rfl rfl (Nat.zero_le _) (by simp only [avmF]) ?_
      simp (maxSteps := 2000000) only [↓avp, ↓avmD, avq, ↓reduceIte, Nat.reduceAdd, Nat.reduceMul, Nat.reduceSub, Nat.reduceLT, Nat.reduceLeDiff, Nat.reduceEqDiff, Nat.reducePow, Nat.reduceMod, avmT, avmK, avmU, ne_eq, not_false_eq_true, List.length_cons, List.length_nil, List.take_succ_cons, List.take_zero]
      repeat ((first | refine F.call ?_ | refine Gc.call ?_); simp (maxSteps := 2000000) only [↓avp, ↓avmD, avq, ↓reduceIte, Nat.reduceAdd, Nat.reduceMul, Nat.reduceSub, Nat.reduceLT, Nat.reduceLeDiff, Nat.reduceEqDiff, Nat.reducePow, Nat.reduceMod, hsl, len_of n un, len_of 1 u1, e6, l2, idx_ref _ 1 _ _ d1, g0, g1, dl_nought, avmU, n1, n2])
      refine ACall.fzc (H0 := [_, _]) 2 rfl rfl (Nat.zero_le _) (by simp only [avmF]) ?_
      simp (maxSteps := 2000000) only [↓avp, ↓avmD, avq, ↓reduceIte, Nat.reduceAdd, Nat.reduceMul, Nat.reduceSub, Nat.reduceLT, Nat.reduceLeDiff, Nat.reduceEqDiff, Nat.reducePow, Nat.reduceMod, avmT, avmK, avmU, ne_eq, not_false_eq_true, List.length_cons, List.length_nil, List.take_succ_cons, List.take_zero]
      refine C.call ?_
      simp (maxSteps := 2000000) only [↓avp, ↓avmD, avq, ↓reduceIte, Nat.reduceAdd, Nat.reduceMul, Nat.reduceSub, Nat.reduceLT, Nat.reduceLeDiff, Nat.reduceEqDiff, Nat.reducePow, Nat.reduceMod, c1, avmU, n1, n2, List.take_succ_cons, List.take_zero]
      refine ret_now ?_
      simp (maxSteps := 2000000) only [↓avp, ↓avmD, avq, ↓reduceIte, Nat.reduceAdd, Nat.reduceMul, Nat.reduceSub, Nat.reduceLT, Nat.reduceLeDiff, Nat.reduceEqDiff, Nat.reducePow, Nat.reduceMod, List.take_succ_cons, List.take_zero, refQ]

theorem ref_Get_t3 (s t : List UInt8) (neg : Bool) (k : Nat) (hs : s.length ≤ 1000000) (ht : t = bodyQ s) (hneg : neg = negQ s) (hk : k = slashQ t) (htl : t.length ≤ s.length) (h1 : okN (topQ t) = true) (hsl : k < t.length) (h2 : ¬ (okN (lowQ t) = true ∧ num (lowQ t) ≠ 0)) (g21 g22 g23 g24 g25 g26 g27 g28 g29 g30 : AV) : awp (ctx P G 0) (peel 5 ir_ref1_Get.body) (exRet (ctx P G 0) ir_ref1_Get.res fun (x : AV) (_ : List AObj) => x = rgetV s) ⟨[J,J,.own 0 0,J,.str t,.bool neg,.int .i64 k,J,J,J,J,J,J,J,J,J,J,J,J,J,J,g21,g22,g23,g24,g25,g26,g27,g28,g29,g30,J,J,J,J,J,J,J,J,J,J,J,J,J,J,J,J,J,J,J,J,J,J,J,J,J,J,J,J,J,J,J,J,J,J,J,J,J,J,J,J,J,J,J,J,J,J,J,J,J,J,J,J,J,J,J,J,J,J,J,J,J,J,J,J,J,J,J,J,J,J,J,J,J,J,J,J,J,J], [.arr t_ref1_Q 3 false [.bool false, .nils, .nils]]⟩ := by
  have n1 : (!true) = false := rfl
  have n2 : (!false) = true := rfl
  have hk2 : k ≤ t.length := by rw [hk]; exact slashQ_le t
  have htop : t.take k = topQ t := by rw [hk]; rfl
  have t1 := topQ_len' t
  have t2 := lowQ_len' t
  have R1 := ref_GetN_px (G := G) (topQ t) (by omega)
  rw [h1, if_pos rfl] at R1
  have o1 := okN_dl4 h1
  obtain ⟨n, hn⟩ : ∃ n, n = num (topQ t) := ⟨_, rfl⟩
  rw [← hn] at R1 o1
  have F := ref_Frac_px (G := G) neg n 1 (by omega)
  rw [refV_one] at F
  have hd1 : t.drop (k + 1) = lowQ t := by rw [lowQ, if_pos (by rw [← hk]; exact hsl), hk]
  have hd2 : (lowQ t).take (t.length - (k + 1)) = lowQ t := List.take_of_length_le (by rw [← hd1, List.length_drop]; exact Nat.le_refl _)
  have k3 : k + 1 ≤ t.length := hsl
  have w1 : IntKind.i64.wrap ((k + 1 : Nat) : Int) = ((k + 1 : Nat) : Int) := wi64 (by omega)
  have R2 := ref_GetN_px (G := G) (lowQ t) (by omega)
  have hno : getQ s = none := getQ_none (by rw [← ht]; exact fun h => h2 h.2)
  rw [rget_no hno, refV_one]
  have u0 : dl 10000 0 ≤ 9223372036854775807 := by rw [dl_zero]; decide
  have z0 : (0 < dl 10000 0) = False := by rw [dl_zero]; simp
  have R2' : PX P G n_ref1_GetN [.str (lowQ t)] (.tup [refV 0, .bool (okN (lowQ t))]) := by
    cases h : okN (lowQ t) with
    | false => rw [h, if_neg (by decide)] at R2; exact R2
    | true =>
      have : num (lowQ t) = 0 := by
        by_cases h3 : num (lowQ t) = 0
        · exact h3
        · exact absurd ⟨h, h3⟩ h2
      rw [h, if_pos rfl, this] at R2; exact R2
  clear R2
  have R2 := R2'
  cases ho : okN (lowQ t) with
  | false =>
    rw [ho] at R2
    simp only [ir_ref1_Get, sX, mX, peel, lft, iv]
    simp (maxSteps := 2000000) only [↓avp, ↓avmD, avq, ↓reduceIte, Nat.reduceAdd, Nat.reduceMul, Nat.reduceSub, Nat.reduceLT, Nat.reduceLeDiff, Nat.reduceEqDiff, Nat.reducePow, Nat.reduceMod, hk2, htop]
    refine R1.call ?_
    simp (maxSteps := 2000000) only [↓avp, ↓avmD, avq, ↓reduceIte, Nat.reduceAdd, Nat.reduceMul, Nat.reduceSub, Nat.reduceLT, Nat.reduceLeDiff, Nat.reduceEqDiff, Nat.reducePow, Nat.reduceMod, cellsOf, putAt, fillP, List.replicate_one, List.set_cons_zero, List.length_cons, List.length_nil]
    refine ACall.fzc (H0 := [_]) 1 rfl rfl (Nat.zero_le _) (by simp only [avmF]) ?_
    simp (maxSteps := 2000000) only [↓avp, ↓avmD, avq, ↓reduceIte, Nat.reduceAdd, Nat.reduceMul, Nat.reduceSub, Nat.reduceLT, Nat.reduceLeDiff, Nat.reduceEqDiff, Nat.reducePow, Nat.reduceMod, avmT, avmK, avmU, ne_eq, not_false_eq_true, List.length_cons, List.length_nil, List.take_succ_cons, List.take_zero]
    repeat ((first | refine F.call ?_ | refine R2.call ?_); simp (maxSteps := 2000000) only [↓avp, ↓avmD, avq, ↓reduceIte, Nat.reduceAdd, Nat.reduceMul, Nat.reduceSub, Nat.reduceLT, Nat.reduceLeDiff, Nat.reduceEqDiff, Nat.reducePow, Nat.reduceMod, hsl, avmU, w1, k3, hd1, hd2, len_of 0 u0, z0, n1, n2])
    refine ret_fz 2 (by rfl) (by simp only [avmF]) ?_
    simp (maxSteps := 2000000) only [↓avp, ↓avmD, avq, ↓reduceIte, Nat.reduceAdd, Nat.reduceMul, Nat.reduceSub, Nat.reduceLT, Nat.reduceLeDiff, Nat.reduceEqDiff, Nat.reducePow, Nat.reduceMod, avmT, avmU, ne_eq, not_false_eq_true, List.length_cons, List.length_nil, List.take_succ_cons, List.take_zero, List.replicate_one, List.set_cons_zero]
    refine ret_now ?_
    simp (maxSteps := 2000000) only [↓avp, ↓avmD, avq, ↓reduceIte, Nat.reduceAdd, Nat.reduceMul, Nat.reduceSub, Nat.reduceLT, Nat.reduceLeDiff, Nat.reduceEqDiff, Nat.reducePow, Nat.reduceMod, List.take_succ_cons, List.take_zero, refV_one]
  | true =>
    rw [ho] at R2
    simp only [ir_ref1_Get, sX, mX, peel, lft, iv]
    simp (maxSteps := 2000000) only [↓avp, ↓avmD, avq, ↓reduceIte, Nat.reduceAdd, Nat.reduceMul, Nat.reduceSub, Nat.reduceLT, Nat.reduceLeDiff, Nat.reduceEqDiff, Nat.reducePow, Nat.reduceMod, hk2, htop]
    refine R1.call ?_
    simp (maxSteps := 2000000) only [↓avp, ↓avmD, avq, ↓reduceIte, Nat.reduceAdd, Nat.reduceMul, Nat.reduceSub, Nat.reduceLT, Nat.reduceLeDiff, Nat.reduceEqDiff, Nat.reducePow, Nat.reduceMod, cellsOf, putAt, fillP, List.replicate_one, List.set_cons_zero, List.length_cons, List.length_nil]
    refine ACall.fzc (H0 := [_]) 1 rfl rfl (Nat.zero_le _) (by simp only [avmF]) ?_
    simp (maxSteps := 2000000) only [↓avp, ↓avmD, avq, ↓reduceIte, Nat.reduceAdd, Nat.reduceMul, Nat.reduceSub, Nat.reduceLT, Nat.reduceLeDiff, Nat.reduceEqDiff, Nat.reducePow, Nat.reduceMod, avmT, avmK, avmU, ne_eq, not_false_eq_true, List.length_cons, List.length_nil, List.take_succ_cons, List.take_zero]
    repeat ((first | refine F.call ?_ | refine R2.call ?_); simp (maxSteps := 2000000) only [↓avp, ↓avmD, avq, ↓reduceIte, Nat.reduceAdd, Nat.reduceMul, Nat.reduceSub, Nat.reduceLT, Nat.reduceLeDiff, Nat.reduceEqDiff, Nat.reducePow, Nat.reduceMod, hsl, avmU, w1, k3, hd1, hd2, len_of 0 u0, z0, n1, n2])
    refine ret_fz 2 (by rfl) (by simp only [avmF]) ?_
    simp (maxSteps := 2000000) only [↓avp, ↓avmD, avq, ↓reduceIte, Nat.reduceAdd, Nat.reduceMul, Nat.reduceSub, Nat.reduceLT, Nat.reduceLeDiff, Nat.reduceEqDiff, Nat.reducePow, Nat.reduceMod, avmT, avmU, ne_eq, not_false_eq_true, List.length_cons, List.length_nil, List.take_succ_cons, List.take_zero, List.replicate_one, List.set_cons_zero]
    refine ret_now ?_
    simp (maxSteps := 2000000) only [↓avp, ↓avmD, avq, ↓reduceIte, Nat.reduceAdd, Nat.reduceMul, Nat.reduceSub, Nat.reduceLT, Nat.reduceLeDiff, Nat.reduceEqDiff, Nat.reducePow, Nat.reduceMod, List.take_succ_cons, List.take_zero, refV_one]

theorem ref_Get_t4 (s t : List UInt8) (neg : Bool) (k : Nat) (hs : s.length ≤ 1000000) (ht : t = bodyQ s) (hneg : neg = negQ s) (hk : k = slashQ t) (htl : t.length ≤ s.length) (h1 : okN (topQ t) = true) (hsl : k < t.length) (h2 : okN (lowQ t) = true) (h3 : num (lowQ t) ≠ 0) (g21 g22 g23 g24 g25 g26 g27 g28 g29 g30 : AV) : awp (ctx P G 0) (peel 5 ir_ref1_Get.body) (exRet (ctx P G 0) ir_ref1_Get.res fun (x : AV) (_ : List AObj) => x = rgetV s) ⟨[J,J,.own 0 0,J,.str t,.bool neg,.int .i64 k,J,J,J,J,J,J,J,J,J,J,J,J,J,J,g21,g22,g23,g24,g25,g26,g27,g28,g29,g30,J,J,J,J,J,J,J,J,J,J,J,J,J,J,J,J,J,J,J,J,J,J,J,J,J,J,J,J,J,J,J,J,J,J,J,J,J,J,J,J,J,J,J,J,J,J,J,J,J,J,J,J,J,J,J,J,J,J,J,J,J,J,J,J,J,J,J,J,J,J,J,J,J,J,J,J,J,J], [.arr t_ref1_Q 3 false [.bool false, .nils, .nils]]⟩ := by
  have n1 : (!true) = false := rfl
  have n2 : (!false) = true := rfl
  have hk2 : k ≤ t.length := by rw [hk]; exact slashQ_le t
  have htop : t.take k = topQ t := by rw [hk]; rfl
  have t1 := topQ_len' t
  have t2 := lowQ_len' t
  have R1 := ref_GetN_px (G := G) (topQ t) (by omega)
  rw [h1, if_pos rfl] at R1
  have o1 := okN_dl4 h1
  obtain ⟨n, hn⟩ : ∃ n, n = num (topQ t) := ⟨_, rfl⟩
  rw [← hn] at R1 o1
  have F := ref_Frac_px (G := G) neg n 1 (by omega)
  rw [refV_one] at F
  have hd1 : t.drop (k + 1) = lowQ t := by rw [lowQ, if_pos (by rw [← hk]; exact hsl), hk]
  have hd2 : (lowQ t).take (t.length - (k + 1)) = lowQ t := List.take_of_length_le (by rw [← hd1, List.length_drop]; exact Nat.le_refl _)
  have k3 : k + 1 ≤ t.length := hsl
  have w1 : IntKind.i64.wrap ((k + 1 : Nat) : Int) = ((k + 1 : Nat) : Int) := wi64 (by omega)
  have R2 := ref_GetN_px (G := G) (lowQ t) (by omega)
  rw [h2, if_pos rfl] at R2
  have o2 := okN_dl4 h2
  obtain ⟨d, hd⟩ : ∃ d, d = num (lowQ t) := ⟨_, rfl⟩
  have hown := own_iff (s := s) (by rw [← ht]; exact h1) (by rw [← ht]; exact h2) (by rw [← ht]; exact h3)
  rw [← ht, ← hd, ← hn, ← hneg, ← hk] at hown
  rw [← hd] at R2 o2 h3
  have ud : dl 10000 d ≤ 9223372036854775807 := by omega
  have un : dl 10000 n ≤ 9223372036854775807 := by omega
  have d1 : dl 10000 1 = 1 := by rw [dl_one (by decide) (by decide)]; rfl
  have e3 : (d ≠ 0) = True := by simp [h3]
  have e3' : (d = 0) = False := by simp [h3]
  have Gc := ref_Gcd_px (G := G) n d (by omega) (by omega)
  have hgl : Nat.gcd n d ≤ d := Nat.le_of_dvd (Nat.pos_of_ne_zero h3) (Nat.gcd_dvd_right n d)
  have hg0 : 0 < Nat.gcd n d := Nat.gcd_pos_of_pos_right _ (Nat.pos_of_ne_zero h3)
  have hgd := Nat.le_trans (dl_mono (B := 10000) (by decide) hgl) o2
  have C := ref_Cmp_px (G := G) (Nat.gcd n d) 1 (by omega) (by omega)
  rw [refV_one] at C
  by_cases h4 : d = 1
  · have hno : getQ s = none := getQ_none2 (by rw [← ht, ← hd, ← hn, ← hneg, hown]; exact fun h => h.1 ⟨hsl, h4⟩)
    rw [rget_no hno, refV_one]
    have l1 : dl 10000 d = 1 := by rw [h4]; exact d1
    obtain ⟨g0, g1⟩ := dig_one l1
    have e4 : (d = 1) = True := by simp [h4]
    have l2 : (dl 10000 d = 1) = True := by simp [l1]
    simp only [ir_ref1_Get, sX, mX, peel, lft, iv]
    simp (maxSteps := 2000000) only [↓avp, ↓avmD, avq, ↓reduceIte, Nat.reduceAdd, Nat.reduceMul, Nat.reduceSub, Nat.reduceLT, Nat.reduceLeDiff, Nat.reduceEqDiff, Nat.reducePow, Nat.reduceMod, hk2, htop]
    refine R1.call ?_
    simp (maxSteps := 2000000) only [↓avp, ↓avmD, avq, ↓reduceIte, Nat.reduceAdd, Nat.reduceMul, Nat.reduceSub, Nat.reduceLT, Nat.reduceLeDiff, Nat.reduceEqDiff, Nat.reducePow, Nat.reduceMod, cellsOf, putAt, fillP, List.replicate_one, List.set_cons_zero, List.length_cons, List.length_nil]
    refine ACall.fzc (H0 := [_]) 1 rfl rfl (Nat.zero_le _) (by simp only [avmF]) ?_
    simp (maxSteps := 2000000) only [↓avp, ↓avmD, avq, ↓reduceIte, Nat.reduceAdd, Nat.reduceMul, Nat.reduceSub, Nat.reduceLT, Nat.reduceLeDiff, Nat.reduceEqDiff, Nat.reducePow, Nat.reduceMod, avmT, avmK, avmU, ne_eq, not_false_eq_true, List.length_cons, List.length_nil, List.take_succ_cons, List.take_zero]
    repeat ((first | refine F.call ?_ | refine R2.call ?_); simp (maxSteps := 2000000) only [↓avp, ↓avmD, avq, ↓reduceIte, Nat.reduceAdd, Nat.reduceMul, Nat.reduceSub, Nat.reduceLT, Nat.reduceLeDiff, Nat.reduceEqDiff, Nat.reducePow, Nat.reduceMod, hsl, avmU, w1, k3, hd1, hd2, len_of d ud, dl_pos_iff, e3, l2, idx_ref _ d _ _ l1, g0, g1, e4, n1, n2])
    refine ret_fz 2 (by rfl) (by simp only [avmF]) ?_
    simp (maxSteps := 2000000) only [↓avp, ↓avmD, avq, ↓reduceIte, Nat.reduceAdd, Nat.reduceMul, Nat.reduceSub, Nat.reduceLT, Nat.reduceLeDiff, Nat.reduceEqDiff, Nat.reducePow, Nat.reduceMod, avmT, avmU, ne_eq, not_false_eq_true, List.length_cons, List.length_nil, List.take_succ_cons, List.take_zero, List.replicate_one, List.set_cons_zero]
    refine ret_now ?_
    simp (maxSteps := 2000000) only [↓avp, ↓avmD, avq, ↓reduceIte, Nat.reduceAdd, Nat.reduceMul, Nat.reduceSub, Nat.reduceLT, Nat.reduceLeDiff, Nat.reduceEqDiff, Nat.reducePow, Nat.reduceMod, List.take_succ_cons, List.take_zero, refV_one]
  · have e4 : (d = 1) = False := by simp [h4]
    by_cases h5 : neg = true ∧ n = 0
    · obtain ⟨h6, h7⟩ := h5
      have hno : getQ s = none := getQ_none2 (by rw [← ht, ← hd, ← hn, ← hneg, hown]; exact fun h => h.2.1 ⟨h6, h7⟩)
      rw [rget_no hno, refV_one]
      have e7 : (n = 0) = True := by simp [h7]
      rw [h6] at F ⊢
      by_cases l1 : dl 10000 d = 1
      · obtain ⟨g0, g1⟩ := dig_one l1
        have l2 : (dl 10000 d = 1) = True := by simp [l1]
        simp only [ir_ref1_Get, sX, mX, peel, lft, iv]
        simp (maxSteps := 2000000) only [↓avp, ↓avmD, avq, ↓reduceIte, Nat.reduceAdd, Nat.reduceMul, Nat.reduceSub, Nat.reduceLT, Nat.reduceLeDiff, Nat.reduceEqDiff, Nat.reducePow, Nat.reduceMod, hk2, htop]
        refine R1.call ?_
        simp (maxSteps := 2000000) only [↓avp, ↓avmD, avq, ↓reduceIte, Nat.reduceAdd, Nat.reduceMul, Nat.reduceSub, Nat.reduceLT, Nat.reduceLeDiff, Nat.reduceEqDiff, Nat.reducePow, Nat.reduceMod, cellsOf, putAt, fillP, List.replicate_one, List.set_cons_zero, List.length_cons, List.length_nil]
        refine ACall.fzc (H0 := [_]) 1 rfl rfl (Nat.zero_le _) (by simp only [avmF]) ?_
        simp (maxSteps := 2000000) only [↓avp, ↓avmD, avq, ↓reduceIte, Nat.reduceAdd, Nat.reduceMul, Nat.reduceSub, Nat.reduceLT, Nat.reduceLeDiff, Nat.reduceEqDiff, Nat.reducePow, Nat.reduceMod, avmT, avmK, avmU, ne_eq, not_false_eq_true, List.length_cons, List.length_nil, List.take_succ_cons, List.take_zero]
        repeat ((first | refine F.call ?_ | refine R2.call ?_); simp (maxSteps := 2000000) only [↓avp, ↓avmD, avq, ↓reduceIte, Nat.reduceAdd, Nat.reduceMul, Nat.reduceSub, Nat.reduceLT, Nat.reduceLeDiff, Nat.reduceEqDiff, Nat.reducePow, Nat.reduceMod, hsl, avmU, w1, k3, hd1, hd2, len_of d ud, len_of n un, dl_pos_iff, dl_nought, e3, l2, idx_ref _ d _ _ l1, g0, g1, e4, e7, n1, n2])
        refine ret_fz 2 (by rfl) (by simp only [avmF]) ?_
        simp (maxSteps := 2000000) only [↓avp, ↓avmD, avq, ↓reduceIte, Nat.reduceAdd, Nat.reduceMul, Nat.reduceSub, Nat.reduceLT, Nat.reduceLeDiff, Nat.reduceEqDiff, Nat.reducePow, Nat.reduceMod, avmT, avmU, ne_eq, not_false_eq_true, List.length_cons, List.length_nil, List.take_succ_cons, List.take_zero, List.replicate_one, List.set_cons_zero]
        refine ret_now ?_
        simp (maxSteps := 2000000) only [↓avp, ↓avmD, avq, ↓reduceIte, Nat.reduceAdd, Nat.reduceMul, Nat.reduceSub, Nat.reduceLT, Nat.reduceLeDiff, Nat.reduceEqDiff, Nat.reducePow, Nat.reduceMod, List.take_succ_cons, List.take_zero, refV_one]
      · have l2 : (dl 10000 d = 1) = False := by simp [l1]
        simp only [ir_ref1_Get, sX, mX, peel, lft, iv]
        simp (maxSteps := 2000000) only [↓avp, ↓avmD, avq, ↓reduceIte, Nat.reduceAdd, Nat.reduceMul, Nat.reduceSub, Nat.reduceLT, Nat.reduceLeDiff, Nat.reduceEqDiff, Nat.reducePow, Nat.reduceMod, hk2, htop]
        refine R1.call ?_
        simp (maxSteps := 2000000) only [↓avp, ↓avmD, avq, ↓reduceIte, Nat.reduceAdd, Nat.reduceMul, Nat.reduceSub, Nat.reduceLT, Nat.reduceLeDiff, Nat.reduceEqDiff, Nat.reducePow, Nat.reduceMod, cellsOf, putAt, fillP, List.replicate_one, List.set_cons_zero, List.length_cons, List.length_nil]
        refine ACall.fzc (H0 := [_]) 1 rfl rfl (Nat.zero_le _) (by simp only [avmF]) ?_
        simp (maxSteps := 2000000) only [↓avp, ↓avmD, avq, ↓reduceIte, Nat.reduceAdd, Nat.reduceMul, Nat.reduceSub, Nat.reduceLT, Nat.reduceLeDiff, Nat.reduceEqDiff, Nat.reducePow, Nat.reduceMod, avmT, avmK, avmU, ne_eq, not_false_eq_true, List.length_cons, List.length_nil, List.take_succ_cons, List.take_zero]
        repeat ((first | refine F.call ?_ | refine R2.call ?_); simp (maxSteps := 2000000) only [↓avp, ↓avmD, avq, ↓reduceIte, Nat.reduceAdd, Nat.reduceMul, Nat.reduceSub, Nat.reduceLT, Nat.reduceLeDiff, Nat.reduceEqDiff, Nat.reducePow, Nat.reduceMod, hsl, avmU, w1, k3, hd1, hd2, len_of d ud, len_of n un, dl_pos_iff, dl_nought, e3, l2, e7, n1, n2])
        refine ret_fz 2 (by rfl) (by simp only [avmF]) ?_
        simp (maxSteps := 2000000) only [↓avp, ↓avmD, avq, ↓reduceIte, Nat.reduceAdd, Nat.reduceMul, Nat.reduceSub, Nat.reduceLT, Nat.reduceLeDiff, Nat.reduceEqDiff, Nat.reducePow, Nat.reduceMod, avmT, avmU, ne_eq, not_false_eq_true, List.length_cons, List.length_nil, List.take_succ_cons, List.take_zero, List.replicate_one, List.set_cons_zero]
        refine ret_now ?_
        simp (maxSteps := 2000000) only [↓avp, ↓avmD, avq, ↓reduceIte, Nat.reduceAdd, Nat.reduceMul, Nat.reduceSub, Nat.reduceLT, Nat.reduceLeDiff, Nat.reduceEqDiff, Nat.reducePow, Nat.reduceMod, List.take_succ_cons, List.take_zero, refV_one]
    · have hcase : ∀ (b : Bool), neg = b → (b = true → (n = 0) = False) := fun b hb h => by
        have : ¬ n = 0 := fun e => h5 ⟨hb.trans h, e⟩
        simp [this]
      by_cases h8 : Nat.gcd n d = 1
      · have hyes : getQ s = some (mkRat (sgn neg n) d) := by
          have hr := hown.2 ⟨fun h => h4 h.2, h5, h8⟩
          have := getQ_some (s := s) (by rw [← ht]; exact h1) (by rw [← ht]; exact h2) (by rw [← ht, ← hd]; exact h3) (by rw [← ht, ← hd, ← hn, ← hneg]; exact hr)
          rw [← ht, ← hd, ← hn, ← hneg] at this
          exact this
        have q1 := mk_neg neg n h3
        have q2 := mk_abs neg n h3
        have q3 := mk_den neg n h3
        rw [h8, Nat.div_one] at q2 q3
        have hv : rgetV s = .tup [refQ (neg && decide (n ≠ 0)) n d, .bool true] := by rw [rgetV, hyes]; simp only [q1, q2, q3]
        rw [hv]
        have c1 : (cmpI (Nat.gcd n d) 1 ≠ ((0 : Nat) : Int)) = False := by rw [h8]; simp [cmpI]
        by_cases hnef : neg = false
        · have e7 := hcase false hnef
          rw [hnef] at F ⊢
          by_cases l1 : dl 10000 d = 1
          · obtain ⟨g0, g1⟩ := dig_one l1
            have l2 : (dl 10000 d = 1) = True := by simp [l1]
            simp only [ir_ref1_Get, sX, mX, peel, lft, iv]
            simp (maxSteps := 2000000) only [↓avp, ↓avmD, avq, ↓reduceIte, Nat.reduceAdd, Nat.reduceMul, Nat.reduceSub, Nat.reduceLT, Nat.reduceLeDiff, Nat.reduceEqDiff, Nat.reducePow, Nat.reduceMod, hk2, htop]
            refine R1.call ?_
            simp (maxSteps := 2000000) only [↓avp, ↓avmD, avq, ↓reduceIte, Nat.reduceAdd, Nat.reduceMul, Nat.reduceSub, Nat.reduceLT, Nat.reduceLeDiff, Nat.reduceEqDiff, Nat.reducePow, Nat.reduceMod, cellsOf, putAt, fillP, List.replicate_one, List.set_cons_zero, List.length_cons, List.length_nil]
            refine ACall.fzc (H0 := [_]) 1 rfl rfl (Nat.zero_le _) (by simp only [avmF]) ?_
            simp (maxSteps := 2000000) only [↓avp, ↓avmD, avq, ↓reduceIte, Nat.reduceAdd, Nat.reduceMul, Nat.reduceSub, Nat.reduceLT, Nat.reduceLeDiff, Nat.reduceEqDiff, Nat.reducePow, Nat.reduceMod, avmT, avmK, avmU, ne_eq, not_false_eq_true, List.length_cons, List.length_nil, List.take_succ_cons, List.take_zero]
            repeat ((first | refine F.call ?_ | refine R2.call ?_ | refine Gc.call ?_); simp (maxSteps := 2000000) only [↓avp, ↓avmD, avq, ↓reduceIte, Nat.reduceAdd, Nat.reduceMul, Nat.reduceSub, Nat.reduceLT, Nat.reduceLeDiff, Nat.reduceEqDiff, Nat.reducePow, Nat.reduceMod, hsl, avmU, w1, k3, hd1, hd2, len_of d ud, len_of n un, dl_pos_iff, dl_nought, e3, l2, idx_ref _ d _ _ l1, g0, g1, e4, n1, n2])
            refine ACall.fzc (H0 := [_, _]) 2 rfl rfl (Nat.zero_le _) (by simp only [avmF]) ?_
            simp (maxSteps := 2000000) only [↓avp, ↓avmD, avq, ↓reduceIte, Nat.reduceAdd, Nat.reduceMul, Nat.reduceSub, Nat.reduceLT, Nat.reduceLeDiff, Nat.reduceEqDiff, Nat.reducePow, Nat.reduceMod, avmT, avmK, avmU, ne_eq, not_false_eq_true, List.length_cons, List.length_nil, List.take_succ_cons, List.take_zero]
            refine C.call ?_
            simp (maxSteps := 2000000) only [↓avp, ↓avmD, avq, ↓reduceIte, Nat.reduceAdd, Nat.reduceMul, Nat.reduceSub, Nat.reduceLT, Nat.reduceLeDiff, Nat.reduceEqDiff, Nat.reducePow, Nat.reduceMod, c1, avmU, n1, n2, List.take_succ_cons, List.take_zero]
            refine ret_now ?_
            simp (maxSteps := 2000000) only [↓avp, ↓avmD, avq, ↓reduceIte, Nat.reduceAdd, Nat.reduceMul, Nat.reduceSub, Nat.reduceLT, Nat.reduceLeDiff, Nat.reduceEqDiff, Nat.reducePow, Nat.reduceMod, List.take_succ_cons, List.take_zero, refQ]
          · have l2 : (dl 10000 d = 1) = False := by simp [l1]
            simp only [ir_ref1_Get, sX, mX, peel, lft, iv]
            simp (maxSteps := 2000000) only [↓avp, ↓avmD, avq, ↓reduceIte, Nat.reduceAdd, Nat.reduceMul, Nat.reduceSub, Nat.reduceLT, Nat.reduceLeDiff, Nat.reduceEqDiff, Nat.reducePow, Nat.reduceMod, hk2, htop]
            refine R1.call ?_
            simp (maxSteps := 2000000) only [↓avp, ↓avmD, avq, ↓reduceIte, Nat.reduceAdd, Nat.reduceMul, Nat.reduceSub, Nat.reduceLT, Nat.reduceLeDiff, Nat.reduceEqDiff, Nat.reducePow, Nat.reduceMod, cellsOf, putAt, fillP, List.replicate_one, List.set_cons_zero, List.length_cons, List.length_nil]
            refine ACall.fzc (H0 := [_]) 1 rfl rfl (Nat.zero_le _) (by simp only [avmF]) ?_
            simp (maxSteps := 2000000) only [↓avp, ↓avmD, avq, ↓reduceIte, Nat.reduceAdd, Nat.reduceMul, Nat.reduceSub, Nat.reduceLT, Nat.reduceLeDiff, Nat.reduceEqDiff, Nat.reducePow, Nat.reduceMod, avmT, avmK, avmU, ne_eq, not_false_eq_true, List.length_cons, List.length_nil, List.take_succ_cons, List.take_zero]
            repeat ((first | refine F.call ?_ | refine R2.call ?_ | refine Gc.call ?_); simp (maxSteps := 2000000) only [↓avp, ↓avmD, avq, ↓reduceIte, Nat.reduceAdd, Nat.reduceMul, Nat.reduceSub, Nat.reduceLT, Nat.reduceLeDiff, Nat.reduceEqDiff, Nat.reducePow, Nat.reduceMod, hsl, avmU, w1, k3, hd1, hd2, len_of d ud, len_of n un, dl_pos_iff, dl_nought, e3, l2, e4, n1, n2])
            refine ACall.fzc (H0 := [_, _]) 2 rfl rfl (Nat.zero_le _) (by simp only [avmF]) ?_
            simp (maxSteps := 2000000) only [↓avp, ↓avmD, avq, ↓reduceIte, Nat.reduceAdd, Nat.reduceMul, Nat.reduceSub, Nat.reduceLT, Nat.reduceLeDiff, Nat.reduceEqDiff, Nat.reducePow, Nat.reduceMod, avmT, avmK, avmU, ne_eq, not_false_eq_true, List.length_cons, List.length_nil, List.take_succ_cons, List.take_zero]
            refine C.call ?_
            simp (maxSteps := 2000000) only [↓avp, ↓avmD, avq, ↓reduceIte, Nat.reduceAdd, Nat.reduceMul, Nat.reduceSub, Nat.reduceLT, Nat.reduceLeDiff, Nat.reduceEqDiff, Nat.reducePow, Nat.reduceMod, c1, avmU, n1, n2, List.take_succ_cons, List.take_zero]
            refine ret_now ?_
            simp (maxSteps := 2000000) only [↓avp, ↓avmD, avq, ↓reduceIte, Nat.reduceAdd, Nat.reduceMul, Nat.reduceSub, Nat.reduceLT, Nat.reduceLeDiff, Nat.reduceEqDiff, Nat.reducePow, Nat.reduceMod, List.take_succ_cons, List.take_zero, refQ]
        by_cases hnet : neg = true
        · have e7 := hcase true hnet
          rw [hnet] at F ⊢
          have e7 := e7 rfl
          by_cases l1 : dl 10000 d = 1
          · obtain ⟨g0, g1⟩ := dig_one l1
            have l2 : (dl 10000 d = 1) = True := by simp [l1]
            simp only [ir_ref1_Get, sX, mX, peel, lft, iv]
            simp (maxSteps := 2000000) only [↓avp, ↓avmD, avq, ↓reduceIte, Nat.reduceAdd, Nat.reduceMul, Nat.reduceSub, Nat.reduceLT, Nat.reduceLeDiff, Nat.reduceEqDiff, Nat.reducePow, Nat.reduceMod, hk2, htop]
            refine R1.call ?_
            simp (maxSteps := 2000000) only [↓avp, ↓avmD, avq, ↓reduceIte, Nat.reduceAdd, Nat.reduceMul, Nat.reduceSub, Nat.reduceLT, Nat.reduceLeDiff, Nat.reduceEqDiff, Nat.reducePow, Nat.reduceMod, cellsOf, putAt, fillP, List.replicate_one, List.set_cons_zero, List.length_cons, List.length_nil]
            refine ACall.fzc (H0 := [_]) 1 rfl rfl (Nat.zero_le _) (by simp only [avmF]) ?_
            simp (maxSteps := 2000000) only [↓avp, ↓avmD, avq, ↓reduceIte, Nat.reduceAdd, Nat.reduceMul, Nat.reduceSub, Nat.reduceLT, Nat.reduceLeDiff, Nat.reduceEqDiff, Nat.reducePow, Nat.reduceMod, avmT, avmK, avmU, ne_eq, not_false_eq_true, List.length_cons, List.length_nil, List.take_succ_cons, List.take_zero]
            repeat ((first | refine F.call ?_ | refine R2.call ?_ | refine Gc.call ?_); simp (maxSteps := 2000000) only [↓avp, ↓avmD, avq, ↓reduceIte, Nat.reduceAdd, Nat.reduceMul, Nat.reduceSub, Nat.reduceLT, Nat.reduceLeDiff, Nat.reduceEqDiff, Nat.reducePow, Nat.reduceMod, hsl, avmU, w1, k3, hd1, hd2, len_of d ud, len_of n un, dl_pos_iff, dl_nought, e3, l2, idx_ref _ d _ _ l1, g0, g1, e4, e7, n1, n2])
            refine ACall.fzc (H0 := [_, _]) 2 rfl rfl (Nat.zero_le _) (by simp only [avmF]) ?_
            simp (maxSteps := 2000000) only [↓avp, ↓avmD, avq, ↓reduceIte, Nat.reduceAdd, Nat.reduceMul, Nat.reduceSub, Nat.reduceLT, Nat.reduceLeDiff, Nat.reduceEqDiff, Nat.reducePow, Nat.reduceMod, avmT, avmK, avmU, ne_eq, not_false_eq_true, List.length_cons, List.length_nil, List.take_succ_cons, List.take_zero]
            refine C.call ?_
            simp (maxSteps := 2000000) only [↓avp, ↓avmD, avq, ↓reduceIte, Nat.reduceAdd, Nat.reduceMul, Nat.reduceSub, Nat.reduceLT, Nat.reduceLeDiff, Nat.reduceEqDiff, Nat.reducePow, Nat.reduceMod, c1, avmU, n1, n2, List.take_succ_cons, List.take_zero]
            refine ret_now ?_
            simp (maxSteps := 2000000) only [↓avp, ↓avmD, avq, ↓reduceIte, Nat.reduceAdd, Nat.reduceMul, Nat.reduceSub, Nat.reduceLT, Nat.reduceLeDiff, Nat.reduceEqDiff, Nat.reducePow, Nat.reduceMod, List.take_succ_cons, List.take_zero, refQ]
          · have l2 : (dl 10000 d = 1) = False := by simp [l1]
            simp only [ir_ref1_Get, sX, mX, peel, lft, iv]
            simp (maxSteps := 2000000) only [↓avp, ↓avmD, avq, ↓reduceIte, Nat.reduceAdd, Nat.reduceMul, Nat.reduceSub, Nat.reduceLT, Nat.reduceLeDiff, Nat.reduceEqDiff, Nat.reducePow, Nat.reduceMod, hk2, htop]
            refine R1.call ?_
            simp (maxSteps := 2000000) only [↓avp, ↓avmD, avq, ↓reduceIte, Nat.reduceAdd, Nat.reduceMul, Nat.reduceSub, Nat.reduceLT, Nat.reduceLeDiff, Nat.reduceEqDiff, Nat.reducePow, Nat.reduceMod, cellsOf, putAt, fillP, List.replicate_one, List.set_cons_zero, List.length_cons, List.length_nil]
            refine ACall.fzc (H0 := [_]) 1 rfl rfl (Nat.zero_le _) (by simp only [avmF]) ?_
            simp (maxSteps := 2000000) only [↓avp, ↓avmD, avq, ↓reduceIte, Nat.reduceAdd, Nat.reduceMul, Nat.reduceSub, Nat.reduceLT, Nat.reduceLeDiff, Nat.reduceEqDiff, Nat.reducePow, Nat.reduceMod, avmT, avmK, avmU, ne_eq, not_false_eq_true, List.length_cons, List.length_nil, List.take_succ_cons, List.take_zero]
            repeat ((first | refine F.call ?_ | refine R2.call ?_ | refine Gc.call ?_); simp (maxSteps := 2000000) only [↓avp, ↓avmD, avq, ↓reduceIte, Nat.reduceAdd, Nat.reduceMul, Nat.reduceSub, Nat.reduceLT, Nat.reduceLeDiff, Nat.reduceEqDiff, Nat.reducePow, Nat.reduceMod, hsl, avmU, w1, k3, hd1, hd2, len_of d ud, len_of n un, dl_pos_iff, dl_nought, e3, l2, e4, e7, n1, n2])
            refine ACall.fzc (H0 := [_, _]) 2 rfl rfl (Nat.zero_le _) (by simp only [avmF]) ?_
            simp (maxSteps := 2000000) only [↓avp, ↓avmD, avq, ↓reduceIte, Nat.reduceAdd, Nat.reduceMul, Nat.reduceSub, Nat.reduceLT, Nat.reduceLeDiff, Nat.reduceEqDiff, Nat.reducePow, Nat.reduceMod, avmT, avmK, avmU, ne_eq, not_false_eq_true, List.length_cons, List.length_nil, List.take_succ_cons, List.take_zero]
            refine C.call ?_
            simp (maxSteps := 2000000) only [↓avp, ↓avmD, avq, ↓reduceIte, Nat.reduceAdd, Nat.reduceMul, Nat.reduceSub, Nat.reduceLT, Nat.reduceLeDiff, Nat.reduceEqDiff, Nat.reducePow, Nat.reduceMod, c1, avmU, n1, n2, List.take_succ_cons, List.take_zero]
            refine ret_now ?_
            simp (maxSteps := 2000000) only [↓avp, ↓avmD, avq, ↓reduceIte, Nat.reduceAdd, Nat.reduceMul, Nat.reduceSub, Nat.reduceLT, Nat.reduceLeDiff, Nat.reduceEqDiff, Nat.reducePow, Nat.reduceMod, List.take_succ_cons, List.take_zero, refQ]
        · exact absurd (by cases neg with | false => exact absurd rfl hnef | true => rfl) hnet
      · have hno : getQ s = none := getQ_none2 (by rw [← ht, ← hd, ← hn, ← hneg, hown]; exact fun h => h8 h.2.2)
        rw [rget_no hno, refV_one]
        have c1 : (cmpI (Nat.gcd n d) 1 ≠ ((0 : Nat) : Int)) = True := by
          unfold cmpI
          rw [if_neg (by omega), if_pos (by omega)]
          simp
        by_cases hnef : neg = false
        · have e7 := hcase false hnef
          rw [hnef] at F ⊢
          by_cases l1 : dl 10000 d = 1
          · obtain ⟨g0, g1⟩ := dig_one l1
            have l2 : (dl 10000 d = 1) = True := by simp [l1]
            simp only [ir_ref1_Get, sX, mX, peel, lft, iv]
            simp (maxSteps := 2000000) only [↓avp, ↓avmD, avq, ↓reduceIte, Nat.reduceAdd, Nat.reduceMul, Nat.reduceSub, Nat.reduceLT, Nat.reduceLeDiff, Nat.reduceEqDiff, Nat.reducePow, Nat.reduceMod, hk2, htop]
            refine R1.call ?_
            simp (maxSteps := 2000000) only [↓avp, ↓avmD, avq, ↓reduceIte, Nat.reduceAdd, Nat.reduceMul, Nat.reduceSub, Nat.reduceLT, Nat.reduceLeDiff, Nat.reduceEqDiff, Nat.reducePow, Nat.reduceMod, cellsOf, putAt, fillP, List.replicate_one, List.set_cons_zero, List.length_cons, List.length_nil]
            refine ACall.fzc (H0 := [_]) 1 rfl rfl (Nat.zero_le _) (by simp only [avmF]) ?_
            simp (maxSteps := 2000000) only [↓avp, ↓avmD, avq, ↓reduceIte, Nat.reduceAdd, Nat.reduceMul, Nat.reduceSub, Nat.reduceLT, Nat.reduceLeDiff, Nat.reduceEqDiff, Nat.reducePow, Nat.reduceMod, avmT, avmK, avmU, ne_eq, not_false_eq_true, List.length_cons, List.length_nil, List.take_succ_cons, List.take_zero]
            repeat ((first | refine F.call ?_ | refine R2.call ?_ | refine Gc.call ?_); simp (maxSteps := 2000000) only [↓avp, ↓avmD, avq, ↓reduceIte, Nat.reduceAdd, Nat.reduceMul, Nat.reduceSub, Nat.reduceLT, Nat.reduceLeDiff, Nat.reduceEqDiff, Nat.reducePow, Nat.reduceMod, hsl, avmU, w1, k3, hd1, hd2, len_of d ud, len_of n un, dl_pos_iff, dl_nought, e3, l2, idx_ref _ d _ _ l1, g0, g1, e4, n1, n2])
            refine ACall.fzc (H0 := [_, _]) 2 rfl rfl (Nat.zero_le _) (by simp only [avmF]) ?_
            simp (maxSteps := 2000000) only [↓avp, ↓avmD, avq, ↓reduceIte, Nat.reduceAdd, Nat.reduceMul, Nat.reduceSub, Nat.reduceLT, Nat.reduceLeDiff, Nat.reduceEqDiff, Nat.reducePow, Nat.reduceMod, avmT, avmK, avmU, ne_eq, not_false_eq_true, List.length_cons, List.length_nil, List.take_succ_cons, List.take_zero]
            refine C.call ?_
            simp (maxSteps := 2000000) only [↓avp, ↓avmD, avq, ↓reduceIte, Nat.reduceAdd, Nat.reduceMul, Nat.reduceSub, Nat.reduceLT, Nat.reduceLeDiff, Nat.reduceEqDiff, Nat.reducePow, Nat.reduceMod, c1, avmU, n1, n2]
            refine ret_fz 2 (by rfl) (by simp only [avmF]) ?_
            simp (maxSteps := 2000000) only [↓avp, ↓avmD, avq, ↓reduceIte, Nat.reduceAdd, Nat.reduceMul, Nat.reduceSub, Nat.reduceLT, Nat.reduceLeDiff, Nat.reduceEqDiff, Nat.reducePow, Nat.reduceMod, avmT, avmU, ne_eq, not_false_eq_true, List.length_cons, List.length_nil, List.take_succ_cons, List.take_zero, List.replicate_one, List.set_cons_zero]
            refine ret_now ?_
            simp (maxSteps := 2000000) only [↓avp, ↓avmD, avq, ↓reduceIte, Nat.reduceAdd, Nat.reduceMul, Nat.reduceSub, Nat.reduceLT, Nat.reduceLeDiff, Nat.reduceEqDiff, Nat.reducePow, Nat.reduceMod, List.take_succ_cons, List.take_zero, refV_one]
          · have l2 : (dl 10000 d = 1) = False := by simp [l1]
            simp only [ir_ref1_Get, sX, mX, peel, lft, iv]
            simp (maxSteps := 2000000) only [↓avp, ↓avmD, avq, ↓reduceIte, Nat.reduceAdd, Nat.reduceMul, Nat.reduceSub, Nat.reduceLT, Nat.reduceLeDiff, Nat.reduceEqDiff, Nat.reducePow, Nat.reduceMod, hk2, htop]
            refine R1.call ?_
            simp (maxSteps := 2000000) only [↓avp, ↓avmD, avq, ↓reduceIte, Nat.reduceAdd, Nat.reduceMul, Nat.reduceSub, Nat.reduceLT, Nat.reduceLeDiff, Nat.reduceEqDiff, Nat.reducePow, Nat.reduceMod, cellsOf, putAt, fillP, List.replicate_one, List.set_cons_zero, List.length_cons, List.length_nil]
            refine ACall.fzc (H0 := [_]) 1 rfl rfl (Nat.zero_le _) (by simp only [avmF]) ?_
            simp (maxSteps := 2000000) only [↓avp, ↓avmD, avq, ↓reduceIte, Nat.reduceAdd, Nat.reduceMul, Nat.reduceSub, Nat.reduceLT, Nat.reduceLeDiff, Nat.reduceEqDiff, Nat.reducePow, Nat.reduceMod, avmT, avmK, avmU, ne_eq, not_false_eq_true, List.length_cons, List.length_nil, List.take_succ_cons, List.take_zero]
            repeat ((first | refine F.call ?_ | refine R2.call ?_ | refine Gc.call ?_); simp (maxSteps := 2000000) only [↓avp, ↓avmD, avq, ↓reduceIte, Nat.reduceAdd, Nat.reduceMul, Nat.reduceSub, Nat.reduceLT, Nat.reduceLeDiff, Nat.reduceEqDiff, Nat.reducePow, Nat.reduceMod, hsl, avmU, w1, k3, hd1, hd2, len_of d ud, len_of n un, dl_pos_iff, dl_nought, e3, l2, e4, n1, n2])
            refine ACall.fzc (H0 := [_, _]) 2 rfl rfl (Nat.zero_le _) (by simp only [avmF]) ?_
            simp (maxSteps := 2000000) only [↓avp, ↓avmD, avq, ↓reduceIte, Nat.reduceAdd, Nat.reduceMul, Nat.reduceSub, Nat.reduceLT, Nat.reduceLeDiff, Nat.reduceEqDiff, Nat.reducePow, Nat.reduceMod, avmT, avmK, avmU, ne_eq, not_false_eq_true, List.length_cons, List.length_nil, List.take_succ_cons, List.take_zero]
            refine C.call ?_
            simp (maxSteps := 2000000) only [↓avp, ↓avmD, avq, ↓reduceIte, Nat.reduceAdd, Nat.reduceMul, Nat.reduceSub, Nat.reduceLT, Nat.reduceLeDiff, Nat.reduceEqDiff, Nat.reducePow, Nat.reduceMod, c1, avmU, n1, n2]
            refine ret_fz 2 (by rfl) (by simp only [avmF]) ?_
            simp (maxSteps := 2000000) only [↓avp, ↓avmD, avq, ↓reduceIte, Nat.reduceAdd, Nat.reduceMul, Nat.reduceSub, Nat.reduceLT, Nat.reduceLeDiff, Nat.reduceEqDiff, Nat.reducePow, Nat.reduceMod, avmT, avmU, ne_eq, not_false_eq_true, List.length_cons, List.length_nil, List.take_succ_cons, List.take_zero, List.replicate_one, List.set_cons_zero]
            refine ret_now ?_
            simp (maxSteps := 2000000) only [↓avp, ↓avmD, avq, ↓reduceIte, Nat.reduceAdd, Nat.reduceMul, Nat.reduceSub, Nat.reduceLT, Nat.reduceLeDiff, Nat.reduceEqDiff, Nat.reducePow, Nat.reduceMod, List.take_succ_cons, List.take_zero, refV_one]
        by_cases hnet : neg = true
        · have e7 := hcase true hnet
          rw [hnet] at F ⊢
          have e7 := e7 rfl
          by_cases l1 : dl 10000 d = 1
          · obtain ⟨g0, g1⟩ := dig_one l1
            have l2 : (dl 10000 d = 1) = True := by simp [l1]
            simp only [ir_ref1_Get, sX, mX, peel, lft, iv]
            simp (maxSteps := 2000000) only [↓avp, ↓avmD, avq, ↓reduceIte, Nat.reduceAdd, Nat.reduceMul, Nat.reduceSub, Nat.reduceLT, Nat.reduceLeDiff, Nat.reduceEqDiff, Nat.reducePow, Nat.reduceMod, hk2, htop]
            refine R1.call ?_
            simp (maxSteps := 2000000) only [↓avp, ↓avmD, avq, ↓reduceIte, Nat.reduceAdd, Nat.reduceMul, Nat.reduceSub, Nat.reduceLT, Nat.reduceLeDiff, Nat.reduceEqDiff, Nat.reducePow, Nat.reduceMod, cellsOf, putAt, fillP, List.replicate_one, List.set_cons_zero, List.length_cons, List.length_nil]
            refine ACall.fzc (H0 := [_]) 1 rfl rfl (Nat.zero_le _) (by simp only [avmF]) ?_
            simp (maxSteps := 2000000) only [↓avp, ↓avmD, avq, ↓reduceIte, Nat.reduceAdd, Nat.reduceMul, Nat.reduceSub, Nat.reduceLT, Nat.reduceLeDiff, Nat.reduceEqDiff, Nat.reducePow, Nat.reduceMod, avmT, avmK, avmU, ne_eq, not_false_eq_true, List.length_cons, List.length_nil, List.take_succ_cons, List.take_zero]
            repeat ((first | refine F.call ?_ | refine R2.call ?_ | refine Gc.call ?_); simp (maxSteps := 2000000) only [↓avp, ↓avmD, avq, ↓reduceIte, Nat.reduceAdd, Nat.reduceMul, Nat.reduceSub, Nat.reduceLT, Nat.reduceLeDiff, Nat.reduceEqDiff, Nat.reducePow, Nat.reduceMod, hsl, avmU, w1, k3, hd1, hd2, len_of d ud, len_of n un, dl_pos_iff, dl_nought, e3, l2, idx_ref _ d _ _ l1, g0, g1, e4, e7, n1, n2])
            refine ACall.fzc (H0 := [_, _]) 2 rfl rfl (Nat.zero_le _) (by simp only [avmF]) ?_
            simp (maxSteps := 2000000) only [↓avp, ↓avmD, avq, ↓reduceIte, Nat.reduceAdd, Nat.reduceMul, Nat.reduceSub, Nat.reduceLT, Nat.reduceLeDiff, Nat.reduceEqDiff, Nat.reducePow, Nat.reduceMod, avmT, avmK, avmU, ne_eq, not_false_eq_true, List.length_cons, List.length_nil, List.take_succ_cons, List.take_zero]
            refine C.call ?_
            simp (maxSteps := 2000000) only [↓avp, ↓avmD, avq, ↓reduceIte, Nat.reduceAdd, Nat.reduceMul, Nat.reduceSub, Nat.reduceLT, Nat.reduceLeDiff, Nat.reduceEqDiff, Nat.reducePow, Nat.reduceMod, c1, avmU, n1, n2]
            refine ret_fz 2 (by rfl) (by simp only [avmF]) ?_
            simp (maxSteps := 2000000) only [↓avp, ↓avmD, avq, ↓reduceIte, Nat.reduceAdd, Nat.reduceMul, Nat.reduceSub, Nat.reduceLT, Nat.reduceLeDiff, Nat.reduceEqDiff, Nat.reducePow, Nat.reduceMod, avmT, avmU, ne_eq, not_false_eq_true, List.length_cons, List.length_nil, List.take_succ_cons, List.take_zero, List.replicate_one, List.set_cons_zero]
            refine ret_now ?_
            simp (maxSteps := 2000000) only [↓avp, ↓avmD, avq, ↓reduceIte, Nat.reduceAdd, Nat.reduceMul, Nat.reduceSub, Nat.reduceLT, Nat.reduceLeDiff, Nat.reduceEqDiff, Nat.reducePow, Nat.reduceMod, List.take_succ_cons, List.take_zero, refV_one]
          · have l2 : (dl 10000 d = 1) = False := by simp [l1]
            simp only [ir_ref1_Get, sX, mX, peel, lft, iv]
            simp (maxSteps := 2000000) only [↓avp, ↓avmD, avq, ↓reduceIte, Nat.reduceAdd, Nat.reduceMul, Nat.reduceSub, Nat.reduceLT, Nat.reduceLeDiff, Nat.reduceEqDiff, Nat.reducePow, Nat.reduceMod, hk2, htop]
            refine R1.call ?_
            simp (maxSteps := 2000000) only [↓avp, ↓avmD, avq, ↓reduceIte, Nat.reduceAdd, Nat.reduceMul, Nat.reduceSub, Nat.reduceLT, Nat.reduceLeDiff, Nat.reduceEqDiff, Nat.reducePow, Nat.reduceMod, cellsOf, putAt, fillP, List.replicate_one, List.set_cons_zero, List.length_cons, List.length_nil]
            refine ACall.fzc (H0 := [_]) 1 rfl rfl (Nat.zero_le _) (by simp only [avmF]) ?_
            simp (maxSteps := 2000000) only [↓avp, ↓avmD, avq, ↓reduceIte, Nat.reduceAdd, Nat.reduceMul, Nat.reduceSub, Nat.reduceLT, Nat.reduceLeDiff, Nat.reduceEqDiff, Nat.reducePow, Nat.reduceMod, avmT, avmK, avmU, ne_eq, not_false_eq_true, List.length_cons, List.length_nil, List.take_succ_cons, List.take_zero]
            repeat ((first | refine F.call ?_ | refine R2.call ?_ | refine Gc.call ?_); simp (maxSteps := 2000000) only [↓avp, ↓avmD, avq, ↓reduceIte, Nat.reduceAdd, Nat.reduceMul, Nat.reduceSub, Nat.reduceLT, Nat.reduceLeDiff, Nat.reduceEqDiff, Nat.reducePow, Nat.reduceMod, hsl, avmU, w1, k3, hd1, hd2, len_of d ud, len_of n un, dl_pos_iff, dl_nought, e3, l2, e4, e7, n1, n2])
            refine ACall.fzc (H0 := [_, _]) 2 rfl rfl (Nat.zero_le _) (by simp only [avmF]) ?_
            simp (maxSteps := 2000000) only [↓avp, ↓avmD, avq, ↓reduceIte, Nat.reduceAdd, Nat.reduceMul, Nat.reduceSub, Nat.reduceLT, Nat.reduceLeDiff, Nat.reduceEqDiff, Nat.reducePow, Nat.reduceMod, avmT, avmK, avmU, ne_eq, not_false_eq_true, List.length_cons, List.length_nil, List.take_succ_cons, List.take_zero]
            refine C.call ?_
            simp (maxSteps := 2000000) only [↓avp, ↓avmD, avq, ↓reduceIte, Nat.reduceAdd, Nat.reduceMul, Nat.reduceSub, Nat.reduceLT, Nat.reduceLeDiff, Nat.reduceEqDiff, Nat.reducePow, Nat.reduceMod, c1, avmU, n1, n2]
            refine ret_fz 2 (by rfl) (by simp only [avmF]) ?_
            simp (maxSteps := 2000000) only [↓avp, ↓avmD, avq, ↓reduceIte, Nat.reduceAdd, Nat.reduceMul, Nat.reduceSub, Nat.reduceLT, Nat.reduceLeDiff, Nat.reduceEqDiff, Nat.reducePow, Nat.reduceMod, avmT, avmU, ne_eq, not_false_eq_true, List.length_cons, List.length_nil, List.take_succ_cons, List.take_zero, List.replicate_one, List.set_cons_zero]
            refine ret_now ?_
            simp (maxSteps := 2000000) only [↓avp, ↓avmD, avq, ↓reduceIte, Nat.reduceAdd, Nat.reduceMul, Nat.reduceSub, Nat.reduceLT, Nat.reduceLeDiff, Nat.reduceEqDiff, Nat.reducePow, Nat.reduceMod, List.take_succ_cons, List.take_zero, refV_one]
        · exact absurd (by cases neg with | false => exact absurd rfl hnef | true => rfl) hnet
theorem ref_Get_tail (s t : List UInt8) (neg : Bool) (k : Nat) (hs : s.length ≤ 1000000) (ht : t = bodyQ s) (hneg : neg = negQ s) (hk : k = slashQ t) (htl : t.length ≤ s.length) (g21 g22 g23 g24 g25 g26 g27 g28 g29 g30 : AV) : awp (ctx P G 0) (peel 5 ir_ref1_Get.body) (exRet (ctx P G 0) ir_ref1_Get.res fun (x : AV) (_ : List AObj) => x = rgetV s) ⟨[J,J,.own 0 0,J,.str t,.bool neg,.int .i64 k,J,J,J,J,J,J,J,J,J,J,J,J,J,J,g21,g22,g23,g24,g25,g26,g27,g28,g29,g30,J,J,J,J,J,J,J,J,J,J,J,J,J,J,J,J,J,J,J,J,J,J,J,J,J,J,J,J,J,J,J,J,J,J,J,J,J,J,J,J,J,J,J,J,J,J,J,J,J,J,J,J,J,J,J,J,J,J,J,J,J,J,J,J,J,J,J,J,J,J,J,J,J,J,J,J,J,J], [.arr t_ref1_Q 3 false [.bool false, .nils, .nils]]⟩ := by
  by_cases h1 : okN (topQ t) = true
  · by_cases hsl : k < t.length
    · by_cases h2 : okN (lowQ t) = true ∧ num (lowQ t) ≠ 0
      · exact ref_Get_t4 s t neg k hs ht hneg hk htl h1 hsl h2.1 h2.2 g21 g22 g23 g24 g25 g26 g27 g28 g29 g30
      · exact ref_Get_t3 s t neg k hs ht hneg hk htl h1 hsl h2 g21 g22 g23 g24 g25 g26 g27 g28 g29 g30
    · exact ref_Get_t2 s t neg k hs ht hneg hk htl h1 hsl g21 g22 g23 g24 g25 g26 g27 g28 g29 g30
  · exact ref_Get_t1 s t neg k hs ht hneg hk htl (by simpa using h1) g21 g22 g23 g24 g25 g26 g27 g28 g29 g30
theorem slash_before {t : List UInt8} {i : Nat} (h : i < slashQ t) (hi : i < t.length) : (t.getD i 0).toNat ≠ 47 := by
  intro e
  have h1 := List.not_of_lt_findIdx (xs := t) (p := (· == 47)) h
  have : t.getD i 0 = 47 := UInt8.toNat_inj.1 e
  rw [List.getD_eq_getElem?_getD, List.getElem?_eq_getElem hi, Option.getD_some] at this
  have h2 : (t[i]'hi == (47 : UInt8)) = true := beq_iff_eq.2 this
  rw [h1] at h2
  cases h2
theorem slash_at {t : List UInt8} (h : slashQ t < t.length) : (t.getD (slashQ t) 0).toNat = 47 := by
  have h9 : (t[List.findIdx (· == 47) t]'h == (47 : UInt8)) = true := List.findIdx_getElem (xs := t) (p := (· == 47)) (w := h)
  have h8 := beq_iff_eq.1 h9
  rw [List.getD_eq_getElem?_getD, List.getElem?_eq_getElem h, Option.getD_some]
  show (t[List.findIdx (· == 47) t]'h).toNat = 47
  rw [h8]; rfl
theorem ref_Get_loop (s t : List UInt8) (neg : Bool) (hs : s.length ≤ 1000000) (ht : t = bodyQ s) (hneg : neg = negQ s) (htl : t.length ≤ s.length) (f : List AV) (hf : keepF [2, 4, 5, 6] 0 f = [J,J,.own 0 0,J,.str t,.bool neg,.int .i64 ((0 : Nat) : Int),J,J,J,J,J,J,J,J,J,J,J,J,J,J,J,J,J,J,J,J,J,J,J,J,J,J,J,J,J,J,J,J,J,J,J,J,J,J,J,J,J,J,J,J,J,J,J,J,J,J,J,J,J,J,J,J,J,J,J,J,J,J,J,J,J,J,J,J,J,J,J,J,J,J,J,J,J,J,J,J,J,J,J,J,J,J,J,J,J,J,J,J,J,J,J,J,J,J,J,J,J,J]) :
    awp (ctx P G 0) (peel 4 ir_ref1_Get.body) (exRet (ctx P G 0) ir_ref1_Get.res fun (x : AV) (_ : List AObj) => x = rgetV s) ⟨f, [.arr t_ref1_Q 3 false [.bool false, .nils, .nils]]⟩ := by
  have hTl := fun g => ref_Get_tail (G := G) s t neg (slashQ t) hs ht hneg rfl htl g
  simp only [ir_ref1_Get, sX, mX, peel, lft, iv] at hTl ⊢
  simp (maxSteps := 2000000) only [↓avp, ↓avmD, avq, ↓reduceIte, Nat.reduceAdd, Nat.reduceMul, Nat.reduceSub, Nat.reduceLT, Nat.reduceLeDiff, Nat.reduceEqDiff, Nat.reducePow, Nat.reduceMod]
  generalize hT : exBlock 0 (exSeq _ _) = T
  have hTail : ∀ g21 g22 g23 g24 g25 g26 g27 g28 g29 g30 : AV, T (.exit 0) ⟨[J,J,.own 0 0,J,.str t,.bool neg,.int .i64 ((slashQ t : Nat) : Int),J,J,J,J,J,J,J,J,J,J,J,J,J,J,g21,g22,g23,g24,g25,g26,g27,g28,g29,g30,J,J,J,J,J,J,J,J,J,J,J,J,J,J,J,J,J,J,J,J,J,J,J,J,J,J,J,J,J,J,J,J,J,J,J,J,J,J,J,J,J,J,J,J,J,J,J,J,J,J,J,J,J,J,J,J,J,J,J,J,J,J,J,J,J,J,J,J,J,J,J,J,J,J,J,J,J,J], [.arr t_ref1_Q 3 false [.bool false, .nils, .nils]]⟩ := by
    intro g21 g22 g23 g24 g25 g26 g27 g28 g29 g30
    subst hT
    exact hTl g21 g22 g23 g24 g25 g26 g27 g28 g29 g30
  have hle := slashQ_le t
  refine loop_of (fun i : Nat => ⟨[J,J,.own 0 0,J,.str t,.bool neg,.int .i64 i,J,J,J,J,J,J,J,J,J,J,J,J,J,J,J,J,J,J,J,J,J,J,J,J,J,J,J,J,J,J,J,J,J,J,J,J,J,J,J,J,J,J,J,J,J,J,J,J,J,J,J,J,J,J,J,J,J,J,J,J,J,J,J,J,J,J,J,J,J,J,J,J,J,J,J,J,J,J,J,J,J,J,J,J,J,J,J,J,J,J,J,J,J,J,J,J,J,J,J,J,J,J], [.arr t_ref1_Q 3 false [.bool false, .nils, .nils]]⟩) (fun i => i ≤ slashQ t) (fun i => slashQ t - i) 0 [2, 4, 5, 6] (by show (⟨keepF [2, 4, 5, 6] 0 f, _⟩ : St) = _; rw [hf]) (Nat.zero_le _) ?_
  intro i hi
  by_cases h0 : i < t.length
  · obtain ⟨c, hc⟩ : ∃ c, c = (t.getD i 0).toNat := ⟨_, rfl⟩
    by_cases h1 : i < slashQ t
    · have hne := slash_before h1 h0
      rw [← hc] at hne
      have e1 : (c ≠ 47) = True := by simp [hne]
      have w1 : IntKind.i64.wrap ((i + 1 : Nat) : Int) = ((i + 1 : Nat) : Int) := wi64 (by omega)
      simp (maxSteps := 2000000) only [↓avp, ↓avmD, avq, ↓reduceIte, Nat.reduceAdd, Nat.reduceMul, Nat.reduceSub, Nat.reduceLT, Nat.reduceLeDiff, Nat.reduceEqDiff, Nat.reducePow, Nat.reduceMod, h0, ← hc, e1, w1]
      exact LN.next (i + 1) [2, 4, 5, 6] h1 (by omega) rfl
    · have e : i = slashQ t := by omega
      have heq := slash_at (t := t) (by omega)
      rw [← e, ← hc] at heq
      have e1 : (c ≠ 47) = False := by simp [heq]
      simp (maxSteps := 2000000) only [↓avp, ↓avmD, avq, ↓reduceIte, Nat.reduceAdd, Nat.reduceMul, Nat.reduceSub, Nat.reduceLT, Nat.reduceLeDiff, Nat.reduceEqDiff, Nat.reducePow, Nat.reduceMod, h0, ← hc, e1]
      rw [e]
      exact hTail ..
  · have e : i = slashQ t := by omega
    simp (maxSteps := 2000000) only [↓avp, ↓avmD, avq, ↓reduceIte, Nat.reduceAdd, Nat.reduceMul, Nat.reduceSub, Nat.reduceLT, Nat.reduceLeDiff, Nat.reduceEqDiff, Nat.reducePow, Nat.reduceMod, h0]
    rw [e]
    exact hTail ..
theorem ref_Get_px (s : List UInt8) (hs : s.length ≤ 1000000) : PX P G n_ref1_Get [.str s] (rgetV s) := by
  refine PX_of_awp low_ref1_Get fol (by simp only [avmF, and_true]) (by rw [rgetV_frz]; trivial) ?_
  have n1 : (!true) = false := rfl
  have n2 : (!false) = true := rfl
  have key := fun t neg ht hneg htl => ref_Get_loop (G := G) s t neg hs ht hneg htl
  cases s with
  | nil =>
    have e1 : (([] : List UInt8) == []) = true := rfl
    simp only [ir_ref1_Get, sX, mX, initF, List.replicate, Nat.reduceAdd, Nat.reduceSub, iv, avmL]
    simp (maxSteps := 2000000) only [↓avp, ↓avmD, avq, ↓reduceIte, Nat.reduceAdd, Nat.reduceMul, Nat.reduceSub, Nat.reduceLT, Nat.reduceLeDiff, Nat.reduceEqDiff, Nat.reducePow, Nat.reduceMod, e1, n1, n2]
    exact key [] false rfl rfl (Nat.le_refl _) _ rfl
  | cons c r =>
    have e1 : ((c :: r) == ([] : List UInt8)) = false := rfl
    have l0 : 0 < r.length + 1 := by omega
    by_cases h : c = 45
    · have hb : bodyQ (c :: r) = r := by simp [bodyQ, negQ, h]
      have hn : negQ (c :: r) = true := by simp [negQ, h]
      have e2 : (((c :: r).getD 0 0).toNat = 45) = True := by rw [h]; simp
      have l1 : 1 ≤ r.length + 1 := by omega
      have l2 : r.take (r.length + 1 - 1) = r := List.take_of_length_le (by omega)
      have l3 : r.length + 1 - 1 = r.length := by omega
      have l4 : r.take r.length = r := List.take_length
      simp only [ir_ref1_Get, sX, mX, initF, List.replicate, Nat.reduceAdd, Nat.reduceSub, iv, avmL]
      simp (maxSteps := 2000000) only [↓avp, ↓avmD, avq, ↓reduceIte, Nat.reduceAdd, Nat.reduceMul, Nat.reduceSub, Nat.reduceLT, Nat.reduceLeDiff, Nat.reduceEqDiff, Nat.reducePow, Nat.reduceMod, e1, n1, n2, e2, l0, l1, l3, l4, List.length_cons, List.drop_succ_cons]
      exact key r true hb.symm hn.symm (by simp) _ rfl
    · have hn : negQ (c :: r) = false := by simp [negQ, h]
      have hb : bodyQ (c :: r) = c :: r := by rw [bodyQ, hn, if_neg (by decide)]
      have e2 : (((c :: r).getD 0 0).toNat = 45) = False := by
        simp only [List.getD_cons_zero, eq_iff_iff, iff_false]
        exact fun e => h (UInt8.toNat_inj.1 e)
      simp only [ir_ref1_Get, sX, mX, initF, List.replicate, Nat.reduceAdd, Nat.reduceSub, iv, avmL]
      simp (maxSteps := 2000000) only [↓avp, ↓avmD, avq, ↓reduceIte, Nat.reduceAdd, Nat.reduceMul, Nat.reduceSub, Nat.reduceLT, Nat.reduceLeDiff, Nat.reduceEqDiff, Nat.reducePow, Nat.reduceMod, e1, n1, n2, e2, l0, List.length_cons]
      exact key (c :: r) false hb.symm hn.symm (Nat.le_refl _) _ rfl
end Va
/- The reference's whole fractions; what is known of a text that is a fraction's own. -/
set_option linter.unusedSimpArgs false
set_option linter.unusedVariables false
set_option maxRecDepth 100000
set_option exponentiation.threshold 3000
set_option maxHeartbeats 8000000
open Go Go.Avm
namespace Va
attribute [local irreducible] ACallF FCallF
variable {G : Glob}
theorem getQ_facts {s : List UInt8} {q : Rat} (h : getQ s = some q) : ratTxt q = s ∧ qb 2000 q ∧ dl 10000 q.num.natAbs ≤ 2000 ∧ dl 10000 q.den ≤ 2000 := by
  unfold getQ at h
  by_cases h1 : okN (topQ (bodyQ s)) = true ∧ okN (lowQ (bodyQ s)) = true ∧ num (lowQ (bodyQ s)) ≠ 0
  · rw [if_pos h1] at h
    by_cases h2 : ratTxt (mkRat (sgn (negQ s) (num (topQ (bodyQ s)))) (num (lowQ (bodyQ s)))) = s
    · rw [if_pos h2] at h
      injection h with h
      rw [← h]
      obtain ⟨a1, a2, a3⟩ := h1
      have b1 := okN_dg a1
      have b2 := okN_dg a2
      have c1 : num (topQ (bodyQ s)) < 10 ^ 2000 := Nat.lt_of_lt_of_le (num_lt b1.1) (Nat.pow_le_pow_right (by decide) b1.2.2.1)
      have c2 : num (lowQ (bodyQ s)) < 10 ^ 2000 := Nat.lt_of_lt_of_le (num_lt b2.1) (Nat.pow_le_pow_right (by decide) b2.2.2.1)
      refine ⟨h2, qb_mk a3 (dl_small c1) (dl_small c2), ?_, ?_⟩
      · rw [mk_abs _ _ a3]; exact Nat.le_trans (dl_mono (by decide) (Nat.div_le_self _ _)) (dlr c1)
      · rw [mk_den _ _ a3]; exact Nat.le_trans (dl_mono (by decide) (Nat.div_le_self _ _)) (dlr c2)
    · rw [if_neg h2] at h; cases h
  · rw [if_neg h1] at h; cases h
theorem qv_self (q : Rat) : qv (decide (q.num < 0)) q.num.natAbs q.den = q := mk_self q
theorem qv_int (x : Int) : qv (decide (x < 0)) x.natAbs 1 = (x : Rat) := qv_self (x : Rat)
theorem ref_Of_px (x : Int) (hx : -9223372036854775808 ≤ x ∧ x ≤ 9223372036854775807) : PX P G n_ref1_Of [.int .i64 x] (refQ (decide (x < 0)) x.natAbs 1) := by
  refine PX_of_awp low_ref1_Of fol (by simp only [avmF, and_true]) (by simp only [avmU]) ?_
  have O := ref_OfU_px (G := G) x.natAbs (by omega)
  by_cases h : x < 0
  · have h0 : (x < ((0 : Nat) : Int)) = True := by simp; exact h
    have w1 : IntKind.i64.wrap (x + ((1 : Nat) : Int)) = x + 1 := wi64_in (by omega) (by omega)
    have w2 : IntKind.i64.wrap (-(x + 1)) = ((x.natAbs - 1 : Nat) : Int) := by rw [wi64_in (by omega) (by omega)]; omega
    have m1 : (x.natAbs - 1) % 18446744073709551616 = x.natAbs - 1 := m64 (by omega)
    have m2 : (x.natAbs - 1 + 1) % 18446744073709551616 = x.natAbs := by omega
    rw [decide_eq_true h]
    simp only [ir_ref1_Of, sX, mX, initF, List.replicate, Nat.reduceAdd, Nat.reduceSub, iv, avmL]
    simp (maxSteps := 2000000) only [↓avp, ↓avmD, avq, ↓reduceIte, Nat.reduceAdd, Nat.reduceMul, Nat.reduceSub, Nat.reduceLT, Nat.reduceLeDiff, Nat.reduceEqDiff, Nat.reducePow, Nat.reduceMod, h0, w1, w2, m1, m2]
    refine O.call ?_
    simp (maxSteps := 2000000) only [↓avp, ↓avmD, avq, ↓reduceIte, Nat.reduceAdd, Nat.reduceMul, Nat.reduceSub, Nat.reduceLT, Nat.reduceLeDiff, Nat.reduceEqDiff, Nat.reducePow, Nat.reduceMod, avmU, List.length_cons, List.length_nil]
    refine ret_fz 1 (by rfl) (by simp only [avmF]) ?_
    simp (maxSteps := 2000000) only [↓avp, ↓avmD, avq, ↓reduceIte, Nat.reduceAdd, Nat.reduceMul, Nat.reduceSub, Nat.reduceLT, Nat.reduceLeDiff, Nat.reduceEqDiff, Nat.reducePow, Nat.reduceMod, avmT, avmU, ne_eq, not_false_eq_true, List.length_cons, List.length_nil, List.take_succ_cons, List.take_zero, List.replicate_one, List.set_cons_zero]
    refine ret_now ?_
    simp (maxSteps := 2000000) only [↓avp, ↓avmD, avq, ↓reduceIte, Nat.reduceAdd, Nat.reduceMul, Nat.reduceSub, Nat.reduceLT, Nat.reduceLeDiff, Nat.reduceEqDiff, Nat.reducePow, Nat.reduceMod, List.take_succ_cons, List.take_zero, refQ, refV_one]
  · have h0 : (x < ((0 : Nat) : Int)) = False := by simp; omega
    obtain ⟨n, rfl⟩ : ∃ n : Nat, x = (n : Int) := ⟨x.toNat, by omega⟩
    rw [Int.natAbs_natCast] at O ⊢
    have h0' : ((n : Nat) < 0) = False := by simp
    have m1 : n % 18446744073709551616 = n := m64 (by omega)
    rw [decide_eq_false h]
    simp only [ir_ref1_Of, sX, mX, initF, List.replicate, Nat.reduceAdd, Nat.reduceSub, iv, avmL]
    simp (maxSteps := 2000000) only [↓avp, ↓avmD, avq, ↓reduceIte, Nat.reduceAdd, Nat.reduceMul, Nat.reduceSub, Nat.reduceLT, Nat.reduceLeDiff, Nat.reduceEqDiff, Nat.reducePow, Nat.reduceMod, h0', m1]
    refine O.call ?_
    simp (maxSteps := 2000000) only [↓avp, ↓avmD, avq, ↓reduceIte, Nat.reduceAdd, Nat.reduceMul, Nat.reduceSub, Nat.reduceLT, Nat.reduceLeDiff, Nat.reduceEqDiff, Nat.reducePow, Nat.reduceMod, avmU, List.length_cons, List.length_nil]
    refine ret_fz 1 (by rfl) (by simp only [avmF]) ?_
    simp (maxSteps := 2000000) only [↓avp, ↓avmD, avq, ↓reduceIte, Nat.reduceAdd, Nat.reduceMul, Nat.reduceSub, Nat.reduceLT, Nat.reduceLeDiff, Nat.reduceEqDiff, Nat.reducePow, Nat.reduceMod, avmT, avmU, ne_eq, not_false_eq_true, List.length_cons, List.length_nil, List.take_succ_cons, List.take_zero, List.replicate_one, List.set_cons_zero]
    refine ret_now ?_
    simp (maxSteps := 2000000) only [↓avp, ↓avmD, avq, ↓reduceIte, Nat.reduceAdd, Nat.reduceMul, Nat.reduceSub, Nat.reduceLT, Nat.reduceLeDiff, Nat.reduceEqDiff, Nat.reducePow, Nat.reduceMod, List.take_succ_cons, List.take_zero, refQ, refV_one]
end Va
