/- The reference's shifts. -/
import Derived.Test.YtflfgjhdofphnaaGreatDoorRB
set_option linter.unusedSimpArgs false
set_option linter.unusedVariables false
set_option maxRecDepth 100000
set_option maxHeartbeats 4000000
open Go Go.Avm
namespace Va
variable {G : Glob}
/-- How far a shift goes. -/
def clampI (n : Int) : Int := if (if ((100 : Nat) : Int) < n then ((100 : Nat) : Int) else n) > -100 then (if ((100 : Nat) : Int) < n then ((100 : Nat) : Int) else n) else -100
theorem clampI_le (n : Int) : clampI n ≤ 100 := by unfold clampI; split <;> split <;> omega
theorem clampI_ge (n : Int) : -100 ≤ clampI n := by unfold clampI; split <;> split <;> omega
/-- A bit of a shifted word. -/
def mvb (x : Nat) (n : Int) (fill : Bool) (j : Nat) : Bool := if 0 ≤ (j : Int) - clampI n then (if (j : Int) - clampI n < 64 then x.testBit ((j : Int) - clampI n).toNat else fill) else false
theorem rep_false (n j : Nat) : (List.replicate n false).getD j false = false := by
  rw [List.getD_eq_getElem?_getD, List.getElem?_replicate]; split <;> rfl
theorem ref_Move_px (x : Nat) (n : Int) (fill : Bool) (hx : x < 18446744073709551616) : PX P G n_ref1_Move [.int .u64 x, .int .i64 n, .bool fill] (.int .u64 ((wordv (bitsF (mvb x n fill)) : Nat) : Int)) := by
  refine PX_of_awp low_ref1_Move fol (by simp only [avmF, and_true]) (by simp only [avmF]) ?_
  have hB := ref_Bits_px (G := G) x hx
  have hp : ∀ m, m.length = 64 → putAt (bl (List.replicate 64 false)) 0 (bl m) = bl m := fun m hm => putAt_bl (by simp [hm])
  have hbx := bitsF_length x.testBit
  simp only [ir_ref1_Move, initF, List.replicate, Nat.reduceAdd, Nat.reduceSub, iv, avmL]
  simp (maxSteps := 2000000) only [↓avm8, ↓avmW, avmD, avmL, avmO, avmR, avmN, avmM, wi64, csub, row_getD, row_reps, ↓reduceIte, decide_true, decide_false, true_imp_iff, Nat.reduceAdd, Nat.reduceMul, Nat.reduceSub, Nat.reduceLT, Nat.reduceLeDiff, Nat.reduceEqDiff, Nat.reducePow, Nat.min_eq_left, Nat.reduceMod, List.drop_zero]
  refine hB.call ?_
  have e64 : ∀ l : List AV, l = bl (List.replicate 64 false) → l.length = 64 := fun l h => by rw [h]; simp [bl]
  simp (maxSteps := 2000000) only [↓avm8, ↓avmW, avmD, avmL, avmO, avmR, avmN, avmM, wi64, csub, row_getD, row_reps, ↓reduceIte, decide_true, decide_false, true_imp_iff, Nat.reduceAdd, Nat.reduceMul, Nat.reduceSub, Nat.reduceLT, Nat.reduceLeDiff, Nat.reduceEqDiff, Nat.reducePow, Nat.min_eq_left, Nat.reduceMod, List.drop_zero, avmB, hbx]
  refine loop_of (fun q : Nat × List Bool => ⟨(.junk :: .int .i64 n :: .bool fill :: .junk :: .junk :: .junk :: .junk :: .own 0 0 :: .own 1 0 :: .int .i64 q.1 :: .junk :: .junk :: .junk :: .junk :: .junk :: .junk :: .junk :: .junk :: .junk :: .junk :: .junk :: .junk :: .junk :: .junk :: .junk :: .junk :: .junk :: .junk :: .junk :: .junk :: .junk :: .junk :: .junk :: .junk :: .junk :: .junk :: .junk :: .junk :: .junk :: .junk :: .junk :: .junk :: []), [.arr t_64_bool 64 false (putAt (bl (List.replicate 64 false)) 0 (bl (bitsF x.testBit))), .arr t_64_bool 64 false (bl q.2)]⟩)
    (fun q => q.1 ≤ 64 ∧ q.2.length = 64 ∧ (∀ j, j < q.1 → q.2.getD j false = mvb x n fill j) ∧ ∀ j, q.1 ≤ j → q.2.getD j false = false) (fun q => 64 - q.1) (0, List.replicate 64 false) [1, 2, 7, 8, 9] rfl ⟨by decide, by simp, fun j hj => by simp only at hj; omega, fun j _ => rep_false 64 j⟩ ?_
  rintro ⟨i, l⟩ ⟨hi, hl, hb, hz⟩
  simp only at hi hl hb hz
  have hp1 := hp _ hbx
  have c1 := clampI_le n
  have c2 := clampI_ge n
  by_cases h0 : i < 64
  · have w1 : IntKind.i64.wrap ((i : Int) + ((1 : Nat) : Int)) = ((i + 1 : Nat) : Int) := wi64 (n := i + 1) (by omega)
    have w1' : IntKind.i64.wrap ((i + 1 : Nat) : Int) = ((i + 1 : Nat) : Int) := wi64 (by omega)
    have q1 : i + 1 ≤ 64 := by omega
    have i63 : i ≤ 63 := by omega
    have hil : i < l.length := by omega
    have nx : ∀ b : Bool, b = mvb x n fill i → (l.set i b).length = 64 ∧ (∀ j, j < i + 1 → (l.set i b).getD j false = mvb x n fill j) ∧ ∀ j, i + 1 ≤ j → (l.set i b).getD j false = false := by
      intro b e
      refine ⟨by simp only [List.length_set]; exact hl, fun j hj => ?_, fun j hj => by rw [bgetD_set_ne (by omega)]; exact hz j (by omega)⟩
      by_cases e' : j = i
      · subst e'; rw [bgetD_set_eq hil]; exact e
      · rw [bgetD_set_ne (Ne.symm e')]; exact hb j (by omega)
    have hw : ∀ d : Int, (i : Int) - clampI n = d → IntKind.i64.wrap ((i : Int) - (if (if ((100 : Nat) : Int) < n then ((100 : Nat) : Int) else n) > -100 then (if ((100 : Nat) : Int) < n then ((100 : Nat) : Int) else n) else -100)) = d := by
      intro d e
      rw [← e]
      exact wi64_in (by omega) (by omega)
    have hm : mvb x n fill i = if 0 ≤ (i : Int) - clampI n then (if (i : Int) - clampI n < 64 then x.testBit ((i : Int) - clampI n).toNat else fill) else false := rfl
    generalize hd : (i : Int) - clampI n = d at hm
    have hw := hw d hd
    by_cases d0 : 0 ≤ d
    · obtain ⟨e, rfl⟩ : ∃ e : Nat, d = (e : Int) := ⟨d.toNat, by omega⟩
      by_cases d1 : e < 64
      · have heb : e < (bitsF x.testBit).length := by omega
        have g1 := bl_getD heb
        have gb : (bitsF x.testBit).getD e false = x.testBit e := by rw [bitsF_getD, if_pos d1]
        rw [gb] at g1
        have e63 : e ≤ 63 := by omega
        obtain ⟨n1, n2, n3⟩ := nx (x.testBit e) (by rw [hm, if_pos d0, if_pos (by omega)]; rfl)
        simp (maxSteps := 2000000) only [↓avm8, ↓avmW, avmD, avmL, avmO, avmR, avmN, avmM, wi64, csub, row_getD, row_reps, ↓reduceIte, decide_true, decide_false, true_imp_iff, Nat.reduceAdd, Nat.reduceMul, Nat.reduceSub, Nat.reduceLT, Nat.reduceLeDiff, Nat.reduceEqDiff, Nat.reducePow, Nat.min_eq_left, Nat.reduceMod, List.drop_zero, h0, avmB, hl, hp1, hw, d1, e63, hbx, g1, w1, w1', i63]
        exact LN.next (i + 1, l.set i (x.testBit e)) [1, 2, 7, 8, 9] ⟨q1, n1, n2, n3⟩ (by simp only; omega) rfl
      · have d2 : 64 ≤ e := by omega
        obtain ⟨n1, n2, n3⟩ := nx fill (by rw [hm, if_pos d0, if_neg (by omega)])
        simp (maxSteps := 2000000) only [↓avm8, ↓avmW, avmD, avmL, avmO, avmR, avmN, avmM, wi64, csub, row_getD, row_reps, ↓reduceIte, decide_true, decide_false, true_imp_iff, Nat.reduceAdd, Nat.reduceMul, Nat.reduceSub, Nat.reduceLT, Nat.reduceLeDiff, Nat.reduceEqDiff, Nat.reducePow, Nat.min_eq_left, Nat.reduceMod, List.drop_zero, h0, avmB, hl, hp1, hw, d1, d2, w1, w1', i63]
        exact LN.next (i + 1, l.set i fill) [1, 2, 7, 8, 9] ⟨q1, n1, n2, n3⟩ (by simp only; omega) rfl
    · have hm : mvb x n fill i = false := by rw [hm, if_neg d0]
      have d3 : ¬ (64 : Int) ≤ d := by omega
      have d4 : ¬ ((64 : Nat) : Int) ≤ d := by omega
      have d5 : ¬ ((0 : Nat) : Int) ≤ d := by omega
      simp (maxSteps := 2000000) only [↓avm8, ↓avmW, avmD, avmL, avmO, avmR, avmN, avmM, wi64, csub, row_getD, row_reps, ↓reduceIte, decide_true, decide_false, true_imp_iff, Nat.reduceAdd, Nat.reduceMul, Nat.reduceSub, Nat.reduceLT, Nat.reduceLeDiff, Nat.reduceEqDiff, Nat.reducePow, Nat.min_eq_left, Nat.reduceMod, List.drop_zero, h0, avmB, hl, hp1, hw, d0, d3, d4, d5, w1, w1', i63]
      refine LN.next (i + 1, l) [1, 2, 7, 8, 9] ⟨q1, hl, fun j hj => ?_, fun j hj => hz j (by simp only at hj; omega)⟩ (by simp only; omega) rfl
      simp only at hj
      by_cases e' : j = i
      · subst e'; exact (hz j (Nat.le_refl _)).trans hm.symm
      · exact hb j (by omega)
  · have e : i = 64 := by omega
    subst e
    have hL := bitsF_of hl hb
    have ht : l.take 64 = l := List.take_of_length_le (by omega)
    have hW := ref_Word_px (G := G) l hl
    simp (maxSteps := 2000000) only [↓avm8, ↓avmW, avmD, avmL, avmO, avmR, avmN, avmM, wi64, csub, row_getD, row_reps, ↓reduceIte, decide_true, decide_false, true_imp_iff, Nat.reduceAdd, Nat.reduceMul, Nat.reduceSub, Nat.reduceLT, Nat.reduceLeDiff, Nat.reduceEqDiff, Nat.reducePow, Nat.min_eq_left, Nat.reduceMod, List.drop_zero, h0, avmB, hl, ht]
    refine hW.call ?_
    simp (maxSteps := 2000000) only [↓avm8, ↓avmW, avmD, avmL, avmO, avmR, avmN, avmM, wi64, csub, row_getD, row_reps, ↓reduceIte, decide_true, decide_false, true_imp_iff, Nat.reduceAdd, Nat.reduceMul, Nat.reduceSub, Nat.reduceLT, Nat.reduceLeDiff, Nat.reduceEqDiff, Nat.reducePow, Nat.min_eq_left, Nat.reduceMod, List.drop_zero, avmB, hl, ht]
    refine ret_now ?_
    simp (maxSteps := 2000000) only [↓avm8, ↓avmW, avmD, avmL, avmO, avmR, avmN, avmM, wi64, csub, row_getD, row_reps, ↓reduceIte, decide_true, decide_false, true_imp_iff, Nat.reduceAdd, Nat.reduceMul, Nat.reduceSub, Nat.reduceLT, Nat.reduceLeDiff, Nat.reduceEqDiff, Nat.reducePow, Nat.min_eq_left, Nat.reduceMod, List.drop_zero, avmB, hl, ht]
    rw [hL]
end Va
