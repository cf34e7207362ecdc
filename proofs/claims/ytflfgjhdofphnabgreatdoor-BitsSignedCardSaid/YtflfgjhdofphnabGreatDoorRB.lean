/- The reference's words bit by bit. -/
import Derived.Test.YtflfgjhdofphnabGreatDoorFE
import Derived.Test.YtflfgjhdofphnabGreatDoorIr1
import Derived.Test.YtflfgjhdofphnabGreatDoorIr2
import Derived.Test.YtflfgjhdofphnabGreatDoorIr3
import Derived.Test.YtflfgjhdofphnabGreatDoorBM3
set_option linter.unusedSimpArgs false
set_option linter.unusedVariables false
set_option maxRecDepth 100000
set_option maxHeartbeats 4000000
open Go Go.Avm
namespace Va
variable {G : Glob}
/-- Cells of bools. -/
def bl (l : List Bool) : List AV := l.map AV.bool
theorem bl_length (l : List Bool) : (bl l).length = l.length := by simp [bl]
theorem bl_getD {l : List Bool} {i : Nat} (h : i < l.length) : (bl l).getD i .junk = .bool (l.getD i false) := by
  simp [bl, List.getD_eq_getElem?_getD, List.getElem?_eq_getElem h]
theorem bl_set (l : List Bool) (i : Nat) (x : Bool) : (bl l).set i (.bool x) = bl (l.set i x) := by simp [bl, List.map_set]
theorem bl_take (l : List Bool) (n : Nat) : (bl l).take n = bl (l.take n) := by simp [bl, List.map_take]
theorem bl_frz (l : List Bool) : FrzL (bl l) = True := by
  simp only [FrzL.iff, bl, List.mem_map, eq_iff_iff, iff_true]
  rintro x ⟨b, _, rfl⟩
  simp only [Frz]
theorem bl_one (H : List AObj) (l : List Bool) : OneL H (bl l) = True := by
  simp only [OneL, bl, List.mem_map, eq_iff_iff, iff_true]
  rintro x ⟨b, _, rfl⟩
  simp only [OneC]
theorem putAt_all : ∀ (pre cs xs : List AV), cs.length = xs.length → putAt (pre ++ cs) pre.length xs = pre ++ xs
  | pre, [], [], _ => by simp [putAt]
  | pre, c :: cs, x :: xs, h => by
    rw [putAt]
    have e : (pre ++ c :: cs).set pre.length x = (pre ++ [x]) ++ cs := by simp [List.set_append_right]
    have := putAt_all (pre ++ [x]) cs xs (by simpa using h)
    rw [e]
    simpa using this
theorem putAt_bl {l m : List Bool} (h : l.length = m.length) : putAt (bl l) 0 (bl m) = bl m := by
  have := putAt_all [] (bl l) (bl m) (by rw [bl_length, bl_length, h])
  simpa using this
theorem avmB : (∀ l, (bl l).length = l.length) ∧ (∀ l i x, (bl l).set i (.bool x) = bl (l.set i x)) ∧ (∀ l n, (bl l).take n = bl (l.take n)) ∧ (∀ l, FrzL (bl l) = True) ∧ (∀ H l, OneL H (bl l) = True) ∧ (∀ l, cellsOf (.agg (bl l)) = bl l) ∧ (∀ i l, thawL i 64 l [] = []) :=
  ⟨bl_length, bl_set, bl_take, bl_frz, bl_one, fun _ => rfl, fun _ _ => rfl⟩
theorem ref_Bits_px (x : Nat) (hx : x < 18446744073709551616) : PX P G n_ref1_Bits [.int .u64 x] (.agg (bl (bitsF x.testBit))) := by
  refine PX_of_awp low_ref1_Bits fol (by simp only [avmF, and_true]) (by simp only [avmF, avmB]) ?_
  simp only [ir_ref1_Bits, initF, List.replicate, Nat.reduceAdd, Nat.reduceSub, iv, avmL]
  simp (maxSteps := 2000000) only [↓avm8, ↓avmW, avmD, avmL, avmO, avmR, avmN, avmM, wi64, csub, row_getD, row_reps, ↓reduceIte, decide_true, decide_false, true_imp_iff, Nat.reduceAdd, Nat.reduceMul, Nat.reduceSub, Nat.reduceLT, Nat.reduceLeDiff, Nat.reduceEqDiff, Nat.reducePow, Nat.min_eq_left, Nat.reduceMod, List.drop_zero]
  refine loop_of (fun q : Nat × List Bool => ⟨(.int .u64 ((x / 2 ^ q.1 : Nat) : Int) :: .junk :: .own 0 0 :: .own 1 0 :: .int .i64 q.1 :: .junk :: .junk :: .junk :: .junk :: .junk :: .junk :: .junk :: .junk :: .junk :: .junk :: .junk :: .junk :: []), [.arr t_64_bool 64 false (bl (List.replicate 64 false)), .arr t_64_bool 64 false (bl q.2)]⟩)
    (fun q => q.1 ≤ 64 ∧ q.2.length = 64 ∧ ∀ j, j < q.1 → q.2.getD j false = x.testBit j) (fun q => 64 - q.1) (0, List.replicate 64 false) [0, 2, 3, 4] ?_ ⟨by decide, by simp, fun j hj => by simp only at hj; omega⟩ ?_
  · rw [Nat.pow_zero, Nat.div_one]; rfl
  rintro ⟨i, l⟩ ⟨hi, hl, hb⟩
  simp only at hi hl hb
  by_cases h0 : i < 64
  · have hbit : decide (x / 2 ^ i % 2 = 1) = x.testBit i := (Nat.testBit_eq_decide_div_mod_eq).symm
    have hlt : x / 2 ^ i < 18446744073709551616 := Nat.lt_of_le_of_lt (Nat.div_le_self _ _) hx
    have w1 : IntKind.i64.wrap ((i + 1 : Nat) : Int) = ((i + 1 : Nat) : Int) := wi64 (by omega)
    have w2 : x / 2 ^ i / 2 % 18446744073709551616 = x / 2 ^ (i + 1) := by
      rw [Nat.pow_succ, ← Nat.div_div_eq_div_mul]
      exact m64 (Nat.lt_of_le_of_lt (Nat.div_le_self _ _) hlt)
    have q1 : i + 1 ≤ 64 := by omega
    simp (maxSteps := 2000000) only [↓avm8, ↓avmW, avmD, avmL, avmO, avmR, avmN, avmM, wi64, csub, row_getD, row_reps, ↓reduceIte, decide_true, decide_false, true_imp_iff, Nat.reduceAdd, Nat.reduceMul, Nat.reduceSub, Nat.reduceLT, Nat.reduceLeDiff, Nat.reduceEqDiff, Nat.reducePow, Nat.min_eq_left, Nat.reduceMod, List.drop_zero, h0, avmB, hbit, hl, w1, w2, q1, cellsOf, putAt, List.length_cons, List.length_nil]
    refine LN.next (i + 1, l.set i (x.testBit i)) [0, 2, 3, 4] ⟨q1, by simp only [List.length_set]; exact hl, fun j hj => ?_⟩ (by simp only; omega) rfl
    simp only at hj ⊢
    by_cases e : j = i
    · subst e; exact bgetD_set_eq (by omega) _ _
    · rw [bgetD_set_ne (Ne.symm e)]; exact hb j (by omega)
  · have e : i = 64 := by omega
    subst e
    have hL := bitsF_of hl hb
    have ht : l.take 64 = l := List.take_of_length_le (by omega)
    have hp : putAt (bl (List.replicate 64 false)) 0 (bl l) = bl l := putAt_bl (by simp [hl])
    simp (maxSteps := 2000000) only [↓avm8, ↓avmW, avmD, avmL, avmO, avmR, avmN, avmM, wi64, csub, row_getD, row_reps, ↓reduceIte, decide_true, decide_false, true_imp_iff, Nat.reduceAdd, Nat.reduceMul, Nat.reduceSub, Nat.reduceLT, Nat.reduceLeDiff, Nat.reduceEqDiff, Nat.reducePow, Nat.min_eq_left, Nat.reduceMod, List.drop_zero, h0, avmB, hl, ht, List.length_replicate, hp]
    refine ret_now ?_
    simp (maxSteps := 2000000) only [↓avm8, ↓avmW, avmD, avmL, avmO, avmR, avmN, avmM, wi64, csub, row_getD, row_reps, ↓reduceIte, decide_true, decide_false, true_imp_iff, Nat.reduceAdd, Nat.reduceMul, Nat.reduceSub, Nat.reduceLT, Nat.reduceLeDiff, Nat.reduceEqDiff, Nat.reducePow, Nat.min_eq_left, Nat.reduceMod, List.drop_zero, avmB, hl, ht]
    rw [hL]
theorem ref_Word_px (l : List Bool) (hl : l.length = 64) : PX P G n_ref1_Word [.agg (bl l)] (.int .u64 ((wordv l : Nat) : Int)) := by
  refine PX_of_awp low_ref1_Word fol (by simp only [avmF, avmB, and_true]) (by simp only [avmF]) ?_
  have hw := wordv_lt l
  rw [hl] at hw
  simp only [ir_ref1_Word, initF, List.replicate, Nat.reduceAdd, Nat.reduceSub, iv, avmL]
  simp (maxSteps := 2000000) only [↓avm8, ↓avmW, avmD, avmL, avmO, avmR, avmN, avmM, wi64, csub, row_getD, row_reps, ↓reduceIte, decide_true, decide_false, true_imp_iff, Nat.reduceAdd, Nat.reduceMul, Nat.reduceSub, Nat.reduceLT, Nat.reduceLeDiff, Nat.reduceEqDiff, Nat.reducePow, Nat.min_eq_left, Nat.reduceMod, List.drop_zero, avmB, hl]
  refine loop_of (fun k : Nat => ⟨(.junk :: .own 0 0 :: .junk :: .int .u64 ((wordv (l.drop k) : Nat) : Int) :: .int .i64 ((k : Int) - 1) :: .junk :: .junk :: .junk :: .junk :: .junk :: .junk :: .junk :: .junk :: .junk :: .junk :: .junk :: .junk :: []), [.arr t_64_bool 64 false (bl l)]⟩)
    (fun k => k ≤ 64) (fun k => k) 64 [1, 3, 4] ?_ (Nat.le_refl _) ?_
  · rw [List.drop_eq_nil_of_le (by omega)]; rfl
  intro k hk
  rcases Nat.eq_zero_or_pos k with rfl | hk0
  · have h0 : (((0 : Nat) : Int) ≤ ((0 : Nat) : Int) - 1) = False := by simp
    simp (maxSteps := 2000000) only [↓avm8, ↓avmW, avmD, avmL, avmO, avmR, avmN, avmM, wi64, csub, row_getD, row_reps, ↓reduceIte, decide_true, decide_false, true_imp_iff, Nat.reduceAdd, Nat.reduceMul, Nat.reduceSub, Nat.reduceLT, Nat.reduceLeDiff, Nat.reduceEqDiff, Nat.reducePow, Nat.min_eq_left, Nat.reduceMod, List.drop_zero, h0]
    refine ret_now ?_
    simp (maxSteps := 2000000) only [↓avm8, ↓avmW, avmD, avmL, avmO, avmR, avmN, avmM, wi64, csub, row_getD, row_reps, ↓reduceIte, decide_true, decide_false, true_imp_iff, Nat.reduceAdd, Nat.reduceMul, Nat.reduceSub, Nat.reduceLT, Nat.reduceLeDiff, Nat.reduceEqDiff, Nat.reducePow, Nat.min_eq_left, Nat.reduceMod, List.drop_zero]
  · obtain ⟨i, rfl⟩ : ∃ i, k = i + 1 := ⟨k - 1, by omega⟩
    have ei : (((i + 1 : Nat) : Int) - 1) = (i : Int) := by omega
    have wi : IntKind.i64.wrap (((i : Nat) : Int) - ((1 : Nat) : Int)) = ((i : Nat) : Int) - 1 := wi64_in (by omega) (by omega)
    have hil : i < l.length := by omega
    have hi64 : i < 64 := by omega
    have g1 := bl_getD hil
    have hd : l.drop i = l.getD i false :: l.drop (i + 1) := by
      rw [List.drop_eq_getElem_cons hil]
      simp [List.getD_eq_getElem?_getD, List.getElem?_eq_getElem hil]
    have hwd : wordv (l.drop i) = (l.getD i false).toNat + 2 * wordv (l.drop (i + 1)) := by rw [hd, wordv_cons]
    have hlt : wordv (l.drop i) < 18446744073709551616 := by
      have := wordv_lt (l.drop i)
      refine Nat.lt_of_lt_of_le this ?_
      rw [show 18446744073709551616 = 2 ^ 64 by rfl]
      exact Nat.pow_le_pow_right (by decide) (by simp; omega)
    have m1 : wordv (l.drop (i + 1)) * 2 % 18446744073709551616 = wordv (l.drop (i + 1)) * 2 := m64 (by omega)
    cases hbb : l.getD i false with
    | true =>
      rw [hbb] at g1 hwd
      have m2 : (wordv (l.drop (i + 1)) * 2 + 1) % 18446744073709551616 = wordv (l.drop i) := by rw [hwd, Bool.toNat_true]; rw [hwd, Bool.toNat_true] at hlt; omega
      simp (maxSteps := 2000000) only [↓avm8, ↓avmW, avmD, avmL, avmO, avmR, avmN, avmM, wi64, csub, row_getD, row_reps, ↓reduceIte, decide_true, decide_false, true_imp_iff, Nat.reduceAdd, Nat.reduceMul, Nat.reduceSub, Nat.reduceLT, Nat.reduceLeDiff, Nat.reduceEqDiff, Nat.reducePow, Nat.min_eq_left, Nat.reduceMod, List.drop_zero, ei, hi64, avmB, hl, g1, m1, m2, wi]
      exact LN.next i [1, 3, 4] (by omega) (by omega) rfl
    | false =>
      rw [hbb] at g1 hwd
      have m2 : wordv (l.drop (i + 1)) * 2 % 18446744073709551616 = wordv (l.drop i) := by rw [m1, hwd, Bool.toNat_false]; omega
      simp (maxSteps := 2000000) only [↓avm8, ↓avmW, avmD, avmL, avmO, avmR, avmN, avmM, wi64, csub, row_getD, row_reps, ↓reduceIte, decide_true, decide_false, true_imp_iff, Nat.reduceAdd, Nat.reduceMul, Nat.reduceSub, Nat.reduceLT, Nat.reduceLeDiff, Nat.reduceEqDiff, Nat.reducePow, Nat.min_eq_left, Nat.reduceMod, List.drop_zero, ei, hi64, avmB, hl, g1, m2, wi]
      exact LN.next i [1, 3, 4] (by omega) (by omega) rfl
end Va
