/- Joined texts. -/
import Derived.Test.YtdhhdjnhjlomkaaGreatDoorNA
import Derived.Test.YtdhhdjnhjlomkaaGreatDoorFN
import Derived.Test.YtdhhdjnhjlomkaaGreatDoorLb
import Derived.Test.YtdhhdjnhjlomkaaGreatDoorRG
import Derived.Test.YtdhhdjnhjlomkaaGreatDoorNB
import Derived.Test.YtdhhdjnhjlomkaaGreatDoorRA
/- The program's naturals as texts. -/
set_option linter.unusedSimpArgs false
set_option linter.unusedVariables false
set_option maxRecDepth 100000
set_option maxHeartbeats 8000000
open Go Go.Avm
namespace Va
attribute [local irreducible] ACallF FCallF
variable {G : Glob}
theorem nat_Text_px (hG : GOK G) (n : Nat) (hn : dl 4294967296 n ≤ 100000000) : PX P G n_nat_Nat_Text [natV n] (.str (txt n)) := by
  refine PX_of_awp low_nat_Nat_Text fol (by simp only [avmF, natV, and_true]) (by simp only [avmF]) ?_
  have dA := nat_digits_px (G := G) n
  unfold natV slV at dA
  obtain ⟨l0, hl0⟩ : ∃ k, k = (dig 4294967296 n).length := ⟨_, rfl⟩
  rw [← hl0] at dA
  simp only [ir_nat_Nat_Text, sX, mX, initF, List.replicate, Nat.reduceAdd, Nat.reduceSub, iv, avmL]
  simp (maxSteps := 2000000) only [↓avp, ↓avmD, avq, ↓reduceIte, Nat.reduceAdd, Nat.reduceMul, Nat.reduceSub, Nat.reduceLT, Nat.reduceLeDiff, Nat.reduceEqDiff, Nat.reducePow, Nat.reduceMod, natV, slV, ← hl0]
  refine dA.call ?_
  simp (maxSteps := 2000000) only [↓avp, ↓avmD, avq, ↓reduceIte, Nat.reduceAdd, Nat.reduceMul, Nat.reduceSub, Nat.reduceLT, Nat.reduceLeDiff, Nat.reduceEqDiff, Nat.reducePow, Nat.reduceMod]
  refine ⟨hl0.symm, by unfold dl at hn; omega, ?_⟩
  refine loop_gh (fun c : Nat × List UInt8 × AV => ⟨[J,J,J,c.2.2,.str c.2.1,J,J,J,J,J,J,J,J,J,J,J,J,J,J,J,J,J,J,J,J,J,J,J,J,J,J,J,J,J,J,J,J,J,J,J,J], []⟩)
    (fun c => c.2.2 = slV .u32 (dig 4294967296 (n / 10 ^ (9 * c.1))) ∧ (n ≠ 0 → c.2.1 = if n / 10 ^ (9 * c.1) = 0 then txt n else ptxt (9 * c.1) n) ∧ (n = 0 → c.2.1 = [])) (fun c => n / 10 ^ (9 * c.1)) (0, [], thaw 0 1 (row .u32 (dig 4294967296 n)) (.osl 0 0 l0))
    (Gh.trans (Gh.keep _ [3, 4]) (Gh.fzc (H := []) (i := 0) rfl (Nat.le_refl _) (by simp only [avmF]))) ⟨?_, fun h => ?_, fun _ => rfl⟩ ?_
  · simp only
    simp (maxSteps := 2000000) only [↓avp, ↓avmD, avq, ↓reduceIte, Nat.reduceAdd, Nat.reduceMul, Nat.reduceSub, Nat.reduceLT, Nat.reduceLeDiff, Nat.reduceEqDiff, Nat.reducePow, Nat.reduceMod, avmT]
    rw [if_pos (by omega), Nat.div_one, hl0, List.take_length]
    rfl
  · simp only
    rw [Nat.mul_zero, Nat.pow_zero, Nat.div_one, if_neg h]; rfl
  rintro ⟨j, s, t⟩ ⟨ht, hs, hz⟩
  simp only at ht hs hz
  subst ht
  obtain ⟨m, hm⟩ : ∃ m, m = n / 10 ^ (9 * j) := ⟨_, rfl⟩
  have hml : dl 4294967296 m ≤ 100000000 := Nat.le_trans (dl_mono (by decide) (by rw [hm]; exact Nat.div_le_self _ _)) hn
  obtain ⟨lm, hlm⟩ : ∃ k, k = (dig 4294967296 m).length := ⟨_, rfl⟩
  have hlm2 : dl 4294967296 m = lm := hlm.symm
  rw [← hm] at hs
  by_cases h0 : 0 < lm
  · have hm0 : m ≠ 0 := fun h => by rw [h, dl_zero] at hlm2; omega
    have hn0 : n ≠ 0 := fun h => hm0 (by rw [hm, h, Nat.zero_div])
    have hs := hs hn0
    rw [if_neg hm0] at hs
    subst hs
    have hS := nat_short_px (G := G) (dig 4294967296 m) 1000000000 (dig_lt (by decide) m) (by decide) (by decide) (by unfold dl at hml; omega)
    rw [val_dig (by decide), ← hlm] at hS
    have hO := nat_of_px (G := G) (padd 4294967296 lm (m / 1000000000)) (padd_lt (by decide) _ _)
    rw [padd_val (by decide) _ _ (Nat.lt_of_le_of_lt (Nat.div_le_self _ _) ((dl_le_iff (by decide)).1 (by omega)))] at hO
    have hF := formatUint_px hG (m % 1000000000) (Nat.lt_of_lt_of_le (Nat.mod_lt _ (by decide)) (by decide))
    rw [decDigits_txt] at hF
    unfold slV at hS hO
    rw [padd_length, ← hlm] at hS
    rw [padd_length] at hO
    have hj : n / 10 ^ (9 * (j + 1)) = m / 1000000000 := by
      rw [show 9 * (j + 1) = 9 * j + 9 by omega, Nat.pow_add, ← Nat.div_div_eq_div_mul, ← hm]
    have hr : m % 1000000000 < 10 ^ 9 := Nat.mod_lt _ (by decide)
    obtain ⟨p1, p2⟩ := pad_part hr (by decide)
    have hdn : 9 * j < 1000000000 := by
      have h1 : dl 10 m = dl 10 n - 9 * j := by rw [hm]; exact dl_div_pow (by decide) n (9 * j)
      have h2 : dl 10 m ≠ 0 := fun h => hm0 ((dl_eq_zero (by decide)).1 h)
      have h3 : dl 10 n ≤ 10 * dl 4294967296 n := by
        refine (dl_le_iff (by decide)).2 (Nat.lt_of_lt_of_le (lt_pow_dl (B := 4294967296) (by decide) n) ?_)
        rw [Nat.pow_mul]
        exact Nat.pow_le_pow_left (by decide) _
      omega
    have hpl := ptxt_length (9 * j) n
    simp (maxSteps := 2000000) only [↓avp, ↓avmD, avq, ↓reduceIte, Nat.reduceAdd, Nat.reduceMul, Nat.reduceSub, Nat.reduceLT, Nat.reduceLeDiff, Nat.reduceEqDiff, Nat.reducePow, Nat.reduceMod, slV, ← hm, ← hlm, h0]
    intro hl
    repeat ((first | refine hS.call ?_ | refine hO.call ?_); simp (maxSteps := 2000000) only [↓avp, ↓avmD, avq, ↓reduceIte, Nat.reduceAdd, Nat.reduceMul, Nat.reduceSub, Nat.reduceLT, Nat.reduceLeDiff, Nat.reduceEqDiff, Nat.reducePow, Nat.reduceMod, natV, slV])
    refine hF.call ?_
    by_cases h1 : m / 1000000000 = 0
    · have hlow : n / 10 ^ (9 * (j + 1)) = 0 := by rw [hj]; exact h1
      have e1 : ¬ 0 < (dig 4294967296 (m / 1000000000)).length := by rw [h1, dig_zero]; simp
      have e2 : m % 1000000000 = m := by omega
      have pt := part_top (n := n) (j := j) (by rw [← hm]; exact hm0)
      rw [← hm] at pt
      rw [e2] at p2
      simp (maxSteps := 2000000) only [↓avp, ↓avmD, avq, ↓reduceIte, Nat.reduceAdd, Nat.reduceMul, Nat.reduceSub, Nat.reduceLT, Nat.reduceLeDiff, Nat.reduceEqDiff, Nat.reducePow, Nat.reduceMod, e1, e2]
      intro hl2
      refine ⟨by rw [hpl]; omega, LN.next (j + 1, txt m ++ ptxt (9 * j) n, .sl (dig 4294967296 (m / 1000000000)).length (row .u32 (dig 4294967296 (m / 1000000000)))) [3, 4] ⟨by simp only; rw [hj], fun _ => by simp only; rw [if_pos hlow, pt], fun h => absurd h hn0⟩ (by simp only; rw [hj, ← hm]; omega) rfl⟩
    · have e1 : 0 < (dig 4294967296 (m / 1000000000)).length := Nat.pos_of_ne_zero fun h => h1 ((dl_eq_zero (B := 4294967296) (by decide)).1 h)
      have w1 : IntKind.i64.wrap (((9 : Nat) : Int) - (((txt (m % 1000000000)).length : Nat) : Int)) = ((9 - (txt (m % 1000000000)).length : Nat) : Int) := by rw [wi64_in (by omega) (by omega)]; omega
      have hR := repeat_px (G := G) [48] (9 - (txt (m % 1000000000)).length) (by omega) (by simp; omega)
      simp (maxSteps := 2000000) only [↓avp, ↓avmD, avq, ↓reduceIte, Nat.reduceAdd, Nat.reduceMul, Nat.reduceSub, Nat.reduceLT, Nat.reduceLeDiff, Nat.reduceEqDiff, Nat.reducePow, Nat.reduceMod, e1, w1]
      intro hl2
      refine hR.call ?_
      simp (maxSteps := 2000000) only [↓avp, ↓avmD, avq, ↓reduceIte, Nat.reduceAdd, Nat.reduceMul, Nat.reduceSub, Nat.reduceLT, Nat.reduceLeDiff, Nat.reduceEqDiff, Nat.reducePow, Nat.reduceMod, p1]
      have pl := part_low n j
      rw [← hm] at pl
      refine ⟨by rw [Lib.repeatL_length]; simp; omega, by rw [ptxt_length, hpl]; omega, LN.next (j + 1, ptxt 9 (m % 1000000000) ++ ptxt (9 * j) n, .sl (dig 4294967296 (m / 1000000000)).length (row .u32 (dig 4294967296 (m / 1000000000)))) [3, 4] ⟨by simp only; rw [hj], fun _ => by simp only; rw [hj, if_neg h1, pl], fun h => absurd h hn0⟩ (by simp only; rw [hj, ← hm]; omega) rfl⟩
  · have hm0 : m = 0 := (dl_eq_zero (B := 4294967296) (by decide)).1 (by omega)
    simp (maxSteps := 2000000) only [↓avp, ↓avmD, avq, ↓reduceIte, Nat.reduceAdd, Nat.reduceMul, Nat.reduceSub, Nat.reduceLT, Nat.reduceLeDiff, Nat.reduceEqDiff, Nat.reducePow, Nat.reduceMod, slV, ← hm, ← hlm, h0]
    intro hl
    by_cases hn0 : n = 0
    · have e := hz hn0
      subst e
      have e1 : (([] : List UInt8) == []) = true := rfl
      simp (maxSteps := 2000000) only [↓avp, ↓avmD, avq, ↓reduceIte, Nat.reduceAdd, Nat.reduceMul, Nat.reduceSub, Nat.reduceLT, Nat.reduceLeDiff, Nat.reduceEqDiff, Nat.reducePow, Nat.reduceMod, e1]
      refine ret_now ?_
      simp (maxSteps := 2000000) only [↓avp, ↓avmD, avq, ↓reduceIte, Nat.reduceAdd, Nat.reduceMul, Nat.reduceSub, Nat.reduceLT, Nat.reduceLeDiff, Nat.reduceEqDiff, Nat.reducePow, Nat.reduceMod]
      rw [hn0]; rfl
    · have e := hs hn0
      rw [if_pos hm0] at e
      subst e
      have hlen : 0 < (txt n).length := by rw [txt_pos hn0, ptxt_length]; exact Nat.pos_of_ne_zero fun h => hn0 ((dl_eq_zero (by decide)).1 h)
      have e1 : (txt n == []) = false := by
        cases h : txt n with
        | nil => rw [h] at hlen; simp at hlen
        | cons a b => rfl
      simp (maxSteps := 2000000) only [↓avp, ↓avmD, avq, ↓reduceIte, Nat.reduceAdd, Nat.reduceMul, Nat.reduceSub, Nat.reduceLT, Nat.reduceLeDiff, Nat.reduceEqDiff, Nat.reducePow, Nat.reduceMod, e1]
      refine ret_now ?_
      simp (maxSteps := 2000000) only [↓avp, ↓avmD, avq, ↓reduceIte, Nat.reduceAdd, Nat.reduceMul, Nat.reduceSub, Nat.reduceLT, Nat.reduceLeDiff, Nat.reduceEqDiff, Nat.reducePow, Nat.reduceMod]
end Va
/- Texts read as naturals. -/
set_option linter.unusedSimpArgs false
set_option linter.unusedVariables false
set_option maxRecDepth 100000
set_option maxHeartbeats 8000000
open Go Go.Avm
namespace Va
attribute [local irreducible] ACallF FCallF
variable {G : Glob}
theorem nat_of_nil : PX P G n_nat_of [.nils] (natV 0) := by
  have h := nat_of_px (G := G) [] (by intro d hd; cases hd)
  have e : val 4294967296 [] = 0 := rfl
  rw [e] at h
  exact h.wk_args (.cons Wk.nils (WkL.refl _)) (by simp only [avmF, and_true])
theorem nat_Get_no (s : List UInt8) (hs : s.length ≤ 9223372036854775806) (h : okN s = false) : PX P G n_nat_Get [.str s] (.tup [.nilp, .bool false]) := by
  have hT := trim_px (G := G) s tens (by omega) (by decide) (by decide)
  unfold tens at hT
  refine PX_of_awp low_nat_Get fol (by simp only [avmF, and_true]) (by simp only [avmF, and_true]) ?_
  have n1 : (!true) = false := rfl
  have n2 : (!false) = true := rfl
  by_cases h1 : s = []
  · have e1 : (s == []) = true := by rw [h1]; rfl
    simp only [ir_nat_Get, sX, mX, initF, List.replicate, Nat.reduceAdd, Nat.reduceSub, iv, avmL]
    simp (maxSteps := 2000000) only [↓avp, ↓avmD, avq, ↓reduceIte, Nat.reduceAdd, Nat.reduceMul, Nat.reduceSub, Nat.reduceLT, Nat.reduceLeDiff, Nat.reduceEqDiff, Nat.reducePow, Nat.reduceMod, e1, n1, n2]
    refine ret_now ?_
    simp (maxSteps := 2000000) only [↓avp, ↓avmD, avq, ↓reduceIte, Nat.reduceAdd, Nat.reduceMul, Nat.reduceSub, Nat.reduceLT, Nat.reduceLeDiff, Nat.reduceEqDiff, Nat.reducePow, Nat.reduceMod]
  have e1 : (s == []) = false := by cases s with | nil => exact absurd rfl h1 | cons a b => rfl
  have hl0 : 0 < s.length := List.length_pos_iff.2 h1
  by_cases h2 : 2000 < s.length
  · simp only [ir_nat_Get, sX, mX, initF, List.replicate, Nat.reduceAdd, Nat.reduceSub, iv, avmL]
    simp (maxSteps := 2000000) only [↓avp, ↓avmD, avq, ↓reduceIte, Nat.reduceAdd, Nat.reduceMul, Nat.reduceSub, Nat.reduceLT, Nat.reduceLeDiff, Nat.reduceEqDiff, Nat.reducePow, Nat.reduceMod, e1, h2, n1, n2]
    refine ret_now ?_
    simp (maxSteps := 2000000) only [↓avp, ↓avmD, avq, ↓reduceIte, Nat.reduceAdd, Nat.reduceMul, Nat.reduceSub, Nat.reduceLT, Nat.reduceLeDiff, Nat.reduceEqDiff, Nat.reducePow, Nat.reduceMod]
  have hd : s.head? = some (s.getD 0 0) := by cases s with | nil => exact absurd rfl h1 | cons a b => rfl
  have hnall : ¬ (1 < s.length ∧ (s.getD 0 0).toNat = 48) → (Lib.trimS s [48, 49, 50, 51, 52, 53, 54, 55, 56, 57] == []) = false := by
    intro hh
    have e : ¬ Lib.trimS s tens = [] := by
      rw [trim_nil]
      intro ha
      have hk : okN s = true := by
        have hx : (decide (1 < s.length) && decide (s.head? = some 48)) = false := by
          rw [Bool.and_eq_false_iff]
          by_cases h3 : 1 < s.length
          · refine .inr (decide_eq_false ?_)
            rw [hd]
            intro h5
            have h6 : s.getD 0 0 = 48 := by simpa using h5
            exact hh ⟨h3, by rw [h6]; rfl⟩
          · exact .inl (decide_eq_false h3)
        simp only [okN, ha, hx, Bool.not_false, Bool.and_true, Bool.and_eq_true, decide_eq_true_iff]
        exact ⟨h1, by omega⟩
      rw [hk] at h; cases h
    unfold tens at e
    generalize Lib.trimS s [48, 49, 50, 51, 52, 53, 54, 55, 56, 57] = z at *
    cases z with
    | nil => exact absurd rfl e
    | cons a b => rfl
  by_cases h3 : 1 < s.length
  · by_cases h4 : (s.getD 0 0).toNat = 48
    · simp only [ir_nat_Get, sX, mX, initF, List.replicate, Nat.reduceAdd, Nat.reduceSub, iv, avmL]
      simp (maxSteps := 2000000) only [↓avp, ↓avmD, avq, ↓reduceIte, Nat.reduceAdd, Nat.reduceMul, Nat.reduceSub, Nat.reduceLT, Nat.reduceLeDiff, Nat.reduceEqDiff, Nat.reducePow, Nat.reduceMod, e1, h2, h3, h4, hl0, n1, n2]
      refine ret_now ?_
      simp (maxSteps := 2000000) only [↓avp, ↓avmD, avq, ↓reduceIte, Nat.reduceAdd, Nat.reduceMul, Nat.reduceSub, Nat.reduceLT, Nat.reduceLeDiff, Nat.reduceEqDiff, Nat.reducePow, Nat.reduceMod]
    · have e2 := hnall fun hh => h4 hh.2
      simp only [ir_nat_Get, sX, mX, initF, List.replicate, Nat.reduceAdd, Nat.reduceSub, iv, avmL]
      simp (maxSteps := 2000000) only [↓avp, ↓avmD, avq, ↓reduceIte, Nat.reduceAdd, Nat.reduceMul, Nat.reduceSub, Nat.reduceLT, Nat.reduceLeDiff, Nat.reduceEqDiff, Nat.reducePow, Nat.reduceMod, e1, h2, h3, h4, hl0, n1, n2]
      refine hT.call ?_
      simp (maxSteps := 2000000) only [↓avp, ↓avmD, avq, ↓reduceIte, Nat.reduceAdd, Nat.reduceMul, Nat.reduceSub, Nat.reduceLT, Nat.reduceLeDiff, Nat.reduceEqDiff, Nat.reducePow, Nat.reduceMod, e2, n2]
      refine ret_now ?_
      simp (maxSteps := 2000000) only [↓avp, ↓avmD, avq, ↓reduceIte, Nat.reduceAdd, Nat.reduceMul, Nat.reduceSub, Nat.reduceLT, Nat.reduceLeDiff, Nat.reduceEqDiff, Nat.reducePow, Nat.reduceMod]
  · have e2 := hnall fun hh => h3 hh.1
    simp only [ir_nat_Get, sX, mX, initF, List.replicate, Nat.reduceAdd, Nat.reduceSub, iv, avmL]
    simp (maxSteps := 2000000) only [↓avp, ↓avmD, avq, ↓reduceIte, Nat.reduceAdd, Nat.reduceMul, Nat.reduceSub, Nat.reduceLT, Nat.reduceLeDiff, Nat.reduceEqDiff, Nat.reducePow, Nat.reduceMod, e1, h2, h3, hl0, n1, n2]
    refine hT.call ?_
    simp (maxSteps := 2000000) only [↓avp, ↓avmD, avq, ↓reduceIte, Nat.reduceAdd, Nat.reduceMul, Nat.reduceSub, Nat.reduceLT, Nat.reduceLeDiff, Nat.reduceEqDiff, Nat.reducePow, Nat.reduceMod, e2, n2]
    refine ret_now ?_
    simp (maxSteps := 2000000) only [↓avp, ↓avmD, avq, ↓reduceIte, Nat.reduceAdd, Nat.reduceMul, Nat.reduceSub, Nat.reduceLT, Nat.reduceLeDiff, Nat.reduceEqDiff, Nat.reducePow, Nat.reduceMod]
/-- The loop that reads nine digits at a time. -/
theorem dl_small {a L : Nat} (h : a < 10 ^ L) : dl 4294967296 a ≤ L := by
  refine (dl_le_iff (by decide)).2 (Nat.lt_of_lt_of_le h ?_)
  exact Nat.pow_le_pow_left (by decide) _
theorem nat_Get_yes (s : List UInt8) (h : okN s = true) : PX P G n_nat_Get [.str s] (.tup [natV (num s), .bool true]) := by
  have hT := trim_px (G := G) s tens (by simp [okN] at h; omega) (by decide) (by decide)
  unfold tens at hT
  refine PX_of_awp low_nat_Get fol (by simp only [avmF, and_true]) (by simp only [avmF, natV, and_true]) ?_
  have n1 : (!true) = false := rfl
  have n2 : (!false) = true := rfl
  simp only [okN, Bool.and_eq_true, decide_eq_true_iff, Bool.not_eq_true', Bool.and_eq_false_iff, decide_eq_false_iff_not] at h
  obtain ⟨⟨⟨h1, h2⟩, h3⟩, ha⟩ := h
  have e0 : Lib.trimS s [48, 49, 50, 51, 52, 53, 54, 55, 56, 57] = [] := (trim_nil s).2 ha
  rw [e0] at hT
  have e1 : (s == []) = false := by cases s with | nil => exact absurd rfl h1 | cons a b => rfl
  have e2 : (([] : List UInt8) == []) = true := rfl
  have hl0 : 0 < s.length := List.length_pos_iff.2 h1
  have h2' : ¬ 2000 < s.length := by omega
  have hN := nat_of_nil (G := G)
  by_cases h4 : 1 < s.length
  · have h5 : ¬ (s.getD 0 0).toNat = 48 := by
      intro h6
      rcases h3 with h3 | h3
      · exact h3 h4
      · refine h3 ?_
        cases s with
        | nil => exact absurd rfl h1
        | cons a b => simp at h6 ⊢; exact UInt8.toNat_inj.1 h6
    simp only [ir_nat_Get, sX, mX, initF, List.replicate, Nat.reduceAdd, Nat.reduceSub, iv, avmL]
    simp (maxSteps := 2000000) only [↓avp, ↓avmD, avq, ↓reduceIte, Nat.reduceAdd, Nat.reduceMul, Nat.reduceSub, Nat.reduceLT, Nat.reduceLeDiff, Nat.reduceEqDiff, Nat.reducePow, Nat.reduceMod, e1, h2', h4, h5, hl0, n1, n2]
    repeat ((first | refine hT.call ?_ | refine hN.call ?_); simp (maxSteps := 2000000) only [↓avp, ↓avmD, avq, ↓reduceIte, Nat.reduceAdd, Nat.reduceMul, Nat.reduceSub, Nat.reduceLT, Nat.reduceLeDiff, Nat.reduceEqDiff, Nat.reducePow, Nat.reduceMod, e2, n1, n2])
    refine loop_of (fun c : List UInt8 × Nat × Nat => ⟨[.str c.1,J,J,J,natV c.2.1,.int .i64 c.2.2,J,J,J,J,J,J,J,J,J,J,J,J,J,J,J,J,J,J,J,J,J,J,J,J,J,J,J,J,J,J,J,J,J,J,J,J,J,J,J,J,J,J,J,J,J,J,J,J,J], []⟩)
      (fun c => c.1.all isDg = true ∧ numF c.2.1 c.1 = num s ∧ c.1.length ≤ s.length ∧ (c.2.2 = c.1.length % 9 ∧ c.2.1 = 0 ∨ c.2.2 = 9 ∧ c.1.length % 9 = 0)) (fun c => 2 * c.1.length + (if c.2.2 = 0 then 1 else 0)) (s, 0, s.length % 9) [0, 4, 5] ?_ ⟨ha, rfl, Nat.le_refl _, .inl ⟨rfl, rfl⟩⟩ ?_
    · rfl
    rintro ⟨r, a, k⟩ ⟨hr, hv, hl, hk⟩
    simp only at hr hv hl hk
    have hnl := num_lt ha
    have hale : a ≤ num s := by
      rw [← hv, numF_eq]
      exact Nat.le_trans (Nat.le_mul_of_pos_right a (Nat.pow_pos (by decide))) (Nat.le_add_right _ _)
    have hda := dl_small (Nat.lt_of_le_of_lt hale hnl)
    by_cases c1 : r = []
    · subst c1
      have c2 : num s = a := hv.symm
      simp (maxSteps := 2000000) only [↓avp, ↓avmD, avq, ↓reduceIte, Nat.reduceAdd, Nat.reduceMul, Nat.reduceSub, Nat.reduceLT, Nat.reduceLeDiff, Nat.reduceEqDiff, Nat.reducePow, Nat.reduceMod, e2, n1]
      refine ret_now ?_
      simp (maxSteps := 2000000) only [↓avp, ↓avmD, avq, ↓reduceIte, Nat.reduceAdd, Nat.reduceMul, Nat.reduceSub, Nat.reduceLT, Nat.reduceLeDiff, Nat.reduceEqDiff, Nat.reducePow, Nat.reduceMod, natV, slV]
      rw [c2]
    · have c2 : (r == []) = false := by cases r with | nil => exact absurd rfl c1 | cons a b => rfl
      by_cases c3 : 0 < k
      · have k9 : k ≤ 9 := by omega
        have hrl : 0 < r.length := List.length_pos_iff.2 c1
        have kr : k ≤ r.length := by
          have := Nat.mod_le r.length 9
          omega
        have hp : (r.take k).all isDg = true := by
          rw [List.all_eq_true] at hr ⊢
          exact fun c hc => hr c (List.mem_of_mem_take hc)
        have hq : (r.drop k).all isDg = true := by
          rw [List.all_eq_true] at hr ⊢
          exact fun c hc => hr c (List.mem_of_mem_drop hc)
        have hpl : (r.take k).length = k := by rw [List.length_take]; omega
        have hql : (r.drop k).length = r.length - k := List.length_drop
        have hpn := num_lt hp
        rw [hpl] at hpn
        have hk10 : 10 ^ k ≤ 10 ^ 9 := Nat.pow_le_pow_right (by decide) k9
        rw [show (10 : Nat) ^ 9 = 1000000000 by rfl] at hk10
        have hpar : Lib.parseUintB 32 (r.take k) = .ok (num (r.take k)) := by
          have hne : r.take k ≠ [] := fun h => by rw [h] at hpl; simp at hpl; omega
          rw [Lib.parseUintB, if_neg hne]
          refine parse_num _ (by decide) _ 0 hp ?_
          rw [hpl]; omega
        have hP := parseUint_px (G := G) (r.take k) (by rw [hpl]; omega) (num (r.take k)) hpar
        have hO1 := nat_Of_px (G := G) 1000000000 (by decide)
        have hO2 := nat_Of_px (G := G) (num (r.take k)) (by omega)
        have hd9 : dl 4294967296 1000000000 ≤ 1 := (dl_le_iff (by decide)).2 (by decide)
        have hM := nat_Mul_px (G := G) a 1000000000 (by omega) (by omega)
        have hdm := dl_mul (B := 4294967296) (by decide) a 1000000000
        have hdp : dl 4294967296 (num (r.take k)) ≤ 1 := (dl_le_iff (by decide)).2 (by omega)
        have hA := nat_Add_px (G := G) (a * 1000000000) (num (r.take k)) (by omega) (by omega)
        have hnx : numF (a * 1000000000 + num (r.take k)) (r.drop k) = num s := by
          rw [← hv]
          conv => rhs; rw [← List.take_append_drop k r, numF_append, numF_eq (r.take k) a, hpl]
          rcases hk with hk | hk
          · rw [hk.2, Nat.zero_mul, Nat.zero_mul]
          · rw [hk.1]
        simp (maxSteps := 2000000) only [↓avp, ↓avmD, avq, ↓reduceIte, Nat.reduceAdd, Nat.reduceMul, Nat.reduceSub, Nat.reduceLT, Nat.reduceLeDiff, Nat.reduceEqDiff, Nat.reducePow, Nat.reduceMod, c2, n2, c3]
        refine ⟨kr, ?_⟩
        repeat ((first | refine hP.call ?_ | refine hO1.call ?_ | refine hM.call ?_ | refine hO2.call ?_); simp (maxSteps := 2000000) only [↓avp, ↓avmD, avq, ↓reduceIte, Nat.reduceAdd, Nat.reduceMul, Nat.reduceSub, Nat.reduceLT, Nat.reduceLeDiff, Nat.reduceEqDiff, Nat.reducePow, Nat.reduceMod])
        refine hA.call ?_
        have htk : (r.drop k).take (r.length - k) = r.drop k := List.take_of_length_le (by rw [hql]; exact Nat.le_refl _)
        simp (maxSteps := 2000000) only [↓avp, ↓avmD, avq, ↓reduceIte, Nat.reduceAdd, Nat.reduceMul, Nat.reduceSub, Nat.reduceLT, Nat.reduceLeDiff, Nat.reduceEqDiff, Nat.reducePow, Nat.reduceMod, kr, htk]
        exact LN.next (r.drop k, a * 1000000000 + num (r.take k), 9) [0, 4, 5] ⟨hq, hnx, by simp only [hql]; omega, .inr ⟨rfl, by simp only [hql]; omega⟩⟩ (by simp only [hql]; rw [if_neg (by decide), if_neg (by omega)]; omega) rfl
      · have k0 : k = 0 := by omega
        subst k0
        simp (maxSteps := 2000000) only [↓avp, ↓avmD, avq, ↓reduceIte, Nat.reduceAdd, Nat.reduceMul, Nat.reduceSub, Nat.reduceLT, Nat.reduceLeDiff, Nat.reduceEqDiff, Nat.reducePow, Nat.reduceMod, c2, n2, c3]
        exact LN.next (r, a, 9) [0, 4, 5] ⟨hr, hv, hl, .inr ⟨rfl, by simp only; omega⟩⟩ (by simp) rfl
  · simp only [ir_nat_Get, sX, mX, initF, List.replicate, Nat.reduceAdd, Nat.reduceSub, iv, avmL]
    simp (maxSteps := 2000000) only [↓avp, ↓avmD, avq, ↓reduceIte, Nat.reduceAdd, Nat.reduceMul, Nat.reduceSub, Nat.reduceLT, Nat.reduceLeDiff, Nat.reduceEqDiff, Nat.reducePow, Nat.reduceMod, e1, h2', h4, hl0, n1, n2]
    repeat ((first | refine hT.call ?_ | refine hN.call ?_); simp (maxSteps := 2000000) only [↓avp, ↓avmD, avq, ↓reduceIte, Nat.reduceAdd, Nat.reduceMul, Nat.reduceSub, Nat.reduceLT, Nat.reduceLeDiff, Nat.reduceEqDiff, Nat.reducePow, Nat.reduceMod, e2, n1, n2])
    refine loop_of (fun c : List UInt8 × Nat × Nat => ⟨[.str c.1,J,J,J,natV c.2.1,.int .i64 c.2.2,J,J,J,J,J,J,J,J,J,J,J,J,J,J,J,J,J,J,J,J,J,J,J,J,J,J,J,J,J,J,J,J,J,J,J,J,J,J,J,J,J,J,J,J,J,J,J,J,J], []⟩)
      (fun c => c.1.all isDg = true ∧ numF c.2.1 c.1 = num s ∧ c.1.length ≤ s.length ∧ (c.2.2 = c.1.length % 9 ∧ c.2.1 = 0 ∨ c.2.2 = 9 ∧ c.1.length % 9 = 0)) (fun c => 2 * c.1.length + (if c.2.2 = 0 then 1 else 0)) (s, 0, s.length % 9) [0, 4, 5] ?_ ⟨ha, rfl, Nat.le_refl _, .inl ⟨rfl, rfl⟩⟩ ?_
    · rfl
    rintro ⟨r, a, k⟩ ⟨hr, hv, hl, hk⟩
    simp only at hr hv hl hk
    have hnl := num_lt ha
    have hale : a ≤ num s := by
      rw [← hv, numF_eq]
      exact Nat.le_trans (Nat.le_mul_of_pos_right a (Nat.pow_pos (by decide))) (Nat.le_add_right _ _)
    have hda := dl_small (Nat.lt_of_le_of_lt hale hnl)
    by_cases c1 : r = []
    · subst c1
      have c2 : num s = a := hv.symm
      simp (maxSteps := 2000000) only [↓avp, ↓avmD, avq, ↓reduceIte, Nat.reduceAdd, Nat.reduceMul, Nat.reduceSub, Nat.reduceLT, Nat.reduceLeDiff, Nat.reduceEqDiff, Nat.reducePow, Nat.reduceMod, e2, n1]
      refine ret_now ?_
      simp (maxSteps := 2000000) only [↓avp, ↓avmD, avq, ↓reduceIte, Nat.reduceAdd, Nat.reduceMul, Nat.reduceSub, Nat.reduceLT, Nat.reduceLeDiff, Nat.reduceEqDiff, Nat.reducePow, Nat.reduceMod, natV, slV]
      rw [c2]
    · have c2 : (r == []) = false := by cases r with | nil => exact absurd rfl c1 | cons a b => rfl
      by_cases c3 : 0 < k
      · have k9 : k ≤ 9 := by omega
        have hrl : 0 < r.length := List.length_pos_iff.2 c1
        have kr : k ≤ r.length := by
          have := Nat.mod_le r.length 9
          omega
        have hp : (r.take k).all isDg = true := by
          rw [List.all_eq_true] at hr ⊢
          exact fun c hc => hr c (List.mem_of_mem_take hc)
        have hq : (r.drop k).all isDg = true := by
          rw [List.all_eq_true] at hr ⊢
          exact fun c hc => hr c (List.mem_of_mem_drop hc)
        have hpl : (r.take k).length = k := by rw [List.length_take]; omega
        have hql : (r.drop k).length = r.length - k := List.length_drop
        have hpn := num_lt hp
        rw [hpl] at hpn
        have hk10 : 10 ^ k ≤ 10 ^ 9 := Nat.pow_le_pow_right (by decide) k9
        rw [show (10 : Nat) ^ 9 = 1000000000 by rfl] at hk10
        have hpar : Lib.parseUintB 32 (r.take k) = .ok (num (r.take k)) := by
          have hne : r.take k ≠ [] := fun h => by rw [h] at hpl; simp at hpl; omega
          rw [Lib.parseUintB, if_neg hne]
          refine parse_num _ (by decide) _ 0 hp ?_
          rw [hpl]; omega
        have hP := parseUint_px (G := G) (r.take k) (by rw [hpl]; omega) (num (r.take k)) hpar
        have hO1 := nat_Of_px (G := G) 1000000000 (by decide)
        have hO2 := nat_Of_px (G := G) (num (r.take k)) (by omega)
        have hd9 : dl 4294967296 1000000000 ≤ 1 := (dl_le_iff (by decide)).2 (by decide)
        have hM := nat_Mul_px (G := G) a 1000000000 (by omega) (by omega)
        have hdm := dl_mul (B := 4294967296) (by decide) a 1000000000
        have hdp : dl 4294967296 (num (r.take k)) ≤ 1 := (dl_le_iff (by decide)).2 (by omega)
        have hA := nat_Add_px (G := G) (a * 1000000000) (num (r.take k)) (by omega) (by omega)
        have hnx : numF (a * 1000000000 + num (r.take k)) (r.drop k) = num s := by
          rw [← hv]
          conv => rhs; rw [← List.take_append_drop k r, numF_append, numF_eq (r.take k) a, hpl]
          rcases hk with hk | hk
          · rw [hk.2, Nat.zero_mul, Nat.zero_mul]
          · rw [hk.1]
        simp (maxSteps := 2000000) only [↓avp, ↓avmD, avq, ↓reduceIte, Nat.reduceAdd, Nat.reduceMul, Nat.reduceSub, Nat.reduceLT, Nat.reduceLeDiff, Nat.reduceEqDiff, Nat.reducePow, Nat.reduceMod, c2, n2, c3]
        refine ⟨kr, ?_⟩
        repeat ((first | refine hP.call ?_ | refine hO1.call ?_ | refine hM.call ?_ | refine hO2.call ?_); simp (maxSteps := 2000000) only [↓avp, ↓avmD, avq, ↓reduceIte, Nat.reduceAdd, Nat.reduceMul, Nat.reduceSub, Nat.reduceLT, Nat.reduceLeDiff, Nat.reduceEqDiff, Nat.reducePow, Nat.reduceMod])
        refine hA.call ?_
        have htk : (r.drop k).take (r.length - k) = r.drop k := List.take_of_length_le (by rw [hql]; exact Nat.le_refl _)
        simp (maxSteps := 2000000) only [↓avp, ↓avmD, avq, ↓reduceIte, Nat.reduceAdd, Nat.reduceMul, Nat.reduceSub, Nat.reduceLT, Nat.reduceLeDiff, Nat.reduceEqDiff, Nat.reducePow, Nat.reduceMod, kr, htk]
        exact LN.next (r.drop k, a * 1000000000 + num (r.take k), 9) [0, 4, 5] ⟨hq, hnx, by simp only [hql]; omega, .inr ⟨rfl, by simp only [hql]; omega⟩⟩ (by simp only [hql]; rw [if_neg (by decide), if_neg (by omega)]; omega) rfl
      · have k0 : k = 0 := by omega
        subst k0
        simp (maxSteps := 2000000) only [↓avp, ↓avmD, avq, ↓reduceIte, Nat.reduceAdd, Nat.reduceMul, Nat.reduceSub, Nat.reduceLT, Nat.reduceLeDiff, Nat.reduceEqDiff, Nat.reducePow, Nat.reduceMod, c2, n2, c3]
        exact LN.next (r, a, 9) [0, 4, 5] ⟨hr, hv, hl, .inr ⟨rfl, by simp only; omega⟩⟩ (by simp) rfl
end Va
/- The laws' own helpers: texts cut, digits picked, naturals read twice. -/
set_option linter.unusedSimpArgs false
set_option linter.unusedVariables false
set_option maxRecDepth 100000
set_option maxHeartbeats 8000000
open Go Go.Avm
namespace Va
attribute [local irreducible] ACallF FCallF
variable {G : Glob}
theorem law1_Text_px (s : List UInt8) (n : Nat) : PX P G n_law1_Text [.str s, .int .i64 n] (.str (s.take n)) := by
  refine PX_of_awp low_law1_Text fol (by simp only [avmF, and_true]) (by simp only [avmF]) ?_
  have h1 : min s.length n ≤ s.length := Nat.min_le_left _ _
  simp only [ir_law1_Text, sX, mX, initF, List.replicate, Nat.reduceAdd, Nat.reduceSub, iv, avmL]
  simp (maxSteps := 2000000) only [↓avp, ↓avmD, avq, ↓reduceIte, Nat.reduceAdd, Nat.reduceMul, Nat.reduceSub, Nat.reduceLT, Nat.reduceLeDiff, Nat.reduceEqDiff, Nat.reducePow, Nat.reduceMod, h1]
  refine ret_now ?_
  simp (maxSteps := 2000000) only [↓avp, ↓avmD, avq, ↓reduceIte, Nat.reduceAdd, Nat.reduceMul, Nat.reduceSub, Nat.reduceLT, Nat.reduceLeDiff, Nat.reduceEqDiff, Nat.reducePow, Nat.reduceMod]
  by_cases h : n ≤ s.length
  · rw [Nat.min_eq_right h]
  · rw [Nat.min_eq_left (by omega), List.take_length, List.take_of_length_le (by omega)]
/-- Digits picked out of a text. -/
def dgo (n : Nat) : List UInt8 → List UInt8 → List UInt8
  | [], t => t
  | c :: s, t => if t.length < n then dgo n s (if isDg c = true ∧ (t ≠ [] ∨ c ≠ 48) then t ++ [c] else t) else t
def digS (s : List UInt8) (n : Nat) : List UInt8 := if dgo n s [] = [] then [48] else dgo n s []
theorem dgo_ok (n : Nat) : ∀ (s t : List UInt8), (t.all isDg = true ∧ t.head? ≠ some 48 ∧ t.length ≤ n) → (dgo n s t).all isDg = true ∧ (dgo n s t).head? ≠ some 48 ∧ (dgo n s t).length ≤ n
  | [], t, h => h
  | c :: s, t, ⟨h1, h2, h3⟩ => by
    rw [dgo]
    split
    · next hl =>
      refine dgo_ok n s _ ?_
      split
      · next hc =>
        refine ⟨by rw [List.all_append, h1]; simpa using hc.1, ?_, by simp; omega⟩
        cases t with
        | nil => simp; simpa using hc.2
        | cons a b => simpa using h2
      · exact ⟨h1, h2, h3⟩
    · exact ⟨h1, h2, h3⟩
theorem digS_ok (s : List UInt8) {n : Nat} (h0 : 1 ≤ n) (hn : n ≤ 2000) : okN (digS s n) = true ∧ (digS s n).length ≤ n := by
  have h := dgo_ok n s [] ⟨rfl, by simp, by simp⟩
  unfold digS
  split
  · exact ⟨rfl, h0⟩
  · next hne =>
    refine ⟨?_, h.2.2⟩
    have h5 : (decide (1 < (dgo n s []).length) && decide ((dgo n s []).head? = some 48)) = false := by
      rw [decide_eq_false h.2.1, Bool.and_false]
    have h6 : (dgo n s []).length ≤ 2000 := by omega
    unfold okN
    rw [h5, h.1]
    simp [hne, h6]
theorem law1_Digits_px (s : List UInt8) (n : Nat) (hs : s.length ≤ 9223372036854775807) (hn : n ≤ 100000) : PX P G n_law1_Digits [.str s, .int .i64 n] (.str (digS s n)) := by
  refine PX_of_awp low_law1_Digits fol (by simp only [avmF, and_true]) (by simp only [avmF]) ?_
  have n1 : (!true) = false := rfl
  have n2 : (!false) = true := rfl
  have e0 : (([] : List UInt8) == []) = true := rfl
  simp only [ir_law1_Digits, sX, mX, initF, List.replicate, Nat.reduceAdd, Nat.reduceSub, iv, avmL]
  simp (maxSteps := 2000000) only [↓avp, ↓avmD, avq, ↓reduceIte, Nat.reduceAdd, Nat.reduceMul, Nat.reduceSub, Nat.reduceLT, Nat.reduceLeDiff, Nat.reduceEqDiff, Nat.reducePow, Nat.reduceMod]
  refine loop_of (fun c : Nat × List UInt8 => ⟨[.str s,.int .i64 n,J,J,J,.str c.2,.int .i64 c.1,J,J,J,J,J,J,J,J,J,J,J,J,J,J,J,J,J,J,J,J,J,J,J,J,J,J,J,J,J,J,J,J,J,J,J,J,J,J,J,J,J,J], []⟩)
    (fun c => c.1 ≤ s.length ∧ c.2.length ≤ n ∧ dgo n (s.drop c.1) c.2 = dgo n s []) (fun c => s.length - c.1) (0, []) [0, 1, 5, 6] rfl ⟨Nat.zero_le _, Nat.zero_le _, rfl⟩ ?_
  rintro ⟨i, t⟩ ⟨hi, ht, hd⟩
  simp only at hi ht hd
  have ends : ∀ t', dgo n s [] = t' → (t' == []) = true ∧ digS s n = [48] ∨ (t' == []) = false ∧ digS s n = t' := fun t' h => by
    unfold digS
    rw [h]
    cases t' with
    | nil => exact .inl ⟨rfl, rfl⟩
    | cons a b => exact .inr ⟨rfl, by simp⟩
  by_cases h0 : i < s.length
  · have hdr := drop_at h0
    rw [hdr, dgo] at hd
    by_cases h1 : t.length < n
    · rw [if_pos h1] at hd
      obtain ⟨c, hc⟩ : ∃ c, c = (s.getD i 0).toNat := ⟨_, rfl⟩
      have w1 : IntKind.i64.wrap ((i + 1 : Nat) : Int) = ((i + 1 : Nat) : Int) := wi64 (by omega)
      have hc48 : (s.getD i 0 ≠ 48) ↔ c ≠ 48 := by
        rw [hc]
        exact ⟨fun h e => h (UInt8.toNat_inj.1 e), fun h e => h (by rw [e]; rfl)⟩
      have hdg : isDg (s.getD i 0) = true ↔ (48 ≤ c ∧ c ≤ 57) := by rw [hc]; simp [isDg]
      by_cases c1 : 48 ≤ c
      · by_cases c2 : c ≤ 57
        · have q1 : i + 1 ≤ s.length := h0
          have q2 : i ≤ i + 1 := by omega
          have q3 : i + 1 - i = 1 := by omega
          have tk : (s.drop i).take 1 = [s.getD i 0] := by rw [hdr]; rfl
          have l1 : t.length + 1 ≤ 9223372036854775807 := by omega
          by_cases c3 : t = []
          · have e1 : (t == []) = true := by rw [c3]; rfl
            by_cases c4 : c = 48
            · have e2 : (c ≠ 48) = False := by simp [c4]
              rw [if_neg (by rw [hdg, hc48]; rintro ⟨_, h | h⟩; exact h c3; exact h c4)] at hd
              simp (maxSteps := 2000000) only [↓avp, ↓avmD, avq, ↓reduceIte, Nat.reduceAdd, Nat.reduceMul, Nat.reduceSub, Nat.reduceLT, Nat.reduceLeDiff, Nat.reduceEqDiff, Nat.reducePow, Nat.reduceMod, h0, h1, ← hc, c1, c2, e1, e2, n1, n2, w1]
              exact LN.next (i + 1, t) [0, 1, 5, 6] ⟨q1, ht, hd⟩ (by simp only; omega) rfl
            · have e2 : (c ≠ 48) = True := by simp [c4]
              rw [if_pos ⟨hdg.2 ⟨c1, c2⟩, .inr (hc48.2 c4)⟩] at hd
              simp (maxSteps := 2000000) only [↓avp, ↓avmD, avq, ↓reduceIte, Nat.reduceAdd, Nat.reduceMul, Nat.reduceSub, Nat.reduceLT, Nat.reduceLeDiff, Nat.reduceEqDiff, Nat.reducePow, Nat.reduceMod, h0, h1, ← hc, c1, c2, e1, e2, n1, n2, w1, q1, q2, q3, tk, List.length_cons, List.length_nil, l1]
              exact LN.next (i + 1, t ++ [s.getD i 0]) [0, 1, 5, 6] ⟨q1, by simp; omega, hd⟩ (by simp only; omega) rfl
          · have e1 : (t == []) = false := by cases t with | nil => exact absurd rfl c3 | cons a b => rfl
            rw [if_pos ⟨hdg.2 ⟨c1, c2⟩, .inl c3⟩] at hd
            simp (maxSteps := 2000000) only [↓avp, ↓avmD, avq, ↓reduceIte, Nat.reduceAdd, Nat.reduceMul, Nat.reduceSub, Nat.reduceLT, Nat.reduceLeDiff, Nat.reduceEqDiff, Nat.reducePow, Nat.reduceMod, h0, h1, ← hc, c1, c2, e1, n1, n2, w1, q1, q2, q3, tk, List.length_cons, List.length_nil, l1]
            exact LN.next (i + 1, t ++ [s.getD i 0]) [0, 1, 5, 6] ⟨q1, by simp; omega, hd⟩ (by simp only; omega) rfl
        · rw [if_neg (by rw [hdg]; omega)] at hd
          simp (maxSteps := 2000000) only [↓avp, ↓avmD, avq, ↓reduceIte, Nat.reduceAdd, Nat.reduceMul, Nat.reduceSub, Nat.reduceLT, Nat.reduceLeDiff, Nat.reduceEqDiff, Nat.reducePow, Nat.reduceMod, h0, h1, ← hc, c1, c2, n1, n2, w1]
          exact LN.next (i + 1, t) [0, 1, 5, 6] ⟨h0, ht, hd⟩ (by simp only; omega) rfl
      · rw [if_neg (by rw [hdg]; omega)] at hd
        simp (maxSteps := 2000000) only [↓avp, ↓avmD, avq, ↓reduceIte, Nat.reduceAdd, Nat.reduceMul, Nat.reduceSub, Nat.reduceLT, Nat.reduceLeDiff, Nat.reduceEqDiff, Nat.reducePow, Nat.reduceMod, h0, h1, ← hc, c1, n1, n2, w1]
        exact LN.next (i + 1, t) [0, 1, 5, 6] ⟨h0, ht, hd⟩ (by simp only; omega) rfl
    · rw [if_neg h1] at hd
      rcases ends t hd.symm with ⟨e1, e2⟩ | ⟨e1, e2⟩
      · simp (maxSteps := 2000000) only [↓avp, ↓avmD, avq, ↓reduceIte, Nat.reduceAdd, Nat.reduceMul, Nat.reduceSub, Nat.reduceLT, Nat.reduceLeDiff, Nat.reduceEqDiff, Nat.reducePow, Nat.reduceMod, h0, h1, e1]
        refine ret_now ?_
        simp (maxSteps := 2000000) only [↓avp, ↓avmD, avq, ↓reduceIte, Nat.reduceAdd, Nat.reduceMul, Nat.reduceSub, Nat.reduceLT, Nat.reduceLeDiff, Nat.reduceEqDiff, Nat.reducePow, Nat.reduceMod, e2]
      · simp (maxSteps := 2000000) only [↓avp, ↓avmD, avq, ↓reduceIte, Nat.reduceAdd, Nat.reduceMul, Nat.reduceSub, Nat.reduceLT, Nat.reduceLeDiff, Nat.reduceEqDiff, Nat.reducePow, Nat.reduceMod, h0, h1, e1]
        refine ret_now ?_
        simp (maxSteps := 2000000) only [↓avp, ↓avmD, avq, ↓reduceIte, Nat.reduceAdd, Nat.reduceMul, Nat.reduceSub, Nat.reduceLT, Nat.reduceLeDiff, Nat.reduceEqDiff, Nat.reducePow, Nat.reduceMod, e2]
  · have hdn : s.drop i = [] := List.drop_eq_nil_of_le (by omega)
    rw [hdn, dgo] at hd
    rcases ends t hd.symm with ⟨e1, e2⟩ | ⟨e1, e2⟩
    · simp (maxSteps := 2000000) only [↓avp, ↓avmD, avq, ↓reduceIte, Nat.reduceAdd, Nat.reduceMul, Nat.reduceSub, Nat.reduceLT, Nat.reduceLeDiff, Nat.reduceEqDiff, Nat.reducePow, Nat.reduceMod, h0, e1]
      refine ret_now ?_
      simp (maxSteps := 2000000) only [↓avp, ↓avmD, avq, ↓reduceIte, Nat.reduceAdd, Nat.reduceMul, Nat.reduceSub, Nat.reduceLT, Nat.reduceLeDiff, Nat.reduceEqDiff, Nat.reducePow, Nat.reduceMod, e2]
    · simp (maxSteps := 2000000) only [↓avp, ↓avmD, avq, ↓reduceIte, Nat.reduceAdd, Nat.reduceMul, Nat.reduceSub, Nat.reduceLT, Nat.reduceLeDiff, Nat.reduceEqDiff, Nat.reducePow, Nat.reduceMod, h0, e1]
      refine ret_now ?_
      simp (maxSteps := 2000000) only [↓avp, ↓avmD, avq, ↓reduceIte, Nat.reduceAdd, Nat.reduceMul, Nat.reduceSub, Nat.reduceLT, Nat.reduceLeDiff, Nat.reduceEqDiff, Nat.reducePow, Nat.reduceMod, e2]
/-- The natural of a drawn text. -/
def nv (s : List UInt8) : Nat := num (digS s 120)
theorem nv_lt (s : List UInt8) : nv s < 10 ^ 120 := by
  obtain ⟨h1, h2⟩ := digS_ok s (n := 120) (by decide) (by decide)
  simp only [okN, Bool.and_eq_true] at h1
  have := num_lt h1.2
  exact Nat.lt_of_lt_of_le this (Nat.pow_le_pow_right (by decide) h2)
theorem nv_dl (s : List UInt8) : dl 4294967296 (nv s) ≤ 120 := dl_small (nv_lt s)
theorem law1_N_px (s : List UInt8) (hs : s.length ≤ 9223372036854775807) : PX P G n_law1_N [.str s] (.tup [natV (nv s), refV (nv s)]) := by
  refine PX_of_awp low_law1_N fol (by simp only [avmF, and_true]) (by simp only [avmF, natV, refV, and_true]) ?_
  obtain ⟨h1, h2⟩ := digS_ok s (n := 120) (by decide) (by decide)
  have hD := law1_Digits_px (G := G) s 120 hs (by decide)
  have hG1 := nat_Get_yes (G := G) (digS s 120) h1
  have hG2 := ref_GetN_px (G := G) (digS s 120) (by omega)
  rw [h1, if_pos rfl] at hG2
  simp only [ir_law1_N, sX, mX, initF, List.replicate, Nat.reduceAdd, Nat.reduceSub, iv, avmL]
  simp (maxSteps := 2000000) only [↓avp, ↓avmD, avq, ↓reduceIte, Nat.reduceAdd, Nat.reduceMul, Nat.reduceSub, Nat.reduceLT, Nat.reduceLeDiff, Nat.reduceEqDiff, Nat.reducePow, Nat.reduceMod]
  repeat ((first | refine hD.call ?_ | refine hG1.call ?_ | refine hG2.call ?_); simp (maxSteps := 2000000) only [↓avp, ↓avmD, avq, ↓reduceIte, Nat.reduceAdd, Nat.reduceMul, Nat.reduceSub, Nat.reduceLT, Nat.reduceLeDiff, Nat.reduceEqDiff, Nat.reducePow, Nat.reduceMod])
  refine ret_now ?_
  simp (maxSteps := 2000000) only [↓avp, ↓avmD, avq, ↓reduceIte, Nat.reduceAdd, Nat.reduceMul, Nat.reduceSub, Nat.reduceLT, Nat.reduceLeDiff, Nat.reduceEqDiff, Nat.reducePow, Nat.reduceMod, nv]
end Va
/- Small laws that several of the given laws share. -/
set_option linter.unusedSimpArgs false
set_option linter.unusedVariables false
set_option maxRecDepth 100000
set_option maxHeartbeats 8000000
open Go Go.Avm
namespace Va
attribute [local irreducible] ACallF FCallF
variable {G : Glob}
theorem dlr {n K : Nat} (h : n < 10 ^ K) : dl 10000 n ≤ K := (dl_le_iff (by decide)).2 (Nat.lt_of_lt_of_le h (Nat.pow_le_pow_left (by decide) _))
theorem txt_len {n K : Nat} (h : n < 10 ^ K) (hK : 0 < K) : (txt n).length ≤ K := by
  by_cases h0 : n = 0
  · subst h0; exact hK
  · rw [txt_pos h0, ptxt_length]; exact (dl_le_iff (by decide)).2 h
theorem two_ten {n K : Nat} (h : n < 2 ^ K) : n < 10 ^ K := Nat.lt_of_lt_of_le h (Nat.pow_le_pow_left (by decide) _)
theorem cmpI_eq (a : Nat) : cmpI a a = ((0 : Nat) : Int) := by simp [cmpI]
theorem beq_txt (s : List UInt8) : (s == s) = true := by simp
theorem beq_txt_ne {s t : List UInt8} (h : s ≠ t) : (s == t) = false := by simpa using h
theorem txt_zero : txt 0 = [48] := rfl
theorem nat_Text_zero (hG : GOK G) : PX P G n_nat_Nat_Text [natV 0] (.str [48]) := nat_Text_px hG 0 (by rw [dl_zero]; decide)
theorem shN_up (n k : Nat) (hk : k ≤ 100000) : shN n (k : Int) = n * 2 ^ k := by
  rw [shN, if_neg (by omega), if_neg (by omega), Int.toNat_natCast]
theorem shN_far (n k : Nat) (hk : 100000 < k) : shN n (k : Int) = 0 ∧ shN n (-(k : Int)) = 0 := by
  refine ⟨?_, ?_⟩
  · rw [shN, if_pos (.inl (by omega))]
  · rw [shN, if_pos (.inr (by omega))]
theorem shN_down (n k : Nat) (hk : k ≤ 100000) : shN n (-(k : Int)) = n / 2 ^ k := by
  rw [shN, if_neg (by omega)]
  rcases Nat.eq_zero_or_pos k with rfl | h
  · simp
  · rw [if_pos (by omega), Int.neg_neg, Int.toNat_natCast]
theorem dl_up (n k : Nat) : dl 4294967296 (n * 2 ^ k) ≤ dl 4294967296 n + k + 1 := by
  have h1 := dl_mul (B := 4294967296) (by decide) n (2 ^ k)
  have h2 : dl 4294967296 (2 ^ k) ≤ k + 1 := (dl_le_iff (by decide)).2 (by
    refine Nat.lt_of_lt_of_le (Nat.pow_lt_pow_right (by decide) (Nat.lt_succ_self k)) ?_
    exact Nat.pow_le_pow_left (by decide) _)
  omega
/-- Up and down again. -/
theorem up_back (n k : Nat) (hk : k ≤ 100000) (hn : dl 4294967296 n ≤ 100000) : ∃ M, dl 4294967296 M ≤ 1000000 ∧ PX P G n_nat_Nat_Shl [natV n, .int .i64 (k : Int)] (natV M) ∧ PX P G n_nat_Nat_Shr [natV M, .int .i64 (k : Int)] (natV n) := by
  have h1 := dl_up n k
  refine ⟨n * 2 ^ k, by omega, ?_, ?_⟩
  · have h := nat_Shl_px (G := G) n (k : Int) (by omega)
    rwa [shN_up n k hk] at h
  · have h := nat_Shr_px (G := G) (n * 2 ^ k) (k : Int) (by omega)
    rwa [shN_down _ k hk, Nat.mul_div_cancel _ (Nat.pow_pos (by decide))] at h
theorem nat_Div_zero (a : Nat) : PX P G n_nat_Nat_Div [natV a, natV 0] (.tup [.nilp, .nilp, .bool false]) := by
  refine PX_of_awp low_nat_Nat_Div fol (by simp only [avmF, natV, and_true]) (by simp only [avmF, and_true]) ?_
  have dB := nat_digits_px (G := G) 0
  have e : (dig 4294967296 0).length = 0 := dl_zero _
  unfold slV at dB
  rw [e] at dB
  simp only [ir_nat_Nat_Div, sX, mX, initF, List.replicate, Nat.reduceAdd, Nat.reduceSub, iv, avmL]
  simp (maxSteps := 2000000) only [↓avp, ↓avmD, avq, ↓reduceIte, Nat.reduceAdd, Nat.reduceMul, Nat.reduceSub, Nat.reduceLT, Nat.reduceLeDiff, Nat.reduceEqDiff, Nat.reducePow, Nat.reduceMod]
  refine dB.call ?_
  simp (maxSteps := 2000000) only [↓avp, ↓avmD, avq, ↓reduceIte, Nat.reduceAdd, Nat.reduceMul, Nat.reduceSub, Nat.reduceLT, Nat.reduceLeDiff, Nat.reduceEqDiff, Nat.reducePow, Nat.reduceMod]
  refine ret_now ?_
  simp (maxSteps := 2000000) only [↓avp, ↓avmD, avq, ↓reduceIte, Nat.reduceAdd, Nat.reduceMul, Nat.reduceSub, Nat.reduceLT, Nat.reduceLeDiff, Nat.reduceEqDiff, Nat.reducePow, Nat.reduceMod]
theorem nat_Word_nil : PX P G n_nat_Nat_Word [.nilp] (.tup [.int .u64 ((0 : Nat) : Int), .bool true]) := by
  refine PX_of_awp low_nat_Nat_Word fol (by simp only [avmF, and_true]) (by simp only [avmF, and_true]) ?_
  have dB := nat_digits_nil (G := G)
  unfold slV at dB
  simp only [ir_nat_Nat_Word, sX, mX, initF, List.replicate, Nat.reduceAdd, Nat.reduceSub, iv, avmL]
  simp (maxSteps := 2000000) only [↓avp, ↓avmD, avq, ↓reduceIte, Nat.reduceAdd, Nat.reduceMul, Nat.reduceSub, Nat.reduceLT, Nat.reduceLeDiff, Nat.reduceEqDiff, Nat.reducePow, Nat.reduceMod]
  refine dB.call ?_
  simp (maxSteps := 2000000) only [↓avp, ↓avmD, avq, ↓reduceIte, Nat.reduceAdd, Nat.reduceMul, Nat.reduceSub, Nat.reduceLT, Nat.reduceLeDiff, Nat.reduceEqDiff, Nat.reducePow, Nat.reduceMod, List.length_nil]
  refine loop_of (fun _ : Unit => ⟨[J,J,J,J,.int .u64 ((0 : Nat) : Int),J,J,J,J,J,J,J,J,.sl 0 [],.int .i64 ((0 : Nat) : Int),.int .i64 ((0 : Nat) : Int),J,J,J,J,J,J,J,J,J,J,J,J,J], []⟩)
    (fun _ => True) (fun _ => 0) () [4, 13, 14, 15] rfl trivial ?_
  rintro _ _
  simp (maxSteps := 2000000) only [↓avp, ↓avmD, avq, ↓reduceIte, Nat.reduceAdd, Nat.reduceMul, Nat.reduceSub, Nat.reduceLT, Nat.reduceLeDiff, Nat.reduceEqDiff, Nat.reducePow, Nat.reduceMod, Nat.lt_irrefl]
  refine ret_now ?_
  simp (maxSteps := 2000000) only [↓avp, ↓avmD, avq, ↓reduceIte, Nat.reduceAdd, Nat.reduceMul, Nat.reduceSub, Nat.reduceLT, Nat.reduceLeDiff, Nat.reduceEqDiff, Nat.reducePow, Nat.reduceMod]
theorem nat_Gcd_nil (a : Nat) (ha : dl 4294967296 a ≤ 900000000) : PX P G n_nat_Nat_Gcd [natV a, .nilp] (natV a) := by
  refine PX_of_awp low_nat_Nat_Gcd fol (by simp only [avmF, natV, and_true]) (by simp only [avmF, natV, and_true]) ?_
  have wx := nat_Word_px (G := G) a (by omega)
  have wy := nat_Word_nil (G := G)
  have dx := nat_digits_px (G := G) a
  have dy := nat_digits_nil (G := G)
  unfold slV at dy
  have hOx := nat_of_px (G := G) (dig 4294967296 a) (dig_lt (by decide) a)
  rw [val_dig (by decide)] at hOx
  simp only [ir_nat_Nat_Gcd, sX, mX, initF, List.replicate, Nat.reduceAdd, Nat.reduceSub, iv, avmL]
  simp (maxSteps := 2000000) only [↓avp, ↓avmD, avq, ↓reduceIte, Nat.reduceAdd, Nat.reduceMul, Nat.reduceSub, Nat.reduceLT, Nat.reduceLeDiff, Nat.reduceEqDiff, Nat.reducePow, Nat.reduceMod]
  refine loop_of (fun _ : Unit => ⟨[J,J,J,J,J,natV a,.nilp,J,J,J,J,J,J,J,J,J,J,J,J,J,J,J,J,J,J,J,J,J,J,J,J,J,J,J,J,J,J,J,J,J,J,J,J,J,J,J,J,J,J,J,J,J,J,J,J,J,J,J,J,J], []⟩) (fun _ => True) (fun _ => 0) () [5, 6] rfl trivial ?_
  rintro _ _
  by_cases h1 : a < 18446744073709551616
  · rw [if_pos h1] at wx
    have hCo := nat_common_px (G := G) a 0 h1 (by decide)
    rw [Nat.gcd_zero_right] at hCo
    have hOf := nat_Of_px (G := G) a h1
    simp (maxSteps := 2000000) only [↓avp, ↓avmD, avq, ↓reduceIte, Nat.reduceAdd, Nat.reduceMul, Nat.reduceSub, Nat.reduceLT, Nat.reduceLeDiff, Nat.reduceEqDiff, Nat.reducePow, Nat.reduceMod]
    repeat ((first | refine wx.call ?_ | refine wy.call ?_ | refine hCo.call ?_ | refine hOf.call ?_); simp (maxSteps := 2000000) only [↓avp, ↓avmD, avq, ↓reduceIte, Nat.reduceAdd, Nat.reduceMul, Nat.reduceSub, Nat.reduceLT, Nat.reduceLeDiff, Nat.reduceEqDiff, Nat.reducePow, Nat.reduceMod])
    refine ret_now ?_
    simp (maxSteps := 2000000) only [↓avp, ↓avmD, avq, ↓reduceIte, Nat.reduceAdd, Nat.reduceMul, Nat.reduceSub, Nat.reduceLT, Nat.reduceLeDiff, Nat.reduceEqDiff, Nat.reducePow, Nat.reduceMod, natV, slV]
  · rw [if_neg h1] at wx
    simp (maxSteps := 2000000) only [↓avp, ↓avmD, avq, ↓reduceIte, Nat.reduceAdd, Nat.reduceMul, Nat.reduceSub, Nat.reduceLT, Nat.reduceLeDiff, Nat.reduceEqDiff, Nat.reducePow, Nat.reduceMod]
    repeat ((first | refine wx.call ?_ | refine wy.call ?_ | refine dy.call ?_ | refine dx.call ?_ | refine hOx.call ?_); simp (maxSteps := 2000000) only [↓avp, ↓avmD, avq, ↓reduceIte, Nat.reduceAdd, Nat.reduceMul, Nat.reduceSub, Nat.reduceLT, Nat.reduceLeDiff, Nat.reduceEqDiff, Nat.reducePow, Nat.reduceMod, List.length_nil])
    refine ret_now ?_
    simp (maxSteps := 2000000) only [↓avp, ↓avmD, avq, ↓reduceIte, Nat.reduceAdd, Nat.reduceMul, Nat.reduceSub, Nat.reduceLT, Nat.reduceLeDiff, Nat.reduceEqDiff, Nat.reducePow, Nat.reduceMod, natV, slV]
end Va
