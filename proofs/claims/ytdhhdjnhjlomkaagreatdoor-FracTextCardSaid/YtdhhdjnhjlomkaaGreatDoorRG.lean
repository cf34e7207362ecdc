/- Joined texts. -/
import Derived.Test.YtdhhdjnhjlomkaaGreatDoorRA
import Derived.Test.YtdhhdjnhjlomkaaGreatDoorFE
import Derived.Test.YtdhhdjnhjlomkaaGreatDoorFN
/- The reference's numbers as texts. -/
set_option linter.unusedSimpArgs false
set_option linter.unusedVariables false
set_option maxRecDepth 100000
set_option maxHeartbeats 8000000
open Go Go.Avm
namespace Va
attribute [local irreducible] ACallF FCallF
variable {G : Glob}
theorem b2s_one (x : Nat) (hx : x < 256) (K : AV → Prop) : b2sC 1 (row .u8 (List.take 1 ((List.replicate 1 0).set 0 x))) K = K (.str [UInt8.ofNat x]) := by
  rw [c_b2sC (l := [UInt8.ofNat x])]
  · simp [row]
  · simp [row, bytesL]
theorem ref_Text_px (n : Nat) (hn : dl 10000 n ≤ 1000000000) : PX P G n_ref1_N_Text [refV n] (.str (txt n)) := by
  refine PX_of_awp low_ref1_N_Text fol (by simp only [avmF, refV, and_true]) (by simp only [avmF]) ?_
  obtain ⟨len, hlen⟩ : ∃ k, k = (dig 10000 n).length := ⟨_, rfl⟩
  have hlen2 : dl 10000 n = len := hlen.symm
  by_cases h0 : len = 0
  · have hz : n = 0 := (dl_eq_zero (B := 10000) (by decide)).1 (by omega)
    have e1 : ((len : Int) = ((0 : Nat) : Int)) = True := by simp [h0]
    have e2 : (len = 0) = True := by simp [h0]
    simp only [ir_ref1_N_Text, sX, mX, initF, List.replicate, Nat.reduceAdd, Nat.reduceSub, iv, avmL, refV]
    simp (maxSteps := 2000000) only [↓avp, ↓avmD, avq, ↓reduceIte, Nat.reduceAdd, Nat.reduceMul, Nat.reduceSub, Nat.reduceLT, Nat.reduceLeDiff, Nat.reduceEqDiff, Nat.reducePow, Nat.reduceMod, slV, ← hlen, e1, e2]
    intro hl
    refine ret_now ?_
    simp (maxSteps := 2000000) only [↓avp, ↓avmD, avq, ↓reduceIte, Nat.reduceAdd, Nat.reduceMul, Nat.reduceSub, Nat.reduceLT, Nat.reduceLeDiff, Nat.reduceEqDiff, Nat.reducePow, Nat.reduceMod]
    rw [txt, if_pos hz]
    try rfl
  · have e1 : ((len : Int) = ((0 : Nat) : Int)) = False := by simp [h0]
    have e2 : (len = 0) = False := by simp [h0]
    simp only [ir_ref1_N_Text, sX, mX, initF, List.replicate, Nat.reduceAdd, Nat.reduceSub, iv, avmL, refV]
    simp (maxSteps := 2000000) only [↓avp, ↓avmD, avq, ↓reduceIte, Nat.reduceAdd, Nat.reduceMul, Nat.reduceSub, Nat.reduceLT, Nat.reduceLeDiff, Nat.reduceEqDiff, Nat.reducePow, Nat.reduceMod, slV, ← hlen, e1, e2]
    intro hl
    refine loop_of (fun c : Nat × List UInt8 => ⟨[.sl len (row .i64 (dig 10000 n)),J,J,.str c.2,.int .i64 c.1,J,J,J,J,J,J,J,J,J,J,J,J,J,J,J,J,J,J,J,J,J,J,J,J,J,J,J,J,J,J,J,J,J,J,J,J,J,J,J], []⟩)
      (fun c => c.1 ≤ len ∧ c.2 = if c.1 < len then ptxt (4 * c.1) n else txt n) (fun c => len - c.1) (0, []) [0, 3, 4] rfl ⟨Nat.zero_le _, by simp only; rw [if_pos (by omega)]; rfl⟩ ?_
    rintro ⟨i, s⟩ ⟨hi, hs⟩
    simp only at hi hs
    by_cases h1 : i < len
    · rw [if_pos h1] at hs
      subst hs
      have gA : (row .i64 (dig 10000 n)).getD i .junk = .int .i64 ((n / 10000 ^ i % 10000 : Nat) : Int) := by rw [row_getD .i64 (by omega), dig_getD (by decide)]
      have q1 : i + 1 ≤ len := h1
      simp (maxSteps := 2000000) only [↓avp, ↓avmD, avq, ↓reduceIte, Nat.reduceAdd, Nat.reduceMul, Nat.reduceSub, Nat.reduceLT, Nat.reduceLeDiff, Nat.reduceEqDiff, Nat.reducePow, Nat.reduceMod, h1, gA, ← hlen, q1, hl]
      refine loop_of (fun c : Nat => ⟨[.sl len (row .i64 (dig 10000 n)),J,J,.str (ptxt (4 * i + c) n),.int .i64 i,.int .i64 ((n / 10000 ^ i % 10000 / 10 ^ c : Nat) : Int),.int .i64 c,J,J,J,J,J,J,J,J,J,J,J,J,J,J,J,J,J,J,J,J,J,J,J,J,J,J,J,J,J,J,J,J,J,J,J,J,J], []⟩)
        (fun c => c ≤ 4 ∧ (c = 0 ∨ i + 1 < len ∨ n / 10 ^ (4 * i + c - 1) ≠ 0)) (fun c => 4 - c) 0 [0, 3, 4, 5, 6] ?_ ⟨by decide, .inl rfl⟩ ?_
      · rw [Nat.pow_zero, Nat.div_one]; rfl
      rintro k ⟨hk, hm⟩
      have w1 : IntKind.i64.wrap ((i + 1 : Nat) : Int) = ((i + 1 : Nat) : Int) := wi64 (by omega)
      have w2 : IntKind.i64.wrap ((len : Int) - ((1 : Nat) : Int)) = ((len - 1 : Nat) : Int) := by rw [wi64_in (by omega) (by omega)]; omega
      have w3 : IntKind.i64.wrap ((k + 1 : Nat) : Int) = ((k + 1 : Nat) : Int) := wi64 (by omega)
      obtain ⟨d, hd⟩ : ∃ d, d = n / 10000 ^ i % 10000 / 10 ^ k := ⟨_, rfl⟩
      have hd1 : d / 10 = n / 10000 ^ i % 10000 / 10 ^ (k + 1) := by rw [hd, Nat.div_div_eq_div_mul, Nat.pow_succ]
      have hdl : d < 10000 := by rw [hd]; exact Nat.lt_of_le_of_lt (Nat.div_le_self _ _) (Nat.mod_lt _ (by decide))
      have w4 : IntKind.i64.wrap ((d / 10 : Nat) : Int) = ((d / 10 : Nat) : Int) := wi64 (by omega)
      have w5 : IntKind.i64.wrap ((48 + d % 10 : Nat) : Int) = ((48 + d % 10 : Nat) : Int) := wi64 (by omega)
      have w6 : (48 + d % 10) % 256 = 48 + d % 10 := Nat.mod_eq_of_lt (by omega)
      rw [← hd]
      by_cases h2 : k < 4
      · have hdd : d % 10 = n / 10 ^ (4 * i + k) % 10 := by rw [hd]; exact dig4 n i h2
        have hpt : ptxt (4 * i + (k + 1)) n = UInt8.ofNat (48 + d % 10) :: ptxt (4 * i + k) n := by rw [hdd]; exact ptxt_succ _ _
        have hpt' : [UInt8.ofNat (48 + d % 10)] ++ ptxt (4 * i + k) n = ptxt (4 * i + (k + 1)) n := by rw [hpt]; rfl
        have hb2 := b2s_one (48 + d % 10) (by omega)
        by_cases h3 : i + 1 = len
        · have t1 : ((i : Int) = ((len - 1 : Nat) : Int)) = True := by simp; omega
          have t1' : (i = len - 1) = True := by simp; omega
          by_cases h4 : d = 0
          · have t2 : ((d : Int) = ((0 : Nat) : Int)) = True := by simp [h4]
            have t2' : (d = 0) = True := by simp [h4]
            have hk0 : k ≠ 0 := by
              rintro rfl
              have hp : 10000 ^ (len - 1) ≤ n := by rw [← hlen2]; exact dl_pow_le (by decide) (Nat.pos_of_ne_zero fun h => h0 (by rw [← hlen2, h, dl_zero]))
              have hlt : n < 10000 ^ (i + 1) := (dl_le_iff (by decide)).1 (by omega)
              rw [dig4_top 0 hlt, Nat.add_zero, Nat.pow_mul] at hd
              rw [show len - 1 = i by omega] at hp
              have := Nat.div_pos hp (Nat.pow_pos (by decide))
              have e10 : (10 : Nat) ^ 4 = 10000 := rfl
              rw [e10] at hd
              omega
            have hfin : ptxt (4 * i + k) n = txt n := by
              have hlt : n < 10000 ^ (i + 1) := (dl_le_iff (by decide)).1 (by omega)
              rw [dig4_top k hlt] at hd
              refine txt_of (by omega) (by omega) ?_
              rcases hm with h | h | h
              · exact absurd h hk0
              · omega
              · exact h
            simp (maxSteps := 2000000) only [↓avp, ↓avmD, avq, ↓reduceIte, Nat.reduceAdd, Nat.reduceMul, Nat.reduceSub, Nat.reduceLT, Nat.reduceLeDiff, Nat.reduceEqDiff, Nat.reducePow, Nat.reduceMod, h2, w1, w2, t1, t1', t2, t2', ← hlen, hl]
            exact LN.next (i + 1, ptxt (4 * i + k) n) [0, 3, 4] ⟨q1, by simp only; rw [if_neg (by omega), hfin]⟩ (by simp only; omega) rfl
          · have t2 : ((d : Int) = ((0 : Nat) : Int)) = False := by simp [h4]
            have t2' : (d = 0) = False := by simp [h4]
            have hne : n / 10 ^ (4 * i + k) ≠ 0 := by
              have hlt : n < 10000 ^ (i + 1) := (dl_le_iff (by decide)).1 (by omega)
              rw [dig4_top k hlt] at hd
              omega
            simp (maxSteps := 2000000) only [↓avp, ↓avmD, avq, ↓reduceIte, Nat.reduceAdd, Nat.reduceMul, Nat.reduceSub, Nat.reduceLT, Nat.reduceLeDiff, Nat.reduceEqDiff, Nat.reducePow, Nat.reduceMod, h2, w2, t1, t1', t2, t2', ← hlen, hl, w3, w4, w5, w6, hb2, hpt']
            refine ⟨by rw [ptxt_length]; simp; omega, LN.drop (H0 := []) 0 rfl (Nat.le_refl _) ?_⟩
            simp (maxSteps := 2000000) only [↓avp, ↓avmD, avq, ↓reduceIte, Nat.reduceAdd, Nat.reduceMul, Nat.reduceSub, Nat.reduceLT, Nat.reduceLeDiff, Nat.reduceEqDiff, Nat.reducePow, Nat.reduceMod, avmK, hd1]
            exact LN.next (k + 1) [0, 3, 4, 5, 6] ⟨by omega, .inr (.inr (by rw [show 4 * i + (k + 1) - 1 = 4 * i + k by omega]; exact hne))⟩ (by omega) rfl
        · have t1 : ((i : Int) = ((len - 1 : Nat) : Int)) = False := by simp; omega
          have t1' : (i = len - 1) = False := by simp; omega
          simp (maxSteps := 2000000) only [↓avp, ↓avmD, avq, ↓reduceIte, Nat.reduceAdd, Nat.reduceMul, Nat.reduceSub, Nat.reduceLT, Nat.reduceLeDiff, Nat.reduceEqDiff, Nat.reducePow, Nat.reduceMod, h2, w2, t1, t1', ← hlen, hl, w3, w4, w5, w6, hb2, hpt']
          refine ⟨by rw [ptxt_length]; simp; omega, LN.drop (H0 := []) 0 rfl (Nat.le_refl _) ?_⟩
          simp (maxSteps := 2000000) only [↓avp, ↓avmD, avq, ↓reduceIte, Nat.reduceAdd, Nat.reduceMul, Nat.reduceSub, Nat.reduceLT, Nat.reduceLeDiff, Nat.reduceEqDiff, Nat.reducePow, Nat.reduceMod, avmK, hd1]
          exact LN.next (k + 1) [0, 3, 4, 5, 6] ⟨by omega, .inr (.inl (by omega))⟩ (by omega) rfl
      · have e : k = 4 := by omega
        subst e
        have e4 : 4 * i + 4 = 4 * (i + 1) := by omega
        simp (maxSteps := 2000000) only [↓avp, ↓avmD, avq, ↓reduceIte, Nat.reduceAdd, Nat.reduceMul, Nat.reduceSub, Nat.reduceLT, Nat.reduceLeDiff, Nat.reduceEqDiff, Nat.reducePow, Nat.reduceMod, h2, w1, ← hlen, hl]
        refine LN.next (i + 1, ptxt (4 * i + 4) n) [0, 3, 4] ⟨q1, ?_⟩ (by simp only; omega) rfl
        simp only
        split
        · rw [e4]
        · next h =>
          refine txt_of (by omega) ?_ ?_
          · have hlt : n < 10000 ^ (i + 1) := (dl_le_iff (by decide)).1 (by omega)
            rw [e4, Nat.pow_mul]
            exact Nat.div_eq_of_lt hlt
          · rcases hm with h' | h' | h'
            · omega
            · omega
            · exact h'
    · have e : i = len := by omega
      subst e
      rw [if_neg h1] at hs
      subst hs
      simp (maxSteps := 2000000) only [↓avp, ↓avmD, avq, ↓reduceIte, Nat.reduceAdd, Nat.reduceMul, Nat.reduceSub, Nat.reduceLT, Nat.reduceLeDiff, Nat.reduceEqDiff, Nat.reducePow, Nat.reduceMod, h1, ← hlen]
      intro _
      refine ret_now ?_
      simp (maxSteps := 2000000) only [↓avp, ↓avmD, avq, ↓reduceIte, Nat.reduceAdd, Nat.reduceMul, Nat.reduceSub, Nat.reduceLT, Nat.reduceLeDiff, Nat.reduceEqDiff, Nat.reducePow, Nat.reduceMod]
end Va
/- Texts read as numbers of the reference. -/
set_option linter.unusedSimpArgs false
set_option linter.unusedVariables false
set_option maxRecDepth 100000
set_option maxHeartbeats 8000000
open Go Go.Avm
namespace Va
attribute [local irreducible] ACallF FCallF
variable {G : Glob}
theorem refV_z : refV 0 = .sl 0 [] := by simp [refV, slV, dig_zero, row]
theorem dg_no {c : UInt8} (h : isDg c = false) : c.toNat < 48 ∨ 57 < c.toNat := by
  simp only [isDg, decide_eq_false_iff_not] at h; omega
theorem ref_GetN_loop (s : List UInt8) (h0 : 0 < s.length) (h1 : s.length ≤ 2000) (f : List AV) (hf : keepF [0, 4, 5, 6, 7] 0 f = [.str s,J,J,J,.nils,.int .i64 ((1 : Nat) : Int),.int .i64 ((0 : Nat) : Int),.int .i64 ((s.length : Int) - 1),J,J,J,J,J,J,J,J,J,J,J,J,J,J,J,J,J,J,J,J,J,J,J,J,J,J,J,J,J,J,J,J,J,J,J,J,J,J,J,J,J,J,J,J,J,J,J,J,J,J,J,J,J,J,J,J,J]) :
    awp (ctx P G 0) (peel 1 (lft (peel 4 ir_ref1_GetN.body))) (exSeq (awp (ctx P G 0) (peel 5 ir_ref1_GetN.body) (exRet (ctx P G 0) ir_ref1_GetN.res fun (x : AV) (_ : List AObj) => x = if s.all isDg then .tup [refV (num s), .bool true] else .tup [.nils, .bool false])) (exRet (ctx P G 0) ir_ref1_GetN.res fun (x : AV) (_ : List AObj) => x = if s.all isDg then .tup [refV (num s), .bool true] else .tup [.nils, .bool false])) ⟨f, []⟩ := by
  simp only [ir_ref1_GetN, sX, mX, peel, lft, iv]
  simp (maxSteps := 2000000) only [↓avp, ↓avmD, avq, ↓reduceIte, Nat.reduceAdd, Nat.reduceMul, Nat.reduceSub, Nat.reduceLT, Nat.reduceLeDiff, Nat.reduceEqDiff, Nat.reducePow, Nat.reduceMod]
  refine loop_gh (fun a : Nat × Nat × Nat × List Nat => ⟨[.str s,J,J,J,.osl 0 0 a.2.2.2.length,.int .i64 a.2.1,.int .i64 a.2.2.1,.int .i64 ((a.1 : Int) - 1),J,J,J,J,J,J,J,J,J,J,J,J,J,J,J,J,J,J,J,J,J,J,J,J,J,J,J,J,J,J,J,J,J,J,J,J,J,J,J,J,J,J,J,J,J,J,J,J,J,J,J,J,J,J,J,J,J], [.arr t_int 1 false (row .i64 a.2.2.2)]⟩)
    (fun a => a.1 ≤ s.length ∧ a.2.2.2.length + a.1 ≤ s.length ∧ GetI s a.1 a.2.1 a.2.2.1 a.2.2.2) (fun a => a.1) (s.length, 1, 0, [])
    (Gh.trans (G := G) (n0 := 0) (Gh.keep ⟨f, []⟩ [0, 4, 5, 6, 7]) (by
      rw [hf]
      exact Gh.adopt (G := G) (n0 := 0) (d := 4) (Nat.le_of_ble_eq_true rfl) rfl t_int 1)) ⟨Nat.le_refl _, by simp, GetI.start h0⟩ ?_
  rintro ⟨k, w, d, l⟩ ⟨hk, hll, H⟩
  simp only at hk hll H
  have n1 : (!true) = false := rfl
  have n2 : (!false) = true := rfl
  rcases Nat.eq_zero_or_pos k with rfl | hk0
  · have c0 : (((0 : Nat) : Int) ≤ ((0 : Nat) : Int) - 1) = False := by simp
    have hall : s.all isDg = true := by have := H.dg; rwa [List.drop_zero] at this
    have hT := ref_trim_px (G := G) l H.lt
    rw [H.z rfl] at hT
    unfold slV at hT
    simp (maxSteps := 2000000) only [↓avp, ↓avmD, avq, ↓reduceIte, Nat.reduceAdd, Nat.reduceMul, Nat.reduceSub, Nat.reduceLT, Nat.reduceLeDiff, Nat.reduceEqDiff, Nat.reducePow, Nat.reduceMod, c0]
    refine ACall.fzc (H0 := []) 0 rfl rfl (Nat.le_refl _) (by simp only [avmF]) ?_
    simp (maxSteps := 2000000) only [↓avp, ↓avmD, avq, ↓reduceIte, Nat.reduceAdd, Nat.reduceMul, Nat.reduceSub, Nat.reduceLT, Nat.reduceLeDiff, Nat.reduceEqDiff, Nat.reducePow, Nat.reduceMod, avmT, List.take_length]
    refine hT.call ?_
    simp (maxSteps := 2000000) only [↓avp, ↓avmD, avq, ↓reduceIte, Nat.reduceAdd, Nat.reduceMul, Nat.reduceSub, Nat.reduceLT, Nat.reduceLeDiff, Nat.reduceEqDiff, Nat.reducePow, Nat.reduceMod]
    refine ret_now ?_
    simp (maxSteps := 2000000) only [↓avp, ↓avmD, avq, ↓reduceIte, Nat.reduceAdd, Nat.reduceMul, Nat.reduceSub, Nat.reduceLT, Nat.reduceLeDiff, Nat.reduceEqDiff, Nat.reducePow, Nat.reduceMod]
    rw [if_pos hall]
  · obtain ⟨i, rfl⟩ : ∃ i, k = i + 1 := ⟨k - 1, by omega⟩
    have ei : (((i + 1 : Nat) : Int) - 1) = (i : Int) := by omega
    have hi : i < s.length := by omega
    obtain ⟨c, hc⟩ : ∃ c, c = (s.getD i 0).toNat := ⟨_, rfl⟩
    have hc256 : c < 256 := by rw [hc]; exact UInt8.toNat_lt _
    cases hd : isDg (s.getD i 0) with
    | false =>
      have hall := GetI.bad hi hd
      rcases dg_no hd with hb | hb
      · rw [← hc] at hb
        simp (maxSteps := 2000000) only [↓avp, ↓avmD, avq, ↓reduceIte, Nat.reduceAdd, Nat.reduceMul, Nat.reduceSub, Nat.reduceLT, Nat.reduceLeDiff, Nat.reduceEqDiff, Nat.reducePow, Nat.reduceMod, ei, ← hc, hi, hb, n1, n2]
        refine ret_now ?_
        simp (maxSteps := 2000000) only [↓avp, ↓avmD, avq, ↓reduceIte, Nat.reduceAdd, Nat.reduceMul, Nat.reduceSub, Nat.reduceLT, Nat.reduceLeDiff, Nat.reduceEqDiff, Nat.reducePow, Nat.reduceMod]
        rw [if_neg (by rw [hall]; decide)]
      · rw [← hc] at hb
        have hb2 : ¬ c < 48 := by omega
        simp (maxSteps := 2000000) only [↓avp, ↓avmD, avq, ↓reduceIte, Nat.reduceAdd, Nat.reduceMul, Nat.reduceSub, Nat.reduceLT, Nat.reduceLeDiff, Nat.reduceEqDiff, Nat.reducePow, Nat.reduceMod, ei, ← hc, hi, hb, hb2, n1, n2]
        refine ret_now ?_
        simp (maxSteps := 2000000) only [↓avp, ↓avmD, avq, ↓reduceIte, Nat.reduceAdd, Nat.reduceMul, Nat.reduceSub, Nat.reduceLT, Nat.reduceLeDiff, Nat.reduceEqDiff, Nat.reducePow, Nat.reduceMod]
        rw [if_neg (by rw [hall]; decide)]
    | true =>
      have hD : 48 ≤ (s.getD i 0).toNat ∧ (s.getD i 0).toNat ≤ 57 := by simpa [isDg] using hd
      obtain ⟨s1, s2, s3, s4⟩ := H.step hi hd
      rw [← hc] at hD s2 s3 s4
      have b1 : ¬ c < 48 := by omega
      have b2 : ¬ 57 < c := by omega
      have b3 : 48 ≤ c := by omega
      have m1 : (c - 48) % 256 = c - 48 := by omega
      have w1 : IntKind.i64.wrap ((c - 48 : Nat) : Int) = ((c - 48 : Nat) : Int) := wi64 (by omega)
      have hm : (c - 48) * w ≤ 9 * w := Nat.mul_le_mul_right _ (by omega)
      have w2 : IntKind.i64.wrap (((c - 48) * w : Nat) : Int) = (((c - 48) * w : Nat) : Int) := wi64 (by omega)
      have w3 : IntKind.i64.wrap ((d + (c - 48) * w : Nat) : Int) = ((d + (c - 48) * w : Nat) : Int) := wi64 (by omega)
      have w4 : IntKind.i64.wrap ((w * 10 : Nat) : Int) = ((w * 10 : Nat) : Int) := wi64 (by omega)
      have w5 : IntKind.i64.wrap ((i : Int) - ((1 : Nat) : Int)) = (i : Int) - 1 := wi64_in (by omega) (by omega)
      by_cases h1 : w * 10 = 10000
      · have S := s4 (.inl h1)
        have e1 : (w * 10 = 10000) = True := by simp [h1]
        simp (maxSteps := 2000000) only [↓avp, ↓avmD, avq, ↓reduceIte, Nat.reduceAdd, Nat.reduceMul, Nat.reduceSub, Nat.reduceLT, Nat.reduceLeDiff, Nat.reduceEqDiff, Nat.reducePow, Nat.reduceMod, ei, ← hc, hi, b1, b2, b3, m1, w1, w2, w3, w4, w5, e1, n1, n2, avmK, cellsOf, putAt, fillP, List.replicate_one, List.set_cons_zero, List.length_cons, List.length_nil, List.take_succ_cons, List.take_zero]
        refine ⟨⟨⟨Nat.le_refl _, fun h => by cases h⟩, by omega⟩, ?_⟩
        refine LN.drop (H0 := [_]) 1 rfl (by decide) ?_
        simp (maxSteps := 2000000) only [↓avp, ↓avmD, avq, ↓reduceIte, Nat.reduceAdd, Nat.reduceMul, Nat.reduceSub, Nat.reduceLT, Nat.reduceLeDiff, Nat.reduceEqDiff, Nat.reducePow, Nat.reduceMod, avmK, w5]
        refine LN.next (i, 1, 0, l ++ [d + (c - 48) * w]) [0, 4, 5, 6, 7] ⟨by simp only; omega, by simp only [List.length_append, List.length_cons, List.length_nil]; omega, S⟩ (by simp only; omega) ?_
        simp only [List.length_append, List.length_cons, List.length_nil]
        rfl
      · have e1 : (w * 10 = 10000) = False := by simp [h1]
        by_cases h2 : i = 0
        · have S := s4 (.inr h2)
          have e2 : (i = 0) = True := by simp [h2]
          simp (maxSteps := 2000000) only [↓avp, ↓avmD, avq, ↓reduceIte, Nat.reduceAdd, Nat.reduceMul, Nat.reduceSub, Nat.reduceLT, Nat.reduceLeDiff, Nat.reduceEqDiff, Nat.reducePow, Nat.reduceMod, ei, ← hc, hi, b1, b2, b3, m1, w1, w2, w3, w4, w5, e1, e2, n1, n2, avmK, cellsOf, putAt, fillP, List.replicate_one, List.set_cons_zero, List.length_cons, List.length_nil, List.take_succ_cons, List.take_zero]
          refine ⟨⟨⟨Nat.le_refl _, fun h => by cases h⟩, by omega⟩, ?_⟩
          refine LN.drop (H0 := [_]) 1 rfl (by decide) ?_
          simp (maxSteps := 2000000) only [↓avp, ↓avmD, avq, ↓reduceIte, Nat.reduceAdd, Nat.reduceMul, Nat.reduceSub, Nat.reduceLT, Nat.reduceLeDiff, Nat.reduceEqDiff, Nat.reducePow, Nat.reduceMod, avmK, w5]
          refine LN.next (i, 1, 0, l ++ [d + (c - 48) * w]) [0, 4, 5, 6, 7] ⟨by simp only; omega, by simp only [List.length_append, List.length_cons, List.length_nil]; omega, S⟩ (by simp only; omega) ?_
          simp only [List.length_append, List.length_cons, List.length_nil]
          rfl
        · have S := s3 h1 h2
          have e2 : (i = 0) = False := by simp [h2]
          simp (maxSteps := 2000000) only [↓avp, ↓avmD, avq, ↓reduceIte, Nat.reduceAdd, Nat.reduceMul, Nat.reduceSub, Nat.reduceLT, Nat.reduceLeDiff, Nat.reduceEqDiff, Nat.reducePow, Nat.reduceMod, ei, ← hc, hi, b1, b2, b3, m1, w1, w2, w3, w4, w5, e1, e2, n1, n2]
          exact LN.next (i, w * 10, d + (c - 48) * w, l) [0, 4, 5, 6, 7] ⟨by simp only; omega, by simp only; omega, S⟩ (by simp only; omega) rfl
theorem ref_GetN_run (s : List UInt8) (h0 : s ≠ []) (h1 : s.length ≤ 2000) (h2 : ¬ (1 < s.length ∧ (s.getD 0 0).toNat = 48)) : PX P G n_ref1_GetN [.str s] (if s.all isDg then .tup [refV (num s), .bool true] else .tup [.nils, .bool false]) := by
  refine PX_of_awp low_ref1_GetN fol (by simp only [avmF, and_true]) (by split <;> simp only [avmF, refV, and_true]) ?_
  have n1 : (!true) = false := rfl
  have n2 : (!false) = true := rfl
  have e1 : (s == []) = false := by cases s with | nil => exact absurd rfl h0 | cons a b => rfl
  have hl0 : 0 < s.length := List.length_pos_iff.2 h0
  have h1' : ¬ 2000 < s.length := by omega
  have w0 : IntKind.i64.wrap ((s.length : Int) - ((1 : Nat) : Int)) = (s.length : Int) - 1 := wi64_in (by omega) (by omega)
  have c1 : 1 ≤ s.length := by omega
  have w0' : IntKind.i64.wrap ((s.length - 1 : Nat) : Int) = (s.length : Int) - 1 := by rw [wi64 (by omega)]; omega
  have key := ref_GetN_loop (G := G) s hl0 h1
  by_cases h3 : (s.getD 0 0).toNat = 48
  · have h4 : ¬ 1 < s.length := fun hh => h2 ⟨hh, h3⟩
    simp only [ir_ref1_GetN, sX, mX, initF, List.replicate, Nat.reduceAdd, Nat.reduceSub, iv, avmL]
    simp (maxSteps := 2000000) only [↓avp, ↓avmD, avq, ↓reduceIte, Nat.reduceAdd, Nat.reduceMul, Nat.reduceSub, Nat.reduceLT, Nat.reduceLeDiff, Nat.reduceEqDiff, Nat.reducePow, Nat.reduceMod, e1, h1', h3, h4, hl0, n1, n2, c1, w0']
    exact key _ rfl
  · simp only [ir_ref1_GetN, sX, mX, initF, List.replicate, Nat.reduceAdd, Nat.reduceSub, iv, avmL]
    simp (maxSteps := 2000000) only [↓avp, ↓avmD, avq, ↓reduceIte, Nat.reduceAdd, Nat.reduceMul, Nat.reduceSub, Nat.reduceLT, Nat.reduceLeDiff, Nat.reduceEqDiff, Nat.reducePow, Nat.reduceMod, e1, h1', h3, hl0, n1, n2, c1, w0']
    exact key _ rfl
theorem ref_GetN_px (s : List UInt8) (hs : s.length ≤ 9223372036854775806) : PX P G n_ref1_GetN [.str s] (.tup [refV (if okN s = true then num s else 0), .bool (okN s)]) := by
  have n1 : (!true) = false := rfl
  have n2 : (!false) = true := rfl
  have hno : PX P G n_ref1_GetN [.str s] (.tup [.nils, .bool false]) → okN s = false → PX P G n_ref1_GetN [.str s] (.tup [refV (if okN s = true then num s else 0), .bool (okN s)]) := fun h e => by
    rw [e]
    exact h.wk_ret (Wk.tup (.cons (by rw [if_neg (by decide), refV_z]; exact Wk.nils) (WkL.refl _))) (by simp only [avmF, refV, and_true])
  by_cases h0 : s = []
  · subst h0
    refine hno ?_ rfl
    refine PX_of_awp low_ref1_GetN fol (by simp only [avmF, and_true]) (by simp only [avmF, and_true]) ?_
    have e1 : (([] : List UInt8) == []) = true := rfl
    simp only [ir_ref1_GetN, sX, mX, initF, List.replicate, Nat.reduceAdd, Nat.reduceSub, iv, avmL]
    simp (maxSteps := 2000000) only [↓avp, ↓avmD, avq, ↓reduceIte, Nat.reduceAdd, Nat.reduceMul, Nat.reduceSub, Nat.reduceLT, Nat.reduceLeDiff, Nat.reduceEqDiff, Nat.reducePow, Nat.reduceMod, e1, n1, n2]
    refine ret_now ?_
    simp (maxSteps := 2000000) only [↓avp, ↓avmD, avq, ↓reduceIte, Nat.reduceAdd, Nat.reduceMul, Nat.reduceSub, Nat.reduceLT, Nat.reduceLeDiff, Nat.reduceEqDiff, Nat.reducePow, Nat.reduceMod]
  have e1 : (s == []) = false := by cases s with | nil => exact absurd rfl h0 | cons a b => rfl
  by_cases h1 : 2000 < s.length
  · refine hno ?_ (by simp [okN]; omega)
    refine PX_of_awp low_ref1_GetN fol (by simp only [avmF, and_true]) (by simp only [avmF, and_true]) ?_
    simp only [ir_ref1_GetN, sX, mX, initF, List.replicate, Nat.reduceAdd, Nat.reduceSub, iv, avmL]
    simp (maxSteps := 2000000) only [↓avp, ↓avmD, avq, ↓reduceIte, Nat.reduceAdd, Nat.reduceMul, Nat.reduceSub, Nat.reduceLT, Nat.reduceLeDiff, Nat.reduceEqDiff, Nat.reducePow, Nat.reduceMod, e1, h1, n1, n2]
    refine ret_now ?_
    simp (maxSteps := 2000000) only [↓avp, ↓avmD, avq, ↓reduceIte, Nat.reduceAdd, Nat.reduceMul, Nat.reduceSub, Nat.reduceLT, Nat.reduceLeDiff, Nat.reduceEqDiff, Nat.reducePow, Nat.reduceMod]
  have hl0 : 0 < s.length := List.length_pos_iff.2 h0
  have hd : s.head? = some (s.getD 0 0) := by cases s with | nil => exact absurd rfl h0 | cons a b => rfl
  have h48 : (s.head? = some 48) ↔ (s.getD 0 0).toNat = 48 := by
    rw [hd, Option.some.injEq]
    exact ⟨fun h => by rw [h]; rfl, fun h => UInt8.toNat_inj.1 h⟩
  by_cases h2 : 1 < s.length ∧ (s.getD 0 0).toNat = 48
  · refine hno ?_ (by simp [okN, h2.1, h48.2 h2.2])
    refine PX_of_awp low_ref1_GetN fol (by simp only [avmF, and_true]) (by simp only [avmF, and_true]) ?_
    obtain ⟨h3, h4⟩ := h2
    simp only [ir_ref1_GetN, sX, mX, initF, List.replicate, Nat.reduceAdd, Nat.reduceSub, iv, avmL]
    simp (maxSteps := 2000000) only [↓avp, ↓avmD, avq, ↓reduceIte, Nat.reduceAdd, Nat.reduceMul, Nat.reduceSub, Nat.reduceLT, Nat.reduceLeDiff, Nat.reduceEqDiff, Nat.reducePow, Nat.reduceMod, e1, h1, h3, h4, hl0, n1, n2]
    refine ret_now ?_
    simp (maxSteps := 2000000) only [↓avp, ↓avmD, avq, ↓reduceIte, Nat.reduceAdd, Nat.reduceMul, Nat.reduceSub, Nat.reduceLT, Nat.reduceLeDiff, Nat.reduceEqDiff, Nat.reducePow, Nat.reduceMod]
  have R := ref_GetN_run (G := G) s h0 (by omega) h2
  have hx : okN s = s.all isDg := by
    have : (decide (1 < s.length) && decide (s.head? = some 48)) = false := by
      rw [Bool.and_eq_false_iff, decide_eq_false_iff_not, decide_eq_false_iff_not, h48]
      by_cases h : 1 < s.length
      · exact .inr fun hh => h2 ⟨h, hh⟩
      · exact .inl h
    have hle : s.length ≤ 2000 := by omega
    simp [okN, this, h0, hle]
  cases ha : s.all isDg with
  | false =>
    rw [ha] at R
    exact hno R (by rw [hx, ha])
  | true =>
    rw [ha] at R
    rw [hx, ha]
    exact R
end Va
