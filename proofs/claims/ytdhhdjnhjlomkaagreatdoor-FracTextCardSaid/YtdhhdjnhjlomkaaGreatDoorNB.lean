/- Joined texts. -/
import Derived.Test.YtdhhdjnhjlomkaaGreatDoorNA
/- The program's naturals: a step of a quotient. -/
set_option linter.unusedSimpArgs false
set_option linter.unusedVariables false
set_option maxRecDepth 100000
set_option maxHeartbeats 16000000
open Go Go.Avm
namespace Va
attribute [local irreducible] ACallF FCallF
variable {G : Glob}
theorem or_high {x y : Nat} (hy : y < 4294967296) : (x * 4294967296) ||| y = x * 4294967296 + y := by
  have := Nat.two_pow_add_eq_or_of_lt (i := 32) (b := y) hy x
  rw [show (2 : Nat) ^ 32 = 4294967296 by rfl, Nat.mul_comm] at this
  exact this.symm
theorem nat_step_ac (L : List Nat) (X : AObj) (b off n : Nat) (hn : dl 4294967296 b = n) (h2 : 2 ≤ n) (hn9 : n ≤ 2000000000) (hoff : off ≤ 2000000000) (hL : off + n + 1 ≤ L.length) (hlt : AllLt 4294967296 L) (hA : win 4294967296 L off (n + 1) < b * 4294967296) :
    AC P G n_nat_step [.osl 0 off (n + 1), slV .u32 (dig 4294967296 b)] [.arr t_uint32 1 false (row .u32 L), X] fun x H' => x = .int .u32 ((win 4294967296 L off (n + 1) / b : Nat) : Int) ∧ ∃ L', H' = [.arr t_uint32 1 false (row .u32 L'), X] ∧ StepOut 4294967296 b L off n L' := by
  refine AC_of_awp low_nat_step rfl fol ?_
  have hb0 : 0 < b := by
    rcases Nat.eq_zero_or_pos b with h | h
    · subst h; rw [dl_zero] at hn; omega
    · exact h
  have hblt : b < 4294967296 ^ n := by rw [← hn]; exact lt_pow_dl (by decide) b
  have hbge : 4294967296 ^ (n - 1) ≤ b := by rw [← hn]; exact dl_pow_le (by decide) hb0
  have d1 : (dig 4294967296 b).length = n := hn
  obtain ⟨m, rfl⟩ : ∃ m, n = m + 2 := ⟨n - 2, by omega⟩
  obtain ⟨A, hAe⟩ : ∃ A, A = win 4294967296 L off (m + 2 + 1) := ⟨_, rfl⟩
  rw [← hAe] at hA ⊢
  have gW : ∀ j, j < m + 3 → L.getD (off + j) 0 = A / 4294967296 ^ j % 4294967296 := fun j hj => by rw [hAe]; exact win_digit (by decide) hlt hj
  have gB : ∀ j, (dig 4294967296 b).getD j 0 = b / 4294967296 ^ j % 4294967296 := fun j => dig_getD (by decide) b j
  have hp : 0 < 4294967296 ^ m := Nat.pow_pos (by decide)
  -- the top digits
  obtain ⟨b1, hb1⟩ : ∃ b1, b1 = b / 4294967296 ^ (m + 1) := ⟨_, rfl⟩
  obtain ⟨b2, hb2⟩ : ∃ b2, b2 = b / 4294967296 ^ m % 4294967296 := ⟨_, rfl⟩
  have hb1lt : b1 < 4294967296 := by rw [hb1]; exact Nat.div_lt_of_lt_mul (by rw [← Nat.pow_succ]; exact hblt)
  have hb1pos : 0 < b1 := by rw [hb1]; exact Nat.div_pos hbge (Nat.pow_pos (by decide))
  have hb2lt : b2 < 4294967296 := by rw [hb2]; exact Nat.mod_lt _ (by decide)
  have hbb : b / 4294967296 ^ m = b1 * 4294967296 + b2 := by rw [hb1, hb2]; exact div_pow_split 4294967296 b m
  obtain ⟨two, htwo⟩ : ∃ two, two = A / 4294967296 ^ (m + 1) := ⟨_, rfl⟩
  obtain ⟨a3, ha3⟩ : ∃ a3, a3 = A / 4294967296 ^ m % 4294967296 := ⟨_, rfl⟩
  have ha3lt : a3 < 4294967296 := by rw [ha3]; exact Nat.mod_lt _ (by decide)
  have hAA : A / 4294967296 ^ m = two * 4294967296 + a3 := by rw [htwo, ha3]; exact div_pow_split 4294967296 A m
  obtain ⟨an, han⟩ : ∃ an, an = A / 4294967296 ^ (m + 2) % 4294967296 := ⟨_, rfl⟩
  obtain ⟨a2, ha2⟩ : ∃ a2, a2 = A / 4294967296 ^ (m + 1) % 4294967296 := ⟨_, rfl⟩
  have hanlt : an < 4294967296 := by rw [han]; exact Nat.mod_lt _ (by decide)
  have ha2lt : a2 < 4294967296 := by rw [ha2]; exact Nat.mod_lt _ (by decide)
  have hAlt : A < 4294967296 ^ (m + 3) := by
    rw [show m + 3 = m + 2 + 1 by omega, Nat.pow_succ]
    exact Nat.lt_of_lt_of_le hA (Nat.mul_le_mul_right _ (Nat.le_of_lt hblt))
  have htwo2 : two = an * 4294967296 + a2 := by
    have h1 := div_pow_split 4294967296 A (m + 1)
    rw [← ha2, ← htwo] at h1
    have h3 : A / 4294967296 ^ (m + 1 + 1) % 4294967296 = A / 4294967296 ^ (m + 1 + 1) := Nat.mod_eq_of_lt (Nat.div_lt_of_lt_mul (by rw [← Nat.pow_succ]; exact hAlt))
    rw [← h3, ← han] at h1
    exact h1
  have htwolt : two < 18446744073709551616 := by omega
  have htwob : two ≤ b1 * 4294967296 + 4294967295 := by
    have h1 : two < (b1 + 1) * 4294967296 := by
      rw [htwo]
      refine Nat.div_lt_of_lt_mul ?_
      have h2 : b < 4294967296 ^ (m + 1) * (b1 + 1) := by rw [hb1]; exact Nat.lt_mul_div_succ _ (Nat.pow_pos (by decide))
      rw [← Nat.mul_assoc]
      exact Nat.lt_trans hA (Nat.mul_lt_mul_of_pos_right h2 (by decide))
    omega
  obtain ⟨Q, hQ⟩ : ∃ Q, Q = A / b := ⟨_, rfl⟩
  rw [← hQ]
  have q0 := kq_start (B := 4294967296) hb1 hA htwo hb1pos
  rw [← hQ] at q0
  obtain ⟨qh, hqh⟩ : ∃ qh, qh = min (two / b1) 4294967295 := ⟨_, rfl⟩
  have q0' : Q ≤ qh := by rw [hqh]; exact q0
  have hqh1 : qh * b1 ≤ two := Nat.le_trans (Nat.mul_le_mul_right _ (by rw [hqh]; exact Nat.min_le_left _ _)) (Nat.div_mul_le_self _ _)
  have hqh2 : qh ≤ 4294967295 := by rw [hqh]; exact Nat.min_le_right _ _
  have hr0 : two - qh * b1 ≤ 8589934592 := by
    rw [hqh]
    rcases Nat.le_total (two / b1) 4294967295 with h | h
    · rw [Nat.min_eq_left h]
      have := Nat.mod_lt two hb1pos
      have := Nat.div_add_mod' two b1
      omega
    · rw [Nat.min_eq_right h]
      omega
  -- what the walk is given
  have u1 : m + 2 ≤ 9223372036854775807 := by omega
  have r1 : m + 2 - 1 = m + 1 := by omega
  have r2 : m + 2 - 2 = m := by omega
  have w1 : IntKind.i64.wrap ((m + 1 : Nat) : Int) = ((m + 1 : Nat) : Int) := wi64 (by omega)
  have w2 : IntKind.i64.wrap ((m : Nat) : Int) = ((m : Nat) : Int) := wi64 (by omega)
  have r3 : 1 ≤ m + 2 := by omega
  have r4 : 2 ≤ m + 2 := by omega
  have gA0 : (row .u32 L).getD (off + (m + 2)) .junk = .int .u32 ((an : Nat) : Int) := by rw [row_getD .u32 (by omega), gW _ (by omega), ← han]
  have gA1 : (row .u32 L).getD (off + (m + 1)) .junk = .int .u32 ((a2 : Nat) : Int) := by rw [row_getD .u32 (by omega), gW _ (by omega), ← ha2]
  have gA2 : (row .u32 L).getD (off + m) .junk = .int .u32 ((a3 : Nat) : Int) := by rw [row_getD .u32 (by omega), gW _ (by omega), ← ha3]
  have gB1 : (row .u32 (dig 4294967296 b)).getD (m + 1) .junk = .int .u32 ((b1 : Nat) : Int) := by
    rw [row_getD .u32 (by omega), gB, ← hb1, Nat.mod_eq_of_lt hb1lt]
  have gB2 : (row .u32 (dig 4294967296 b)).getD m .junk = .int .u32 ((b2 : Nat) : Int) := by rw [row_getD .u32 (by omega), gB, ← hb2]
  have m1 : an % 18446744073709551616 = an := m64 (by omega)
  have m2 : a2 % 18446744073709551616 = a2 := m64 (by omega)
  have m3 : an * 4294967296 % 18446744073709551616 = an * 4294967296 := m64 (by omega)
  have o1 : (an * 4294967296) ||| a2 = two := by rw [or_high ha2lt, htwo2]
  have m4 : two % 18446744073709551616 = two := m64 htwolt
  have m5 : b1 % 18446744073709551616 = b1 := m64 (by omega)
  have m6 : two / b1 % 18446744073709551616 = two / b1 := m64 (Nat.lt_of_le_of_lt (Nat.div_le_self _ _) htwolt)
  have m7 : qh * b1 % 18446744073709551616 = qh * b1 := m64 (by omega)
  have m8 : (two - qh * b1) % 18446744073709551616 = two - qh * b1 := m64 (by omega)
  have l0 : off + (m + 2) < L.length := by omega
  have l1 : off + (m + 1) < L.length := by omega
  have l2 : off + m < L.length := by omega
  have k0 : m + 2 < m + 2 + 1 := by omega
  have k1 : m + 1 < m + 2 + 1 := by omega
  have k2 : m < m + 2 + 1 := by omega
  have k3 : m + 1 < m + 2 := by omega
  have k4 : m < m + 2 := by omega
  have y0 : (b1 = 0) = False := by simp; omega
  have y1 : b1 ≠ 0 := by omega
  simp only [ir_nat_step, sX, mX, initF, List.replicate, Nat.reduceAdd, Nat.reduceSub, iv, avmL]
  simp (maxSteps := 2000000) only [↓avp, ↓avmD, avq, ↓reduceIte, Nat.reduceAdd, Nat.reduceMul, Nat.reduceSub, Nat.reduceLT, Nat.reduceLeDiff, Nat.reduceEqDiff, Nat.reducePow, Nat.reduceMod, slV, d1, u1, r1, r2, r3, r4, w1, gA0, gA1, gB1, m1, m2, m3, o1, m4, m5, m6, l0, l1, k0, k1, k3, y0, y1, ← hqh, m7, hqh1, m8]
  refine ⟨y1, ?_⟩
  generalize hT : exBlock 0 (exSeq _ _) = T
  have hTail : ∀ (q : Nat), Q ≤ q → q ≤ Q + 1 → q ≤ 4294967295 → ∀ r g50 g51 g52 g53 g54 g55 g56 g57 g58 g59 g60 g61 g62 g63 g64 g65 g66 g67 g68 g69 g70 g71 : AV, T (.exit 0) ⟨[.osl 0 off (m + 2 + 1),.sl (m + 2) (row .u32 (dig 4294967296 b)),J,J,J,.int .i64 ((m + 2 : Nat) : Int),J,.int .u64 q,r,J,J,J,J,J,J,J,J,J,J,J,J,J,J,J,J,J,J,J,J,J,J,J,J,J,J,J,J,J,J,J,J,J,J,J,J,J,J,J,J,J,g50,g51,g52,g53,g54,g55,g56,g57,g58,g59,g60,g61,g62,g63,g64,g65,g66,g67,g68,g69,g70,g71,J,J,J,J,J,J,J,J,J,J,J,J,J,J,J,J,J,J,J,J,J,J,J,J,J,J,J,J,J,J,J,J,J,J,J,J,J,J,J,J,J,J,J,J,J,J,J,J,J,J,J,J,J,J,J,J,J,J,J,J,J,J,J,J,J,J,J,J,J,J,J,J,J,J,J,J,J,J,J,J,J,J,J,J,J,J,J,J,J,J,J,J,J,J,J,J,J,J,J], [.arr t_uint32 1 false (row .u32 L), X]⟩ := by
    intro q hq1 hq2 hq3 r g50 g51 g52 g53 g54 g55 g56 g57 g58 g59 g60 g61 g62 g63 g64 g65 g66 g67 g68 g69 g70 g71
    subst hT
    simp (maxSteps := 2000000) only [↓avp, ↓avmD, avq, ↓reduceIte, Nat.reduceAdd, Nat.reduceMul, Nat.reduceSub, Nat.reduceLT, Nat.reduceLeDiff, Nat.reduceEqDiff, Nat.reducePow, Nat.reduceMod, slV, d1, u1]
    refine loop_of (fun c : Nat × Nat × Nat × List Nat => ⟨[.osl 0 off (m + 2 + 1),.sl (m + 2) (row .u32 (dig 4294967296 b)),J,J,J,.int .i64 ((m + 2 : Nat) : Int),J,.int .u64 q,J,.int .u64 c.2.1,.int .i64 (-((c.2.2.1 : Nat) : Int)),J,J,J,J,J,J,J,J,J,J,J,J,J,J,J,J,J,J,J,J,J,J,J,J,J,J,J,J,J,J,J,J,J,J,J,J,J,J,J,J,J,J,J,J,J,J,J,J,J,J,J,J,J,J,J,J,J,J,J,J,J,J,J,J,J,J,J,J,J,J,J,.sl (m + 2) (row .u32 (dig 4294967296 b)),.int .i64 ((m + 2 : Nat) : Int),.int .i64 c.1,J,J,J,J,J,J,J,J,J,J,J,J,J,J,J,J,J,J,J,J,J,J,J,J,J,J,J,J,J,J,J,J,J,J,J,J,J,J,J,J,J,J,J,J,J,J,J,J,J,J,J,J,J,J,J,J,J,J,J,J,J,J,J,J,J,J,J,J,J,J,J,J,J,J,J,J,J,J,J,J,J,J,J,J,J,J], [.arr t_uint32 1 false (row .u32 c.2.2.2), X]⟩)
      (fun c => c.1 ≤ m + 2 ∧ MsN 4294967296 q b L off c.1 c.2.1 c.2.2.1 c.2.2.2) (fun c => m + 2 - c.1) (0, 0, 0, L) [0, 1, 5, 7, 9, 10, 82, 83, 84] rfl ⟨Nat.zero_le _, MsN.start hlt⟩ ?_
    rintro ⟨i, carry, c, l⟩ ⟨hi, H⟩
    simp only at hi H
    have hll := H.len
    have hc1 := H.c1
    have hcar := H.carry_lt (by decide) (by omega)
    by_cases h0 : i < m + 2
    · obtain ⟨y, hy⟩ : ∃ y, y = b / 4294967296 ^ i % 4294967296 := ⟨_, rfl⟩
      have hylt : y < 4294967296 := by rw [hy]; exact Nat.mod_lt _ (by decide)
      obtain ⟨x, hx⟩ : ∃ x, x = l.getD (off + i) 0 := ⟨_, rfl⟩
      have hxlt : x < 4294967296 := by rw [hx]; exact H.lt.getD (by decide) _
      obtain ⟨s, hs⟩ : ∃ s, s = carry + q * y := ⟨_, rfl⟩
      have hqy : q * y ≤ 4294967295 * 4294967295 := Nat.mul_le_mul hq3 (by omega)
      have hslt : s < 18446744073709551616 := by omega
      obtain ⟨d, c', hd, hc', he⟩ : ∃ d c', d < 4294967296 ∧ c' ≤ 1 ∧ d + c + s % 4294967296 = x + c' * 4294967296 := by
        have := Nat.mod_lt s (show 0 < 4294967296 by decide)
        by_cases hh : c + s % 4294967296 ≤ x
        · exact ⟨x - s % 4294967296 - c, 0, by omega, by omega, by omega⟩
        · exact ⟨x + 4294967296 - s % 4294967296 - c, 1, by omega, by omega, by omega⟩
      have S := H.step (s := s) (by decide) (by omega) (by rw [hs, hy]) hd hc' (by rw [← hx]; exact he)
      have gb : (row .u32 (dig 4294967296 b)).getD i .junk = .int .u32 ((y : Nat) : Int) := by rw [row_getD .u32 (by omega), gB, ← hy]
      have ga : (row .u32 l).getD (off + i) .junk = .int .u32 ((x : Nat) : Int) := by rw [row_getD .u32 (by omega), ← hx]
      have n1 : y % 18446744073709551616 = y := m64 (by omega)
      have n2 : q * y % 18446744073709551616 = q * y := m64 (by omega)
      have n3 : s % 18446744073709551616 = s := m64 hslt
      obtain ⟨z, hz⟩ : ∃ z, z = s % 4294967296 := ⟨_, rfl⟩
      have hzlt : z < 4294967296 := by rw [hz]; exact Nat.mod_lt _ (by decide)
      rw [← hz] at he
      have v1 : IntKind.i64.wrap ((x : Nat) : Int) = ((x : Nat) : Int) := wi64 (by omega)
      have v2 : IntKind.i64.wrap ((z : Nat) : Int) = ((z : Nat) : Int) := wi64 (by omega)
      have v3 : IntKind.i64.wrap ((x : Int) - (z : Int)) = (x : Int) - (z : Int) := wi64_in (by omega) (by omega)
      obtain ⟨t, ht⟩ : ∃ t, t = -(c : Int) + ((x : Int) - (z : Int)) := ⟨_, rfl⟩
      have v4 : IntKind.i64.wrap (-(c : Int) + ((x : Int) - (z : Int))) = t := by rw [ht]; exact wi64_in (by omega) (by omega)
      have v5 : IntKind.u32.wrap t = ((d : Nat) : Int) := by rw [wu32_mod]; omega
      have v6 : t.fdiv (2 ^ 32) = -((c' : Nat) : Int) := by rw [Int.fdiv_eq_ediv_of_nonneg _ (by decide), show (2 : Int) ^ 32 = 4294967296 by rfl]; omega
      have v7 : IntKind.i64.wrap ((i + 1 : Nat) : Int) = ((i + 1 : Nat) : Int) := wi64 (by omega)
      have c1 : i < m + 2 + 1 := by omega
      have c2 : off + i < l.length := by omega
      have c3 : off + i + 1 ≤ l.length := by omega
      have c4 : i + 1 ≤ m + 2 := h0
      simp (maxSteps := 2000000) only [↓avp, ↓avmD, avq, ↓reduceIte, Nat.reduceAdd, Nat.reduceMul, Nat.reduceSub, Nat.reduceLT, Nat.reduceLeDiff, Nat.reduceEqDiff, Nat.reducePow, Nat.reduceMod, h0, gb, d1, n1, n2, ← hs, n3, ga, ← hz, v1, v2, v3, v4, v5, v6, v7, c1, c2, c3, c4]
      exact LN.next (i + 1, s / 4294967296, c', l.set (off + i) d) [0, 1, 5, 7, 9, 10, 82, 83, 84] ⟨c4, S⟩ (by simp only; omega) rfl
    · have e : i = m + 2 := by omega
      subst e
      have F := H.fin (by decide) (by omega) hlt hblt hb0 (by rw [← hAe, ← hQ]; exact hq1) (by rw [← hAe, ← hQ]; exact hq2)
      rw [← hAe, ← hQ] at F
      obtain ⟨x, hx⟩ : ∃ x, x = l.getD (off + (m + 2)) 0 := ⟨_, rfl⟩
      rw [← hx] at F
      have hxlt : x < 4294967296 := by rw [hx]; exact H.lt.getD (by decide) _
      have ga : (row .u32 l).getD (off + (m + 2)) .junk = .int .u32 ((x : Nat) : Int) := by rw [row_getD .u32 (by omega), ← hx]
      have v1 : IntKind.i64.wrap ((x : Nat) : Int) = ((x : Nat) : Int) := wi64 (by omega)
      have v2 : IntKind.i64.wrap ((carry : Nat) : Int) = ((carry : Nat) : Int) := wi64 (by omega)
      have v3 : IntKind.i64.wrap ((x : Int) - (carry : Int)) = (x : Int) - (carry : Int) := wi64_in (by omega) (by omega)
      have c2 : off + (m + 2) < l.length := by omega
      have c3 : off + (m + 2) + 1 ≤ l.length := by omega
      have q1 : q % 4294967296 = q := m32 (by omega)
      rcases F with ⟨f1, f2, f3⟩ | ⟨f1, f2, f3⟩
      · have v4 : IntKind.i64.wrap (-(c : Int) + ((x : Int) - (carry : Int))) = ((0 : Nat) : Int) := by
          rw [show -(c : Int) + ((x : Int) - (carry : Int)) = ((0 : Nat) : Int) by omega]; exact wi64 (by decide)
        have v5 : 0 % 4294967296 = 0 := rfl
        simp (maxSteps := 2000000) only [↓avp, ↓avmD, avq, ↓reduceIte, Nat.reduceAdd, Nat.reduceMul, Nat.reduceSub, Nat.reduceLT, Nat.reduceLeDiff, Nat.reduceEqDiff, Nat.reducePow, Nat.reduceMod, h0, ga, v1, v2, v3, v4, v5, k0, c2, c3, q1]
        refine ret_now ?_
        simp (maxSteps := 2000000) only [↓avp, ↓avmD, avq, ↓reduceIte, Nat.reduceAdd, Nat.reduceMul, Nat.reduceSub, Nat.reduceLT, Nat.reduceLeDiff, Nat.reduceEqDiff, Nat.reducePow, Nat.reduceMod, f2]
        exact ⟨_, rfl, f3⟩
      · have v4 : IntKind.i64.wrap (-(c : Int) + ((x : Int) - (carry : Int))) = -1 := by
          rw [show -(c : Int) + ((x : Int) - (carry : Int)) = -1 by omega]; rfl
        have v5 : IntKind.u32.wrap (-1) = ((4294967295 : Nat) : Int) := rfl
        have v6 : (((0 : Nat) : Int) ≤ -1) = False := by simp
        simp (maxSteps := 2000000) only [↓avp, ↓avmD, avq, ↓reduceIte, Nat.reduceAdd, Nat.reduceMul, Nat.reduceSub, Nat.reduceLT, Nat.reduceLeDiff, Nat.reduceEqDiff, Nat.reducePow, Nat.reduceMod, h0, ga, v1, v2, v3, v4, v5, v6, k0, c2, c3, u1]
        obtain ⟨lB, hlB⟩ : ∃ lB, lB = l.set (off + (m + 2)) 4294967295 := ⟨_, rfl⟩
        have hlBl : lB.length = L.length := by rw [hlB, List.length_set, hll]
        have hlBt : AllLt 4294967296 lB := by rw [hlB]; exact H.lt.set (by decide) _
        have f3' : ∀ s l2, AbN 4294967296 b lB off (m + 2) s l2 → s = 1 ∧ StepOut 4294967296 b L off (m + 2) (l2.set (off + (m + 2)) 0) := by rw [hlB]; exact f3
        have hlBg : lB.getD (off + (m + 2)) 0 = 4294967295 := by rw [hlB]; exact getD_set_eq c2 _ _
        rw [← hlB]
        refine loop_of (fun c : Nat × Nat × List Nat => ⟨[.osl 0 off (m + 2 + 1),J,J,J,J,.int .i64 ((m + 2 : Nat) : Int),J,.int .u64 q,J,J,J,J,J,.int .u64 c.2.1,J,J,J,J,J,J,J,J,J,J,J,J,J,J,J,J,J,J,J,J,J,J,J,J,J,J,J,J,J,J,J,J,J,J,J,J,J,J,J,J,J,J,J,J,J,J,J,J,J,J,J,J,J,J,J,J,J,J,J,J,J,J,J,J,J,J,J,J,J,J,J,J,J,J,J,J,J,J,J,J,J,J,J,J,J,J,J,J,J,J,J,J,J,J,J,J,J,J,J,J,J,J,J,J,J,J,J,J,J,J,J,J,J,J,J,J,J,J,J,J,J,.sl (m + 2) (row .u32 (dig 4294967296 b)),.int .i64 ((m + 2 : Nat) : Int),.int .i64 c.1,J,J,J,J,J,J,J,J,J,J,J,J,J,J,J,J,J,J,J,J,J,J,J,J,J,J,J,J,J,J,J,J,J], [.arr t_uint32 1 false (row .u32 c.2.2), X]⟩)
          (fun c => c.1 ≤ m + 2 ∧ AbN 4294967296 b lB off c.1 c.2.1 c.2.2) (fun c => m + 2 - c.1) (0, 0, lB) [0, 5, 7, 13, 135, 136, 137] rfl ⟨Nat.zero_le _, AbN.start hlBt⟩ ?_
        clear H f3 hx ga f1 v1 v2 v3 v4 c2 c3 hll hc1 hcar hxlt hlB
        clear l
        rintro ⟨i, s, l⟩ ⟨hi, H⟩
        simp only at hi H
        have hll := H.len
        have hs1 := H.c1
        by_cases h0' : i < m + 2
        · obtain ⟨y, hy⟩ : ∃ y, y = b / 4294967296 ^ i % 4294967296 := ⟨_, rfl⟩
          have hylt : y < 4294967296 := by rw [hy]; exact Nat.mod_lt _ (by decide)
          obtain ⟨x, hx⟩ : ∃ x, x = l.getD (off + i) 0 := ⟨_, rfl⟩
          have hxlt : x < 4294967296 := by rw [hx]; exact H.lt.getD (by decide) _
          obtain ⟨z, hz⟩ : ∃ z, z = s + (x + y) := ⟨_, rfl⟩
          have S := H.step (by decide) (by omega) (s := z) (by rw [hz, hx, hy])
          have gb : (row .u32 (dig 4294967296 b)).getD i .junk = .int .u32 ((y : Nat) : Int) := by rw [row_getD .u32 (by omega), gB, ← hy]
          have ga : (row .u32 l).getD (off + i) .junk = .int .u32 ((x : Nat) : Int) := by rw [row_getD .u32 (by omega), ← hx]
          have n1 : y % 18446744073709551616 = y := m64 (by omega)
          have n2 : x % 18446744073709551616 = x := m64 (by omega)
          have n3 : (x + y) % 18446744073709551616 = x + y := m64 (by omega)
          have n4 : z % 18446744073709551616 = z := m64 (by omega)
          have v7 : IntKind.i64.wrap ((i + 1 : Nat) : Int) = ((i + 1 : Nat) : Int) := wi64 (by omega)
          have c1 : i < m + 2 + 1 := by omega
          have c2 : off + i < l.length := by omega
          have c3 : off + i + 1 ≤ l.length := by omega
          have c4 : i + 1 ≤ m + 2 := h0'
          simp (maxSteps := 2000000) only [↓avp, ↓avmD, avq, ↓reduceIte, Nat.reduceAdd, Nat.reduceMul, Nat.reduceSub, Nat.reduceLT, Nat.reduceLeDiff, Nat.reduceEqDiff, Nat.reducePow, Nat.reduceMod, h0', gb, d1, n1, n2, n3, ← hz, n4, ga, v7, c1, c2, c3, c4]
          exact LN.next (i + 1, z / 4294967296, l.set (off + i) (z % 4294967296)) [0, 5, 7, 13, 135, 136, 137] ⟨c4, S⟩ (by simp only; omega) rfl
        · have e : i = m + 2 := by omega
          subst e
          obtain ⟨g1, g2⟩ := f3' s l H
          subst g1
          have hx : l.getD (off + (m + 2)) 0 = 4294967295 := by rw [H.z _ (Nat.le_refl _)]; exact hlBg
          have ga : (row .u32 l).getD (off + (m + 2)) .junk = .int .u32 ((4294967295 : Nat) : Int) := by rw [row_getD .u32 (by omega), hx]
          have c2 : off + (m + 2) < l.length := by omega
          have c3 : off + (m + 2) + 1 ≤ l.length := by omega
          have n1 : 1 % 4294967296 = 1 := rfl
          have n2 : (4294967295 + 1) % 4294967296 = 0 := rfl
          have q2 : 1 ≤ q := by omega
          have q3 : (q - 1) % 18446744073709551616 = q - 1 := m64 (by omega)
          have q4 : (q - 1) % 4294967296 = q - 1 := m32 (by omega)
          have q5 : q - 1 = Q := by omega
          simp (maxSteps := 2000000) only [↓avp, ↓avmD, avq, ↓reduceIte, Nat.reduceAdd, Nat.reduceMul, Nat.reduceSub, Nat.reduceLT, Nat.reduceLeDiff, Nat.reduceEqDiff, Nat.reducePow, Nat.reduceMod, h0', ga, n1, n2, k0, c2, c3, q2, q3, q4]
          refine ret_now ?_
          simp (maxSteps := 2000000) only [↓avp, ↓avmD, avq, ↓reduceIte, Nat.reduceAdd, Nat.reduceMul, Nat.reduceSub, Nat.reduceLT, Nat.reduceLeDiff, Nat.reduceEqDiff, Nat.reducePow, Nat.reduceMod, q5]
          exact ⟨_, rfl, g2⟩
  refine loop_of (fun c : Nat × Nat => ⟨[.osl 0 off (m + 2 + 1),.sl (m + 2) (row .u32 (dig 4294967296 b)),J,J,J,.int .i64 ((m + 2 : Nat) : Int),J,.int .u64 c.1,.int .u64 c.2,J,J,J,J,J,J,J,J,J,J,J,J,J,J,J,J,J,J,J,J,J,J,J,J,J,J,J,J,J,J,J,J,J,J,J,J,J,J,J,J,J,J,J,J,J,J,J,J,J,J,J,J,J,J,J,J,J,J,J,J,J,J,J,J,J,J,J,J,J,J,J,J,J,J,J,J,J,J,J,J,J,J,J,J,J,J,J,J,J,J,J,J,J,J,J,J,J,J,J,J,J,J,J,J,J,J,J,J,J,J,J,J,J,J,J,J,J,J,J,J,J,J,J,J,J,J,J,J,J,J,J,J,J,J,J,J,J,J,J,J,J,J,J,J,J,J,J,J,J,J,J,J,J,J,J,J,J,J,J,J,J,J], [.arr t_uint32 1 false (row .u32 L), X]⟩)
    (fun c => c.1 * b1 + c.2 = two ∧ Q ≤ c.1 ∧ c.1 ≤ 4294967295 ∧ c.2 ≤ 8589934592) (fun c => 8589934593 - c.2) (qh, two - qh * b1) [0, 1, 5, 7, 8] rfl ⟨by simp only; omega, q0', hqh2, hr0⟩ ?_
  rintro ⟨q, r⟩ ⟨hqr, hq1, hq2, hr⟩
  simp only at hqr hq1 hq2 hr
  by_cases hr1 : r ≤ 4294967295
  · have n1 : b2 % 18446744073709551616 = b2 := m64 (by omega)
    have hqb : q * b2 ≤ 4294967295 * 4294967295 := Nat.mul_le_mul hq2 (by omega)
    have n2 : q * b2 % 18446744073709551616 = q * b2 := m64 (by omega)
    have n3 : r * 4294967296 % 18446744073709551616 = r * 4294967296 := m64 (by omega)
    have n4 : a3 % 18446744073709551616 = a3 := m64 (by omega)
    have n5 : (r * 4294967296) ||| a3 = r * 4294967296 + a3 := or_high ha3lt
    have n6 : (r * 4294967296 + a3) % 18446744073709551616 = r * 4294967296 + a3 := m64 (by omega)
    by_cases hc : r * 4294967296 + a3 < q * b2
    · have hlt' := kq_dec (B := 4294967296) hbb hAA hp hqr hc hb0
      rw [← hQ] at hlt'
      have c1 : 1 ≤ q := by omega
      have n7 : (q - 1) % 18446744073709551616 = q - 1 := m64 (by omega)
      have n8 : (r + b1) % 18446744073709551616 = r + b1 := m64 (by omega)
      simp (maxSteps := 2000000) only [↓avp, ↓avmD, avq, ↓reduceIte, Nat.reduceAdd, Nat.reduceMul, Nat.reduceSub, Nat.reduceLT, Nat.reduceLeDiff, Nat.reduceEqDiff, Nat.reducePow, Nat.reduceMod, hr1, r1, r2, r3, r4, w1, w2, k1, k2, k3, k4, gA2, gB1, gB2, d1, l2, n1, n2, n3, n4, n5, n6, hc, c1, n7, m5, n8]
      refine LN.next (q - 1, r + b1) [0, 1, 5, 7, 8] ⟨?_, by simp only; omega, by simp only; omega, by simp only; omega⟩ (by simp only; omega) rfl
      simp only
      have : q * b1 = (q - 1) * b1 + b1 := by
        conv => lhs; rw [show q = q - 1 + 1 by omega, Nat.add_mul, Nat.one_mul]
      omega
    · have hfin := kq_fin (B := 4294967296) hbb hAA hp hqr (by omega) hb1pos (by omega)
      rw [← hQ] at hfin
      simp (maxSteps := 2000000) only [↓avp, ↓avmD, avq, ↓reduceIte, Nat.reduceAdd, Nat.reduceMul, Nat.reduceSub, Nat.reduceLT, Nat.reduceLeDiff, Nat.reduceEqDiff, Nat.reducePow, Nat.reduceMod, hr1, r1, r2, r3, r4, w1, w2, k1, k2, k3, k4, gA2, gB1, gB2, d1, l2, n1, n2, n3, n4, n5, n6, hc]
      exact hTail q hq1 hfin hq2 ..
  · have hfin := kq_fin (B := 4294967296) hbb hAA hp hqr (by
      have h1 : q * b2 ≤ 4294967295 * 4294967295 := Nat.mul_le_mul hq2 (by omega)
      omega) hb1pos (by omega)
    rw [← hQ] at hfin
    simp (maxSteps := 2000000) only [↓avp, ↓avmD, avq, ↓reduceIte, Nat.reduceAdd, Nat.reduceMul, Nat.reduceSub, Nat.reduceLT, Nat.reduceLeDiff, Nat.reduceEqDiff, Nat.reducePow, Nat.reduceMod, hr1]
    exact hTail q hq1 hfin hq2 ..
end Va
/- The program's naturals: quotients. -/
set_option linter.unusedSimpArgs false
set_option linter.unusedVariables false
set_option maxRecDepth 100000
set_option maxHeartbeats 16000000
open Go Go.Avm
namespace Va
attribute [local irreducible] ACallF FCallF
variable {G : Glob}
theorem win_lt {B D i m : Nat} {l : List Nat} (hB : 0 < B) (h : val B l < D * B ^ (i + 1)) : win B l i m < D * B := by
  refine Nat.lt_of_le_of_lt (Nat.mod_le _ _) (Nat.div_lt_of_lt_mul ?_)
  rw [Nat.mul_comm, Nat.mul_assoc, ← Nat.pow_succ']
  exact h
/-- How a divisor is brought up. -/
theorem norm_facts {b lb t by_ : Nat} (hb0 : 0 < b) (hlb : dl 4294967296 b = lb) (ht : t = dl 2 (b / 4294967296 ^ (lb - 1) % 4294967296)) (hby : by_ = 32 - t) :
    1 ≤ t ∧ t ≤ 32 ∧ by_ ≤ 31 ∧ dl 4294967296 (b * 2 ^ by_) = lb ∧ 2 ^ (32 * lb - 1) ≤ b * 2 ^ by_ := by
  have h1 := dl_bits hb0
  rw [hlb, ← ht] at h1
  have h2 : 0 < lb := by
    rcases Nat.eq_zero_or_pos lb with h | h
    · rw [h, dl_eq_zero (by decide)] at hlb; omega
    · exact h
  have ht32 : t ≤ 32 := by
    rw [ht]; exact (dl_le_iff (by decide)).2 (Nat.mod_lt _ (by decide))
  have ht1 : 1 ≤ t := by
    rcases Nat.eq_zero_or_pos t with h | h
    · have h3 := dl_two_le b
      have h4 : dl 4294967296 b ≤ lb - 1 := dl_of_bits (by omega)
      omega
    · exact h
  have h5 : b < 2 ^ (32 * (lb - 1) + t) := by rw [← h1]; exact lt_pow_dl (by decide) b
  have h6 : 2 ^ (32 * (lb - 1) + t - 1) ≤ b := by rw [← h1]; exact dl_pow_le (by decide) hb0
  have h7 : b * 2 ^ by_ < 2 ^ (32 * lb) := by
    have := Nat.mul_lt_mul_of_pos_right h5 (Nat.pow_pos (n := by_) (show 0 < 2 by decide))
    rw [← Nat.pow_add, show 32 * (lb - 1) + t + by_ = 32 * lb by omega] at this
    exact this
  have h8 : 2 ^ (32 * lb - 1) ≤ b * 2 ^ by_ := by
    have := Nat.mul_le_mul_right (2 ^ by_) h6
    rw [← Nat.pow_add, show 32 * (lb - 1) + t - 1 + by_ = 32 * lb - 1 by omega] at this
    exact this
  refine ⟨ht1, ht32, by omega, ?_, h8⟩
  have h9 : dl 4294967296 (b * 2 ^ by_) ≤ lb := (dl_le_iff (by decide)).2 (by rw [show 4294967296 = 2 ^ 32 by rfl, ← Nat.pow_mul]; exact h7)
  have h10 : ¬ dl 4294967296 (b * 2 ^ by_) ≤ lb - 1 := fun h => by
    have h11 := (dl_le_iff (by decide)).1 h
    rw [show 4294967296 = 2 ^ 32 by rfl, ← Nat.pow_mul] at h11
    have : 2 ^ (32 * (lb - 1)) ≤ 2 ^ (32 * lb - 1) := Nat.pow_le_pow_right (by decide) (by omega)
    omega
  omega
theorem pow32 (k : Nat) : 4294967296 ^ k = 2 ^ (32 * k) := by rw [Nat.pow_mul]
theorem nat_Div_px (a b : Nat) (hb0 : 0 < b) (ha : dl 4294967296 a ≤ 999999990) (hb : dl 4294967296 b ≤ 999999990) : PX P G n_nat_Nat_Div [natV a, natV b] (.tup [natV (a / b), natV (a % b), .bool true]) := by
  refine PX_of_awp low_nat_Nat_Div fol (by simp only [avmF, natV, and_true]) (by simp only [avmF, natV, and_true]) ?_
  have dA := nat_digits_px (G := G) a
  have dB := nat_digits_px (G := G) b
  obtain ⟨la, hla⟩ : ∃ k, k = (dig 4294967296 a).length := ⟨_, rfl⟩
  obtain ⟨lb, hlb⟩ : ∃ k, k = (dig 4294967296 b).length := ⟨_, rfl⟩
  have hla2 : dl 4294967296 a = la := hla.symm
  have hlb2 : dl 4294967296 b = lb := hlb.symm
  have d1 : (dig 4294967296 a).length = la := hla.symm
  have d2 : (dig 4294967296 b).length = lb := hlb.symm
  have u1 : la ≤ 9223372036854775807 := by omega
  have u2 : lb ≤ 9223372036854775807 := by omega
  have hlb0 : lb ≠ 0 := fun e => by rw [← hlb2, dl_eq_zero (by decide)] at e; omega
  have e0 : (lb = 0) = False := by simp [hlb0]
  have hC := nat_Cmp_px (G := G) a b (by omega) (by omega)
  unfold natV slV at dA dB hC
  rw [← hla] at dA hC
  rw [← hlb] at dB hC
  by_cases hab : a < b
  · have hc : (cmpI a b < ((0 : Nat) : Int)) = True := by simp [cmpI, hab]
    have hO := nat_of_px (G := G) (dig 4294967296 a) (dig_lt (by decide) a)
    rw [val_dig (by decide)] at hO
    unfold slV at hO
    rw [← hla] at hO
    rw [Nat.div_eq_of_lt hab, Nat.mod_eq_of_lt hab]
    simp only [ir_nat_Nat_Div, sX, mX, initF, List.replicate, Nat.reduceAdd, Nat.reduceSub, iv, avmL]
    simp (maxSteps := 2000000) only [↓avp, ↓avmD, avq, ↓reduceIte, Nat.reduceAdd, Nat.reduceMul, Nat.reduceSub, Nat.reduceLT, Nat.reduceLeDiff, Nat.reduceEqDiff, Nat.reducePow, Nat.reduceMod, natV, slV, d1, d2]
    repeat ((first | refine dB.call ?_ | refine hC.call ?_ | refine nat_of_nils.call ?_ | refine dA.call ?_ | refine hO.call ?_); simp (maxSteps := 2000000) only [↓avp, ↓avmD, avq, ↓reduceIte, Nat.reduceAdd, Nat.reduceMul, Nat.reduceSub, Nat.reduceLT, Nat.reduceLeDiff, Nat.reduceEqDiff, Nat.reducePow, Nat.reduceMod, u2, e0, hc])
    refine ret_now ?_
    simp (maxSteps := 2000000) only [↓avp, ↓avmD, avq, ↓reduceIte, Nat.reduceAdd, Nat.reduceMul, Nat.reduceSub, Nat.reduceLT, Nat.reduceLeDiff, Nat.reduceEqDiff, Nat.reducePow, Nat.reduceMod, natV, slV, d1]
  have hc : (cmpI a b < ((0 : Nat) : Int)) = False := by unfold cmpI; rw [if_neg hab]; split <;> simp
  by_cases h1 : lb = 1
  · have hbB : b < 4294967296 := by
      have := lt_pow_dl (B := 4294967296) (by decide) b
      rw [hlb2, h1] at this
      omega
    have gB : (row .u32 (dig 4294967296 b)).getD 0 .junk = .int .u32 ((b : Nat) : Int) := by
      rw [row_getD .u32 (by omega), dig_getD (by decide), Nat.pow_zero, Nat.div_one, Nat.mod_eq_of_lt hbB]
    have m1 : b % 18446744073709551616 = b := m64 (by omega)
    have hS := nat_short_px (G := G) (dig 4294967296 a) b (dig_lt (by decide) a) hb0 (by omega) (by omega)
    rw [val_dig (by decide), d1] at hS
    have hpl : a / b < 4294967296 ^ la := by
      refine Nat.lt_of_le_of_lt (Nat.div_le_self _ _) ?_
      rw [← hla2]; exact lt_pow_dl (by decide) a
    have hO := nat_of_px (G := G) (padd 4294967296 la (a / b)) (padd_lt (by decide) _ _)
    rw [padd_val (by decide) _ _ hpl] at hO
    have hmod : a % b < b := Nat.mod_lt _ hb0
    have hOf := nat_Of_px (G := G) (a % b) (by omega)
    unfold slV at hS hO
    rw [d1] at hS
    have c0 : 0 < lb := by omega
    have e1 : (lb = 1) = True := by simp [h1]
    simp only [ir_nat_Nat_Div, sX, mX, initF, List.replicate, Nat.reduceAdd, Nat.reduceSub, iv, avmL]
    simp (maxSteps := 2000000) only [↓avp, ↓avmD, avq, ↓reduceIte, Nat.reduceAdd, Nat.reduceMul, Nat.reduceSub, Nat.reduceLT, Nat.reduceLeDiff, Nat.reduceEqDiff, Nat.reducePow, Nat.reduceMod, natV, slV, d1, d2]
    repeat ((first | refine dB.call ?_ | refine hC.call ?_ | refine dA.fcall ?_ | refine hS.fcall ?_ | refine hO.call ?_ | refine hOf.call ?_); simp (maxSteps := 2000000) only [↓avp, ↓avmD, avq, ↓reduceIte, Nat.reduceAdd, Nat.reduceMul, Nat.reduceSub, Nat.reduceLT, Nat.reduceLeDiff, Nat.reduceEqDiff, Nat.reducePow, Nat.reduceMod, u2, e0, hc, e1, c0, gB, d2, m1])
    refine ret_now ?_
    simp (maxSteps := 2000000) only [↓avp, ↓avmD, avq, ↓reduceIte, Nat.reduceAdd, Nat.reduceMul, Nat.reduceSub, Nat.reduceLT, Nat.reduceLeDiff, Nat.reduceEqDiff, Nat.reducePow, Nat.reduceMod, natV, slV]
  have e1 : (lb = 1) = False := by simp [h1]
  obtain ⟨x, hx⟩ : ∃ x, x = b / 4294967296 ^ (lb - 1) % 4294967296 := ⟨_, rfl⟩
  have hxlt : x < 4294967296 := by rw [hx]; exact Nat.mod_lt _ (by decide)
  obtain ⟨t, ht⟩ : ∃ t, t = dl 2 x := ⟨_, rfl⟩
  obtain ⟨s, hs⟩ : ∃ s, s = 32 - t := ⟨_, rfl⟩
  obtain ⟨t1, t2, s31, hdD, hDge⟩ := norm_facts hb0 hlb2 (by rw [ht, hx]) hs
  have gB : (row .u32 (dig 4294967296 b)).getD (lb - 1) .junk = .int .u32 ((x : Nat) : Int) := by rw [row_getD .u32 (by omega), dig_getD (by decide), ← hx]
  have m1 : x % 18446744073709551616 = x := m64 (by omega)
  have hL := bits_Len_px (G := G) x (by omega)
  rw [← ht] at hL
  have k1 : 1 ≤ lb := by omega
  have k2 : lb - 1 < lb := by omega
  have w1 : IntKind.i64.wrap ((lb - 1 : Nat) : Int) = ((lb - 1 : Nat) : Int) := wi64 (by omega)
  have w2 : IntKind.i64.wrap ((32 - t : Nat) : Int) = ((s : Nat) : Int) := by rw [← hs]; exact wi64 (by omega)
  have hUb := nat_up_px (G := G) b s (by omega) (by omega)
  have hUa := nat_up_px (G := G) a s (by omega) (by omega)
  obtain ⟨D, hD⟩ : ∃ D, D = b * 2 ^ s := ⟨_, rfl⟩
  obtain ⟨N, hN⟩ : ∃ N, N = a * 2 ^ s := ⟨_, rfl⟩
  rw [← hD] at hUb hdD hDge
  rw [← hN] at hUa
  have hp2 : 0 < 2 ^ s := Nat.pow_pos (by decide)
  have hD0 : 0 < D := by rw [hD]; exact Nat.mul_pos hb0 hp2
  have eq1 : a / b = N / D := by rw [hN, hD, Nat.mul_div_mul_right _ _ hp2]
  have eq2 : a % b = N % D / 2 ^ s := by rw [hN, hD, Nat.mul_mod_mul_right, Nat.mul_div_cancel _ hp2]
  have hlab : lb ≤ la := by rw [← hla2, ← hlb2]; exact dl_mono (by decide) (by omega)
  have hNlt : N < 2 ^ (32 * la + 31) := by
    have h3 : a < 2 ^ (32 * la) := by rw [← pow32, ← hla2]; exact lt_pow_dl (by decide) a
    rw [hN, Nat.pow_add]
    exact Nat.lt_of_lt_of_le (Nat.mul_lt_mul_of_pos_right h3 hp2) (Nat.mul_le_mul_left _ (Nat.pow_le_pow_right (by decide) s31))
  have hdN : dl 4294967296 N ≤ la + 1 := by
    refine (dl_le_iff (by decide)).2 ?_
    rw [pow32]
    exact Nat.lt_of_lt_of_le hNlt (Nat.pow_le_pow_right (by decide) (by omega))
  obtain ⟨nq, hnq⟩ : ∃ nq, nq = la + 1 - lb := ⟨_, rfl⟩
  have hND : N < D * 4294967296 ^ nq := by
    refine Nat.lt_of_lt_of_le hNlt ?_
    refine Nat.le_trans ?_ (Nat.mul_le_mul_right _ hDge)
    rw [pow32, ← Nat.pow_add]
    exact Nat.pow_le_pow_right (by decide) (by omega)
  obtain ⟨ln, hln⟩ : ∃ k, k = (dig 4294967296 N).length := ⟨_, rfl⟩
  have hln2 : dl 4294967296 N = ln := hln.symm
  have d3 : (dig 4294967296 N).length = ln := hln.symm
  have d4 : (dig 4294967296 D).length = lb := hdD
  have w3 : IntKind.i64.wrap ((la + 2 : Nat) : Int) = ((la + 2 : Nat) : Int) := wi64 (by omega)
  unfold natV slV at hUb hUa
  rw [d2, d4] at hUb
  rw [d1, d3] at hUa
  have hsz : (la + 2) * 4 ≤ 140737488355328 := by omega
  rw [eq1, eq2]
  simp only [ir_nat_Nat_Div, sX, mX, initF, List.replicate, Nat.reduceAdd, Nat.reduceSub, iv, avmL]
  simp (maxSteps := 2000000) only [↓avp, ↓avmD, avq, ↓reduceIte, Nat.reduceAdd, Nat.reduceMul, Nat.reduceSub, Nat.reduceLT, Nat.reduceLeDiff, Nat.reduceEqDiff, Nat.reducePow, Nat.reduceMod, natV, slV, d1, d2]
  repeat ((first | refine dB.call ?_ | refine hC.call ?_ | refine hL.call ?_ | refine hUb.call ?_ | refine hUa.fcall ?_); simp (maxSteps := 2000000) only [↓avp, ↓avmD, avq, ↓reduceIte, Nat.reduceAdd, Nat.reduceMul, Nat.reduceSub, Nat.reduceLT, Nat.reduceLeDiff, Nat.reduceEqDiff, Nat.reducePow, Nat.reduceMod, u2, e0, hc, e1, k1, k2, w1, gB, d2, m1, t2, w2, u1, w3, hsz, d3])
  refine ⟨by simp only [avmF, and_true], by simp only [avmF, and_true], by simp only [avmF, and_true], by omega, ⟨⟨Nat.le_refl _, rfl, fun h => by cases h⟩, by omega⟩, ?_⟩
  refine loop_of (fun c : Nat × List Nat => ⟨[.ptr [.sl la (row .u32 (dig 4294967296 a))] 0,J,J,J,J,J,J,.sl lb (row .u32 (dig 4294967296 D)),J,J,.int .i64 s,.osl 0 0 c.1,J,J,J,J,J,J,J,J,J,J,J,J,J,J,J,J,J,J,J,J,J,J,J,J,J,J,J,J,J,J,J,J,J,J,J,J,J,J,J,J,J,J,J,J,J,J,J,J,J,J,J,J,J,J,J,J,J,J,J,J,J,J,J,J,J,J,J,J,J,J,J,J,J,J,J,J,J,J,J,J,J,J,J,J,J,J,J,J,J,J,J,J,J,J,J,J,J,J,J,J,J,J,J,J,J,J,J], [.arr t_uint32 1 false (row .u32 c.2)]⟩)
    (fun c => c.2.length = c.1 ∧ c.1 ≤ la + 1 ∧ AllLt 4294967296 c.2 ∧ val 4294967296 c.2 = N) (fun c => la + 1 - c.1) (ln, dig 4294967296 N) [0, 7, 10, 11] rfl ⟨d3, by simp only; omega, dig_lt (by decide) N, val_dig (by decide) N⟩ ?_
  clear hUb hUa hL hC dA dB
  rintro ⟨k, L⟩ ⟨hk, hk2, hLt, hLv⟩
  simp only at hk hk2 hLt hLv
  have u3 : k ≤ 9223372036854775807 := by omega
  by_cases h0 : k ≤ la
  · have v0 : val 4294967296 (L ++ [0]) = N := by rw [val_append, hLv]; simp [val]
    have hLt2 : AllLt 4294967296 (L ++ [0]) := hLt.append (AllLt.cons (by decide) AllLt.nil)
    simp (maxSteps := 2000000) only [↓avp, ↓avmD, avq, ↓reduceIte, Nat.reduceAdd, Nat.reduceMul, Nat.reduceSub, Nat.reduceLT, Nat.reduceLeDiff, Nat.reduceEqDiff, Nat.reducePow, Nat.reduceMod, u1, u3, h0, d1, avmK, cellsOf, putAt, fillP, List.replicate_one, List.set_cons_zero, List.length_cons, List.length_nil, List.take_succ_cons, List.take_zero]
    refine ⟨⟨⟨Nat.le_refl _, hk, fun h => by cases h⟩, by omega⟩, ?_⟩
    refine LN.drop (H0 := [_]) 1 rfl (by decide) ?_
    simp (maxSteps := 2000000) only [↓avp, ↓avmD, avq, ↓reduceIte, Nat.reduceAdd, Nat.reduceMul, Nat.reduceSub, Nat.reduceLT, Nat.reduceLeDiff, Nat.reduceEqDiff, Nat.reducePow, Nat.reduceMod, avmK]
    exact LN.next (k + 1, L ++ [0]) [0, 7, 10, 11] ⟨by simp [hk], by simp only; omega, hLt2, v0⟩ (by simp only; omega) rfl
  · have e : k = la + 1 := by omega
    subst e
    have w4 : IntKind.i64.wrap ((nq : Nat) : Int) = ((nq : Nat) : Int) := wi64 (by omega)
    have c1 : lb ≤ la + 1 := by omega
    have u4 : nq ≤ 9223372036854775807 := by omega
    have w5 : IntKind.i64.wrap ((nq : Int) - ((1 : Nat) : Int)) = (nq : Int) - 1 := wi64_in (by omega) (by omega)
    have c2 : 1 ≤ nq := by omega
    have w6 : IntKind.i64.wrap ((nq - 1 : Nat) : Int) = (nq : Int) - 1 := by rw [wi64 (by omega)]; omega
    simp (maxSteps := 2000000) only [↓avp, ↓avmD, avq, ↓reduceIte, Nat.reduceAdd, Nat.reduceMul, Nat.reduceSub, Nat.reduceLT, Nat.reduceLeDiff, Nat.reduceEqDiff, Nat.reducePow, Nat.reduceMod, u1, u3, h0, d1, u2, c1, ← hnq, w4, u4, c2, w6]
    refine ⟨by omega, ?_⟩
    refine loop_of (fun c : Nat × List Nat × List Nat => ⟨[J,J,J,J,J,J,J,.sl lb (row .u32 (dig 4294967296 D)),J,J,.int .i64 s,.osl 0 0 (la + 1),.osl 1 0 nq,.int .i64 ((c.1 : Int) - 1),J,J,J,J,J,J,J,J,J,J,J,J,J,J,J,J,J,J,J,J,J,J,J,J,J,J,J,J,J,J,J,J,J,J,J,J,J,J,J,J,J,J,J,J,J,J,J,J,J,J,J,J,J,J,J,J,J,J,J,J,J,J,J,J,J,J,J,J,J,J,J,J,J,J,J,J,J,J,J,J,J,J,J,J,J,J,J,J,J,J,J,J,J,J,J,J,J,J,J,J,J,J,J,J,J], [.arr t_uint32 1 false (row .u32 c.2.1), .arr t_uint32 1 false (row .u32 c.2.2)]⟩)
      (fun c => c.1 ≤ nq ∧ c.2.1.length = la + 1 ∧ AllLt 4294967296 c.2.1 ∧ val 4294967296 c.2.1 = N % (D * 4294967296 ^ c.1) ∧ c.2.2.length = nq ∧ ∀ j, c.1 ≤ j → j < nq → c.2.2.getD j 0 = N / D / 4294967296 ^ j % 4294967296) (fun c => c.1) (nq, L, List.replicate nq 0) [7, 10, 11, 12, 13] rfl
      ⟨Nat.le_refl _, hk, hLt, by simp only; rw [Nat.mod_eq_of_lt hND]; exact hLv, by simp, fun j h1 h2 => by simp only at h1; omega⟩ ?_
    clear hLv hLt hk
    clear L
    rintro ⟨k, L, ql⟩ ⟨hk, hLl, hLt, hLv, hql, hqd⟩
    simp only at hk hLl hLt hLv hql hqd
    rcases Nat.eq_zero_or_pos k with rfl | hk0
    · have h0 : (((0 : Nat) : Int) ≤ ((0 : Nat) : Int) - 1) = False := by simp
      have hq := padd_of hql fun j hj => hqd j (Nat.zero_le _) hj
      have hNDl : N / D < 4294967296 ^ nq := Nat.div_lt_of_lt_mul hND
      have hqv : val 4294967296 ql = N / D := by rw [hq]; exact padd_val (by decide) _ _ hNDl
      have hqt : AllLt 4294967296 ql := by rw [hq]; exact padd_lt (by decide) _ _
      have hO1 := nat_of_px (G := G) ql hqt
      have hO2 := nat_of_px (G := G) L hLt
      rw [Nat.pow_zero, Nat.mul_one] at hLv
      rw [hqv] at hO1
      rw [hLv] at hO2
      unfold slV at hO1 hO2
      rw [hql] at hO1
      rw [hLl] at hO2
      have hDD : dl 4294967296 (N % D) ≤ 1000000000 := by
        have := dl_mono (B := 4294967296) (by decide) (Nat.le_of_lt (Nat.mod_lt N hD0))
        omega
      have hDn := nat_down_px (G := G) (N % D) s hDD (by omega)
      have e1 : nq ≤ ql.length := by omega
      have e2 : ql.take nq = ql := List.take_of_length_le (by omega)
      have e3 : la + 1 ≤ L.length := by omega
      have e4 : L.take (la + 1) = L := List.take_of_length_le (by omega)
      simp (maxSteps := 2000000) only [↓avp, ↓avmD, avq, ↓reduceIte, Nat.reduceAdd, Nat.reduceMul, Nat.reduceSub, Nat.reduceLT, Nat.reduceLeDiff, Nat.reduceEqDiff, Nat.reducePow, Nat.reduceMod, h0]
      refine ACall.fzc (H0 := [_]) 1 rfl rfl (Nat.zero_le _) (by simp only [avmF]) ?_
      simp (maxSteps := 2000000) only [↓avp, ↓avmD, avq, ↓reduceIte, Nat.reduceAdd, Nat.reduceMul, Nat.reduceSub, Nat.reduceLT, Nat.reduceLeDiff, Nat.reduceEqDiff, Nat.reducePow, Nat.reduceMod, avmT, avmK, ne_eq, not_false_eq_true, e1, e2]
      refine hO1.call ?_
      simp (maxSteps := 2000000) only [↓avp, ↓avmD, avq, ↓reduceIte, Nat.reduceAdd, Nat.reduceMul, Nat.reduceSub, Nat.reduceLT, Nat.reduceLeDiff, Nat.reduceEqDiff, Nat.reducePow, Nat.reduceMod]
      refine ACall.fzc (H0 := []) 0 rfl rfl (Nat.zero_le _) (by simp only [avmF]) ?_
      simp (maxSteps := 2000000) only [↓avp, ↓avmD, avq, ↓reduceIte, Nat.reduceAdd, Nat.reduceMul, Nat.reduceSub, Nat.reduceLT, Nat.reduceLeDiff, Nat.reduceEqDiff, Nat.reducePow, Nat.reduceMod, avmT, avmK, natV, slV, e3, e4]
      repeat ((first | refine hO2.call ?_ | refine hDn.call ?_); simp (maxSteps := 2000000) only [↓avp, ↓avmD, avq, ↓reduceIte, Nat.reduceAdd, Nat.reduceMul, Nat.reduceSub, Nat.reduceLT, Nat.reduceLeDiff, Nat.reduceEqDiff, Nat.reducePow, Nat.reduceMod])
      refine ret_now ?_
      simp (maxSteps := 2000000) only [↓avp, ↓avmD, avq, ↓reduceIte, Nat.reduceAdd, Nat.reduceMul, Nat.reduceSub, Nat.reduceLT, Nat.reduceLeDiff, Nat.reduceEqDiff, Nat.reducePow, Nat.reduceMod, natV, slV]
    · obtain ⟨i, rfl⟩ : ∃ i, k = i + 1 := ⟨k - 1, by omega⟩
      have ei : (((i + 1 : Nat) : Int) - 1) = (i : Int) := by omega
      have hvl : val 4294967296 L < D * 4294967296 ^ (i + 1) := by
        rw [hLv]; exact Nat.mod_lt _ (Nat.mul_pos hD0 (Nat.pow_pos (by decide)))
      have hSt := nat_step_ac (G := G) L (.arr t_uint32 1 false (row .u32 ql)) D i lb hdD (by omega) (by omega) (by omega) (by omega) hLt (win_lt (by decide) hvl)
      unfold slV at hSt
      rw [d4] at hSt
      have w7 : IntKind.i64.wrap ((i + lb : Nat) : Int) = ((i + lb : Nat) : Int) := wi64 (by omega)
      have w8 : IntKind.i64.wrap ((i + lb + 1 : Nat) : Int) = ((i + lb + 1 : Nat) : Int) := wi64 (by omega)
      have w9 : IntKind.i64.wrap ((i : Int) - ((1 : Nat) : Int)) = (i : Int) - 1 := wi64_in (by omega) (by omega)
      simp (maxSteps := 2000000) only [↓avp, ↓avmD, avq, ↓reduceIte, Nat.reduceAdd, Nat.reduceMul, Nat.reduceSub, Nat.reduceLT, Nat.reduceLeDiff, Nat.reduceEqDiff, Nat.reducePow, Nat.reduceMod, ei, u2, w7, w8, w9]
      refine ⟨⟨by omega, by omega⟩, fun h => absurd h (by omega), fun _ => ?_⟩
      have z1 : i + lb + 1 - i = lb + 1 := by omega
      have z2 : i ≤ i + lb + 1 := by omega
      simp (maxSteps := 2000000) only [↓avp, ↓avmD, avq, ↓reduceIte, Nat.reduceAdd, Nat.reduceMul, Nat.reduceSub, Nat.reduceLT, Nat.reduceLeDiff, Nat.reduceEqDiff, Nat.reducePow, Nat.reduceMod, z1, z2]
      refine AC.callF hSt ?_
      rintro x H' ⟨rfl, L', rfl, S⟩
      obtain ⟨f1, f2, f3, f4⟩ := S.div (off := 0) (by decide) hD0 (by rw [← hdD]; exact lt_pow_dl (by decide) D) hLt hvl
      obtain ⟨qd, hqd'⟩ : ∃ qd, qd = win 4294967296 L i (lb + 1) / D := ⟨_, rfl⟩
      have hqq : qd = N / D / 4294967296 ^ i % 4294967296 := by
        rw [hqd', f3, hLv, Nat.pow_succ, Nat.div_div_eq_div_mul, ← Nat.mul_assoc, Nat.mod_mul_right_div_self, Nat.div_div_eq_div_mul]
      have hqlt : qd < 4294967296 := by rw [hqq]; exact Nat.mod_lt _ (by decide)
      have c5 : i < nq := by omega
      have c6 : i + 1 ≤ nq := by omega
      rw [← hqd']
      simp (maxSteps := 2000000) only [↓avp, ↓avmD, avq, ↓reduceIte, Nat.reduceAdd, Nat.reduceMul, Nat.reduceSub, Nat.reduceLT, Nat.reduceLeDiff, Nat.reduceEqDiff, Nat.reducePow, Nat.reduceMod, c5, hql, c6, w9]
      refine LN.next (i, L', ql.set i qd) [7, 10, 11, 12, 13] ⟨by simp only; omega, by simp only; rw [S.len]; exact hLl, S.lt, ?_, by simp only [List.length_set]; exact hql, fun j h1 h2 => ?_⟩ (by simp only; omega) rfl
      · simp only
        rw [f2, hLv, Nat.mod_mod_of_dvd]
        rw [Nat.pow_succ, ← Nat.mul_assoc]
        exact Nat.dvd_mul_right _ _
      · simp only at h1 ⊢
        by_cases e : j = i
        · subst e; rw [getD_set_eq (by omega)]; exact hqq
        · rw [getD_set_ne (Ne.symm e)]; exact hqd j (by omega) h2
end Va
/- The program's naturals: the greatest common measure. -/
set_option linter.unusedSimpArgs false
set_option linter.unusedVariables false
set_option maxRecDepth 100000
set_option maxHeartbeats 16000000
open Go Go.Avm
namespace Va
attribute [local irreducible] ACallF FCallF
variable {G : Glob}
theorem nat_common_px (a b : Nat) (ha : a < 18446744073709551616) (hb : b < 18446744073709551616) : PX P G n_nat_common [.int .u64 a, .int .u64 b] (.int .u64 ((Nat.gcd a b : Nat) : Int)) := by
  refine PX_of_awp low_nat_common fol (by simp only [avmF, and_true]) (by simp only [avmF]) ?_
  simp only [ir_nat_common, sX, mX, initF, List.replicate, Nat.reduceAdd, Nat.reduceSub, iv, avmL]
  simp (maxSteps := 2000000) only [↓avp, ↓avmD, avq, ↓reduceIte, Nat.reduceAdd, Nat.reduceMul, Nat.reduceSub, Nat.reduceLT, Nat.reduceLeDiff, Nat.reduceEqDiff, Nat.reducePow, Nat.reduceMod]
  refine loop_of (fun c : Nat × Nat => ⟨[.int .u64 c.1,.int .u64 c.2,J,J,J,J,J,J,J,J,J,J], []⟩)
    (fun c => Nat.gcd c.1 c.2 = Nat.gcd a b ∧ c.1 < 18446744073709551616 ∧ c.2 < 18446744073709551616) (fun c => c.2) (a, b) [0, 1] rfl ⟨rfl, ha, hb⟩ ?_
  rintro ⟨x, y⟩ ⟨hg, hx, hy⟩
  simp only at hg hx hy
  by_cases h0 : y = 0
  · have e0 : (y ≠ 0) = False := by simp [h0]
    simp (maxSteps := 2000000) only [↓avp, ↓avmD, avq, ↓reduceIte, Nat.reduceAdd, Nat.reduceMul, Nat.reduceSub, Nat.reduceLT, Nat.reduceLeDiff, Nat.reduceEqDiff, Nat.reducePow, Nat.reduceMod, e0]
    refine ret_now ?_
    simp (maxSteps := 2000000) only [↓avp, ↓avmD, avq, ↓reduceIte, Nat.reduceAdd, Nat.reduceMul, Nat.reduceSub, Nat.reduceLT, Nat.reduceLeDiff, Nat.reduceEqDiff, Nat.reducePow, Nat.reduceMod]
    rw [← hg, h0, Nat.gcd_zero_right]
  · have e0 : (y ≠ 0) = True := by simp [h0]
    have y0 : (y = 0) = False := by simp [h0]
    have hm : x % y < y := Nat.mod_lt _ (by omega)
    simp (maxSteps := 2000000) only [↓avp, ↓avmD, avq, ↓reduceIte, Nat.reduceAdd, Nat.reduceMul, Nat.reduceSub, Nat.reduceLT, Nat.reduceLeDiff, Nat.reduceEqDiff, Nat.reducePow, Nat.reduceMod, e0, y0]
    refine LN.next (y, x % y) [0, 1] ⟨?_, hy, by simp only; omega⟩ (by simp only; exact hm) rfl
    simp only
    rw [← hg, Nat.gcd_comm x y, Nat.gcd_rec y x, Nat.gcd_comm]
theorem two64 {n : Nat} : n < 18446744073709551616 ↔ (dig 4294967296 n).length ≤ 2 := by
  have := dl_le_iff (B := 4294967296) (n := n) (k := 2) (by decide)
  unfold dl at this
  rw [this]
theorem nat_shifts_px (a b : Nat) (ha0 : 0 < a) (hb0 : 0 < b) (ha : dl 4294967296 a ≤ 900000000) (hb : dl 4294967296 b ≤ 900000000) : PX P G n_nat_shifts [natV a, natV b] (natV (Nat.gcd a b)) := by
  refine PX_of_awp low_nat_shifts fol (by simp only [avmF, natV, and_true]) (by simp only [avmF, natV, and_true]) ?_
  have Ta := nat_Twos_px (G := G) a (by omega)
  have Tb := nat_Twos_px (G := G) b (by omega)
  have ta := tz_lt_dl ha0
  have tb := tz_lt_dl hb0
  have ta2 := dl_two_le a
  have tb2 := dl_two_le b
  have Da := nat_down_px (G := G) a (tz a) (by omega) (by omega)
  have Db := nat_down_px (G := G) b (tz b) (by omega) (by omega)
  obtain ⟨by_, hby⟩ : ∃ k, k = min (tz a) (tz b) := ⟨_, rfl⟩
  have hg := gcd_twos ha0 hb0
  rw [← hby] at hg
  obtain ⟨ma, ma1, ma2⟩ := tz_div_odd ha0
  obtain ⟨mb, mb1, mb2⟩ := tz_div_odd hb0
  obtain ⟨A, hA⟩ : ∃ A, A = a / 2 ^ tz a := ⟨_, rfl⟩
  obtain ⟨B, hB⟩ : ∃ B, B = b / 2 ^ tz b := ⟨_, rfl⟩
  rw [← hA] at Da hg ma1
  rw [← hB] at Db hg mb1
  have hAle : A ≤ a := by rw [hA]; exact Nat.div_le_self _ _
  have hBle : B ≤ b := by rw [hB]; exact Nat.div_le_self _ _
  rw [hg]
  simp only [ir_nat_shifts, sX, mX, initF, List.replicate, Nat.reduceAdd, Nat.reduceSub, iv, avmL]
  simp (maxSteps := 2000000) only [↓avp, ↓avmD, avq, ↓reduceIte, Nat.reduceAdd, Nat.reduceMul, Nat.reduceSub, Nat.reduceLT, Nat.reduceLeDiff, Nat.reduceEqDiff, Nat.reducePow, Nat.reduceMod]
  repeat ((first | refine Ta.call ?_ | refine Tb.call ?_ | refine Da.call ?_ | refine Db.call ?_); simp (maxSteps := 2000000) only [↓avp, ↓avmD, avq, ↓reduceIte, Nat.reduceAdd, Nat.reduceMul, Nat.reduceSub, Nat.reduceLT, Nat.reduceLeDiff, Nat.reduceEqDiff, Nat.reducePow, Nat.reduceMod, ← hby])
  refine loop_of (fun c : Nat × Nat => ⟨[natV c.1,natV c.2,J,J,J,.int .i64 by_,J,J,J,J,J,J,J,J,J,J,J,J,J,J,J,J,J,J,J,J,J,J,J,J,J,J,J,J,J,J,J,J,J,J,J,J,J,J,J,J,J,J,J,J,J,J,J,J,J,J,J,J,J,J,J,J,J,J,J,J,J,J,J,J,J,J,J,J,J,J,J], []⟩)
    (fun c => Nat.gcd c.1 c.2 = Nat.gcd A B ∧ c.1 ≤ max a b ∧ c.2 ≤ max a b ∧ (∃ m, c.1 = 2 * m + 1) ∧ ∃ m, c.2 = 2 * m + 1) (fun c => c.1 + c.2) (A, B) [0, 1, 5] rfl ⟨rfl, by simp only; omega, by simp only; omega, ⟨ma, ma1⟩, ⟨mb, mb1⟩⟩ ?_
  clear Ta Tb Da Db
  have hmx : dl 4294967296 (max a b) ≤ 900000000 := by
    rcases Nat.le_total a b with h | h
    · rw [Nat.max_eq_right h]; exact hb
    · rw [Nat.max_eq_left h]; exact ha
  rintro ⟨x, y⟩ ⟨hxy, hx, hy, ⟨mx, hmx1⟩, ⟨my, hmy1⟩⟩
  simp only at hxy hx hy hmx1 hmy1
  have dx := Nat.le_trans (dl_mono (B := 4294967296) (by decide) hx) hmx
  have dy := Nat.le_trans (dl_mono (B := 4294967296) (by decide) hy) hmx
  have hC := nat_Cmp_px (G := G) x y (by omega) (by omega)
  -- one round, the greater ahead
  have round : ∀ (x y mx my : Nat), y < x → x = 2 * mx + 1 → y = 2 * my + 1 → x ≤ max a b → Nat.gcd x y = Nat.gcd A B → dl 4294967296 x ≤ 900000000 → dl 4294967296 y ≤ 900000000 →
      ∃ z, z = (x - y) / 2 ^ tz (x - y) ∧ 0 < x - y ∧ z < x ∧ (∃ m, z = 2 * m + 1) ∧ Nat.gcd z y = Nat.gcd A B ∧ dl 4294967296 (x - y) ≤ 900000000 ∧ dl 4294967296 z ≤ 900000000 ∧ tz (x - y) ≤ 40000000000 := by
    intro x y mx my hlt h1 h2 h3 h4 h5 h6
    obtain ⟨mz, hz1, hz2⟩ := tz_div_odd (n := x - y) (by omega)
    have hle : (x - y) / 2 ^ tz (x - y) ≤ x - y := Nat.div_le_self _ _
    have hd := Nat.le_trans (dl_mono (B := 4294967296) (by decide) (Nat.sub_le x y)) h5
    have hd2 := Nat.le_trans (dl_mono (B := 4294967296) (by decide) hle) hd
    have t1 := tz_lt_dl (n := x - y) (by omega)
    have t2 := dl_two_le (x - y)
    exact ⟨_, rfl, by omega, by omega, ⟨mz, hz1⟩, by rw [gcd_round h1 h2 hlt, h4], hd, hd2, by omega⟩
  rcases Nat.lt_trichotomy x y with hlt | heq | hgt
  · -- change places
    obtain ⟨z, hz, r0, r1, ⟨mz, r2⟩, r3, r4, r5, r6⟩ := round y x my mx hlt hmy1 hmx1 hy (by rw [Nat.gcd_comm]; exact hxy) dy dx
    have c1 : (cmpI x y = ((0 : Nat) : Int)) = False := by simp [cmpI, hlt, Nat.lt_asymm hlt]
    have c2 : (cmpI x y = -1) = True := by simp [cmpI, hlt, Nat.lt_asymm hlt]
    have hLs := nat_Less_px (G := G) y x (by omega) (by omega) (by omega)
    have hTw := nat_Twos_px (G := G) (y - x) (by omega)
    have hDn := nat_down_px (G := G) (y - x) (tz (y - x)) (by omega) r6
    rw [← hz] at hDn
    have wz := nat_Word_px (G := G) z (by omega)
    have wq := nat_Word_px (G := G) x (by omega)
    have uz : (dig 4294967296 z).length ≤ 9223372036854775807 := by unfold dl at r5; omega
    have uq : (dig 4294967296 x).length ≤ 9223372036854775807 := by unfold dl at dx; omega
    by_cases h1 : (dig 4294967296 z).length ≤ 2
    · by_cases h2 : (dig 4294967296 x).length ≤ 2
      · rw [if_pos (two64.2 h1)] at wz
        rw [if_pos (two64.2 h2)] at wq
        have hCo := nat_common_px (G := G) z x (two64.2 h1) (two64.2 h2)
        have hgl : Nat.gcd z x < 18446744073709551616 := Nat.lt_of_le_of_lt (Nat.le_of_dvd (by omega) (Nat.gcd_dvd_left z x)) (two64.2 h1)
        have hOf := nat_Of_px (G := G) (Nat.gcd z x) hgl
        have hUp := nat_up_px (G := G) (Nat.gcd z x) by_ (by
          have := (dl_le_iff (B := 4294967296) (n := Nat.gcd z x) (k := 2) (by decide)).2 (by omega)
          omega) (by omega)
        rw [r3] at hCo hOf hUp
        simp (maxSteps := 2000000) only [↓avp, ↓avmD, avq, ↓reduceIte, Nat.reduceAdd, Nat.reduceMul, Nat.reduceSub, Nat.reduceLT, Nat.reduceLeDiff, Nat.reduceEqDiff, Nat.reducePow, Nat.reduceMod]
        repeat ((first | refine hC.call ?_ | refine hLs.call ?_ | refine hTw.call ?_ | refine hDn.call ?_ | refine wz.call ?_ | refine wq.call ?_ | refine hCo.call ?_ | refine hOf.call ?_ | refine hUp.call ?_); simp (maxSteps := 2000000) only [↓avp, ↓avmD, avq, ↓reduceIte, Nat.reduceAdd, Nat.reduceMul, Nat.reduceSub, Nat.reduceLT, Nat.reduceLeDiff, Nat.reduceEqDiff, Nat.reducePow, Nat.reduceMod, c1, c2, natV, slV, uz, uq, h1, h2])
        refine ret_now ?_
        simp (maxSteps := 2000000) only [↓avp, ↓avmD, avq, ↓reduceIte, Nat.reduceAdd, Nat.reduceMul, Nat.reduceSub, Nat.reduceLT, Nat.reduceLeDiff, Nat.reduceEqDiff, Nat.reducePow, Nat.reduceMod, natV, slV]
      · simp (maxSteps := 2000000) only [↓avp, ↓avmD, avq, ↓reduceIte, Nat.reduceAdd, Nat.reduceMul, Nat.reduceSub, Nat.reduceLT, Nat.reduceLeDiff, Nat.reduceEqDiff, Nat.reducePow, Nat.reduceMod]
        repeat ((first | refine hC.call ?_ | refine hLs.call ?_ | refine hTw.call ?_ | refine hDn.call ?_); simp (maxSteps := 2000000) only [↓avp, ↓avmD, avq, ↓reduceIte, Nat.reduceAdd, Nat.reduceMul, Nat.reduceSub, Nat.reduceLT, Nat.reduceLeDiff, Nat.reduceEqDiff, Nat.reducePow, Nat.reduceMod, c1, c2, natV, slV, uz, uq, h1, h2])
        exact LN.next (z, x) [0, 1, 5] ⟨r3, by simp only; omega, by simp only; omega, ⟨mz, r2⟩, ⟨mx, hmx1⟩⟩ (by simp only; omega) rfl
    · simp (maxSteps := 2000000) only [↓avp, ↓avmD, avq, ↓reduceIte, Nat.reduceAdd, Nat.reduceMul, Nat.reduceSub, Nat.reduceLT, Nat.reduceLeDiff, Nat.reduceEqDiff, Nat.reducePow, Nat.reduceMod]
      repeat ((first | refine hC.call ?_ | refine hLs.call ?_ | refine hTw.call ?_ | refine hDn.call ?_); simp (maxSteps := 2000000) only [↓avp, ↓avmD, avq, ↓reduceIte, Nat.reduceAdd, Nat.reduceMul, Nat.reduceSub, Nat.reduceLT, Nat.reduceLeDiff, Nat.reduceEqDiff, Nat.reducePow, Nat.reduceMod, c1, c2, natV, slV, uz, uq, h1])
      exact LN.next (z, x) [0, 1, 5] ⟨r3, by simp only; omega, by simp only; omega, ⟨mz, r2⟩, ⟨mx, hmx1⟩⟩ (by simp only; omega) rfl
  · subst heq
    have c1 : (cmpI x x = ((0 : Nat) : Int)) = True := by simp [cmpI]
    rw [Nat.gcd_self] at hxy
    have hUp := nat_up_px (G := G) x by_ (by omega) (by omega)
    rw [hxy] at hUp
    simp (maxSteps := 2000000) only [↓avp, ↓avmD, avq, ↓reduceIte, Nat.reduceAdd, Nat.reduceMul, Nat.reduceSub, Nat.reduceLT, Nat.reduceLeDiff, Nat.reduceEqDiff, Nat.reducePow, Nat.reduceMod]
    refine hC.call ?_
    simp (maxSteps := 2000000) only [↓avp, ↓avmD, avq, ↓reduceIte, Nat.reduceAdd, Nat.reduceMul, Nat.reduceSub, Nat.reduceLT, Nat.reduceLeDiff, Nat.reduceEqDiff, Nat.reducePow, Nat.reduceMod, c1]
    rw [hxy]
    refine hUp.call ?_
    simp (maxSteps := 2000000) only [↓avp, ↓avmD, avq, ↓reduceIte, Nat.reduceAdd, Nat.reduceMul, Nat.reduceSub, Nat.reduceLT, Nat.reduceLeDiff, Nat.reduceEqDiff, Nat.reducePow, Nat.reduceMod]
    refine ret_now ?_
    simp (maxSteps := 2000000) only [↓avp, ↓avmD, avq, ↓reduceIte, Nat.reduceAdd, Nat.reduceMul, Nat.reduceSub, Nat.reduceLT, Nat.reduceLeDiff, Nat.reduceEqDiff, Nat.reducePow, Nat.reduceMod, natV, slV]
  · -- as they stand
    obtain ⟨z, hz, r0, r1, ⟨mz, r2⟩, r3, r4, r5, r6⟩ := round x y mx my hgt hmx1 hmy1 hx hxy dx dy
    have c1 : (cmpI x y = ((0 : Nat) : Int)) = False := by simp [cmpI, hgt, Nat.lt_asymm hgt]
    have c2 : (cmpI x y = -1) = False := by simp [cmpI, hgt, Nat.lt_asymm hgt]
    have hLs := nat_Less_px (G := G) x y (by omega) (by omega) (by omega)
    have hTw := nat_Twos_px (G := G) (x - y) (by omega)
    have hDn := nat_down_px (G := G) (x - y) (tz (x - y)) (by omega) r6
    rw [← hz] at hDn
    have wz := nat_Word_px (G := G) z (by omega)
    have wq := nat_Word_px (G := G) y (by omega)
    have uz : (dig 4294967296 z).length ≤ 9223372036854775807 := by unfold dl at r5; omega
    have uq : (dig 4294967296 y).length ≤ 9223372036854775807 := by unfold dl at dy; omega
    by_cases h1 : (dig 4294967296 z).length ≤ 2
    · by_cases h2 : (dig 4294967296 y).length ≤ 2
      · rw [if_pos (two64.2 h1)] at wz
        rw [if_pos (two64.2 h2)] at wq
        have hCo := nat_common_px (G := G) z y (two64.2 h1) (two64.2 h2)
        have hgl : Nat.gcd z y < 18446744073709551616 := Nat.lt_of_le_of_lt (Nat.le_of_dvd (by omega) (Nat.gcd_dvd_left z y)) (two64.2 h1)
        have hOf := nat_Of_px (G := G) (Nat.gcd z y) hgl
        have hUp := nat_up_px (G := G) (Nat.gcd z y) by_ (by
          have := (dl_le_iff (B := 4294967296) (n := Nat.gcd z y) (k := 2) (by decide)).2 (by omega)
          omega) (by omega)
        rw [r3] at hCo hOf hUp
        simp (maxSteps := 2000000) only [↓avp, ↓avmD, avq, ↓reduceIte, Nat.reduceAdd, Nat.reduceMul, Nat.reduceSub, Nat.reduceLT, Nat.reduceLeDiff, Nat.reduceEqDiff, Nat.reducePow, Nat.reduceMod]
        repeat ((first | refine hC.call ?_ | refine hLs.call ?_ | refine hTw.call ?_ | refine hDn.call ?_ | refine wz.call ?_ | refine wq.call ?_ | refine hCo.call ?_ | refine hOf.call ?_ | refine hUp.call ?_); simp (maxSteps := 2000000) only [↓avp, ↓avmD, avq, ↓reduceIte, Nat.reduceAdd, Nat.reduceMul, Nat.reduceSub, Nat.reduceLT, Nat.reduceLeDiff, Nat.reduceEqDiff, Nat.reducePow, Nat.reduceMod, c1, c2, natV, slV, uz, uq, h1, h2])
        refine ret_now ?_
        simp (maxSteps := 2000000) only [↓avp, ↓avmD, avq, ↓reduceIte, Nat.reduceAdd, Nat.reduceMul, Nat.reduceSub, Nat.reduceLT, Nat.reduceLeDiff, Nat.reduceEqDiff, Nat.reducePow, Nat.reduceMod, natV, slV]
      · simp (maxSteps := 2000000) only [↓avp, ↓avmD, avq, ↓reduceIte, Nat.reduceAdd, Nat.reduceMul, Nat.reduceSub, Nat.reduceLT, Nat.reduceLeDiff, Nat.reduceEqDiff, Nat.reducePow, Nat.reduceMod]
        repeat ((first | refine hC.call ?_ | refine hLs.call ?_ | refine hTw.call ?_ | refine hDn.call ?_); simp (maxSteps := 2000000) only [↓avp, ↓avmD, avq, ↓reduceIte, Nat.reduceAdd, Nat.reduceMul, Nat.reduceSub, Nat.reduceLT, Nat.reduceLeDiff, Nat.reduceEqDiff, Nat.reducePow, Nat.reduceMod, c1, c2, natV, slV, uz, uq, h1, h2])
        exact LN.next (z, y) [0, 1, 5] ⟨r3, by simp only; omega, by simp only; omega, ⟨mz, r2⟩, ⟨my, hmy1⟩⟩ (by simp only; omega) rfl
    · simp (maxSteps := 2000000) only [↓avp, ↓avmD, avq, ↓reduceIte, Nat.reduceAdd, Nat.reduceMul, Nat.reduceSub, Nat.reduceLT, Nat.reduceLeDiff, Nat.reduceEqDiff, Nat.reducePow, Nat.reduceMod]
      repeat ((first | refine hC.call ?_ | refine hLs.call ?_ | refine hTw.call ?_ | refine hDn.call ?_); simp (maxSteps := 2000000) only [↓avp, ↓avmD, avq, ↓reduceIte, Nat.reduceAdd, Nat.reduceMul, Nat.reduceSub, Nat.reduceLT, Nat.reduceLeDiff, Nat.reduceEqDiff, Nat.reducePow, Nat.reduceMod, c1, c2, natV, slV, uz, uq, h1])
      exact LN.next (z, y) [0, 1, 5] ⟨r3, by simp only; omega, by simp only; omega, ⟨mz, r2⟩, ⟨my, hmy1⟩⟩ (by simp only; omega) rfl
theorem nat_Gcd_px (a b : Nat) (ha : dl 4294967296 a ≤ 900000000) (hb : dl 4294967296 b ≤ 900000000) : PX P G n_nat_Nat_Gcd [natV a, natV b] (natV (Nat.gcd a b)) := by
  refine PX_of_awp low_nat_Nat_Gcd fol (by simp only [avmF, natV, and_true]) (by simp only [avmF, natV, and_true]) ?_
  simp only [ir_nat_Nat_Gcd, sX, mX, initF, List.replicate, Nat.reduceAdd, Nat.reduceSub, iv, avmL]
  simp (maxSteps := 2000000) only [↓avp, ↓avmD, avq, ↓reduceIte, Nat.reduceAdd, Nat.reduceMul, Nat.reduceSub, Nat.reduceLT, Nat.reduceLeDiff, Nat.reduceEqDiff, Nat.reducePow, Nat.reduceMod]
  refine loop_of (fun c : Nat × Nat => ⟨[J,J,J,J,J,natV c.1,natV c.2,J,J,J,J,J,J,J,J,J,J,J,J,J,J,J,J,J,J,J,J,J,J,J,J,J,J,J,J,J,J,J,J,J,J,J,J,J,J,J,J,J,J,J,J,J,J,J,J,J,J,J,J,J], []⟩)
    (fun c => Nat.gcd c.1 c.2 = Nat.gcd a b ∧ dl 4294967296 c.1 ≤ 900000000 ∧ dl 4294967296 c.2 ≤ 900000000) (fun c => c.2) (a, b) [5, 6] rfl ⟨rfl, ha, hb⟩ ?_
  rintro ⟨x, y⟩ ⟨hg, hx, hy⟩
  simp only at hg hx hy
  have wx := nat_Word_px (G := G) x (by omega)
  have wy := nat_Word_px (G := G) y (by omega)
  have dx := nat_digits_px (G := G) x
  have dy := nat_digits_px (G := G) y
  have ux : (dig 4294967296 x).length ≤ 9223372036854775807 := by unfold dl at hx; omega
  have uy : (dig 4294967296 y).length ≤ 9223372036854775807 := by unfold dl at hy; omega
  have b1 : (!true) = false := rfl
  by_cases h1 : x < 18446744073709551616 ∧ y < 18446744073709551616
  · obtain ⟨h1, h2⟩ := h1
    rw [if_pos h1] at wx
    rw [if_pos h2] at wy
    have hCo := nat_common_px (G := G) x y h1 h2
    have hgl : Nat.gcd x y < 18446744073709551616 := by
      rcases Nat.eq_zero_or_pos x with h | h
      · subst h; rw [Nat.gcd_zero_left]; exact h2
      · exact Nat.lt_of_le_of_lt (Nat.le_of_dvd h (Nat.gcd_dvd_left x y)) h1
    have hOf := nat_Of_px (G := G) (Nat.gcd x y) hgl
    rw [hg] at hCo hOf
    simp (maxSteps := 2000000) only [↓avp, ↓avmD, avq, ↓reduceIte, Nat.reduceAdd, Nat.reduceMul, Nat.reduceSub, Nat.reduceLT, Nat.reduceLeDiff, Nat.reduceEqDiff, Nat.reducePow, Nat.reduceMod]
    repeat ((first | refine wx.call ?_ | refine wy.call ?_ | refine hCo.call ?_ | refine hOf.call ?_); simp (maxSteps := 2000000) only [↓avp, ↓avmD, avq, ↓reduceIte, Nat.reduceAdd, Nat.reduceMul, Nat.reduceSub, Nat.reduceLT, Nat.reduceLeDiff, Nat.reduceEqDiff, Nat.reducePow, Nat.reduceMod])
    refine ret_now ?_
    simp (maxSteps := 2000000) only [↓avp, ↓avmD, avq, ↓reduceIte, Nat.reduceAdd, Nat.reduceMul, Nat.reduceSub, Nat.reduceLT, Nat.reduceLeDiff, Nat.reduceEqDiff, Nat.reducePow, Nat.reduceMod, natV, slV]
  · suffices h : ∀ (t : Bool) (n m : Nat) (t' : Bool), (t = true → t' = false) → PX P G n_nat_Nat_Word [natV x] (.tup [.int .u64 n, .bool t]) → PX P G n_nat_Nat_Word [natV y] (.tup [.int .u64 m, .bool t']) → _ by
      by_cases h2 : x < 18446744073709551616
      · have h3 : ¬ y < 18446744073709551616 := fun h => h1 ⟨h2, h⟩
        rw [if_pos h2] at wx
        rw [if_neg h3] at wy
        exact h true _ _ false (fun _ => rfl) wx wy
      · rw [if_neg h2] at wx
        by_cases h3 : y < 18446744073709551616
        · rw [if_pos h3] at wy
          exact h false _ _ true (fun h => by cases h) wx wy
        · rw [if_neg h3] at wy
          exact h false _ _ false (fun h => by cases h) wx wy
    intro t n m t' ht wx wy
    have hOx := nat_of_px (G := G) (dig 4294967296 x) (dig_lt (by decide) x)
    rw [val_dig (by decide)] at hOx
    have hrest : ∀ g27 g28 g29 : AV, True := fun _ _ _ => trivial
    by_cases h0 : y = 0
    · have l0 : ((dig 4294967296 y).length = 0) = True := by
        have := (dl_eq_zero (B := 4294967296) (n := y) (by decide)).2 h0
        unfold dl at this
        simp [this]
      rw [h0, Nat.gcd_zero_right] at hg
      rw [← hg]
      cases t with
      | true =>
        have := ht rfl
        subst this
        simp (maxSteps := 2000000) only [↓avp, ↓avmD, avq, ↓reduceIte, Nat.reduceAdd, Nat.reduceMul, Nat.reduceSub, Nat.reduceLT, Nat.reduceLeDiff, Nat.reduceEqDiff, Nat.reducePow, Nat.reduceMod]
        repeat ((first | refine wx.call ?_ | refine wy.call ?_ | refine dy.call ?_ | refine dx.call ?_ | refine hOx.call ?_); simp (maxSteps := 2000000) only [↓avp, ↓avmD, avq, ↓reduceIte, Nat.reduceAdd, Nat.reduceMul, Nat.reduceSub, Nat.reduceLT, Nat.reduceLeDiff, Nat.reduceEqDiff, Nat.reducePow, Nat.reduceMod, b1, slV, uy, l0])
        refine ret_now ?_
        simp (maxSteps := 2000000) only [↓avp, ↓avmD, avq, ↓reduceIte, Nat.reduceAdd, Nat.reduceMul, Nat.reduceSub, Nat.reduceLT, Nat.reduceLeDiff, Nat.reduceEqDiff, Nat.reducePow, Nat.reduceMod, natV, slV]
      | false =>
        simp (maxSteps := 2000000) only [↓avp, ↓avmD, avq, ↓reduceIte, Nat.reduceAdd, Nat.reduceMul, Nat.reduceSub, Nat.reduceLT, Nat.reduceLeDiff, Nat.reduceEqDiff, Nat.reducePow, Nat.reduceMod]
        repeat ((first | refine wx.call ?_ | refine wy.call ?_ | refine dy.call ?_ | refine dx.call ?_ | refine hOx.call ?_); simp (maxSteps := 2000000) only [↓avp, ↓avmD, avq, ↓reduceIte, Nat.reduceAdd, Nat.reduceMul, Nat.reduceSub, Nat.reduceLT, Nat.reduceLeDiff, Nat.reduceEqDiff, Nat.reducePow, Nat.reduceMod, b1, slV, uy, l0])
        refine ret_now ?_
        simp (maxSteps := 2000000) only [↓avp, ↓avmD, avq, ↓reduceIte, Nat.reduceAdd, Nat.reduceMul, Nat.reduceSub, Nat.reduceLT, Nat.reduceLeDiff, Nat.reduceEqDiff, Nat.reducePow, Nat.reduceMod, natV, slV]
    · have l0 : ((dig 4294967296 y).length = 0) = False := by
        have : dl 4294967296 y ≠ 0 := fun h => h0 ((dl_eq_zero (by decide)).1 h)
        unfold dl at this
        simp [this]
      by_cases h4 : (dig 4294967296 x).length = (dig 4294967296 y).length
      · have l1 : ((dig 4294967296 x).length ≠ (dig 4294967296 y).length) = False := by simp [h4]
        have hx0 : 0 < x := by
          rcases Nat.eq_zero_or_pos x with h | h
          · subst h
            rw [dig_zero, List.length_nil] at h4
            rw [← h4] at l0
            simp at l0
          · exact h
        have hSh := nat_shifts_px (G := G) x y hx0 (by omega) hx hy
        rw [hg] at hSh
        cases t with
        | true =>
          have := ht rfl
          subst this
          simp (maxSteps := 2000000) only [↓avp, ↓avmD, avq, ↓reduceIte, Nat.reduceAdd, Nat.reduceMul, Nat.reduceSub, Nat.reduceLT, Nat.reduceLeDiff, Nat.reduceEqDiff, Nat.reducePow, Nat.reduceMod]
          repeat ((first | refine wx.call ?_ | refine wy.call ?_ | refine dy.call ?_ | refine dx.call ?_ | refine hSh.call ?_); simp (maxSteps := 2000000) only [↓avp, ↓avmD, avq, ↓reduceIte, Nat.reduceAdd, Nat.reduceMul, Nat.reduceSub, Nat.reduceLT, Nat.reduceLeDiff, Nat.reduceEqDiff, Nat.reducePow, Nat.reduceMod, b1, slV, uy, l0, ux, l1])
          refine ret_now ?_
          simp (maxSteps := 2000000) only [↓avp, ↓avmD, avq, ↓reduceIte, Nat.reduceAdd, Nat.reduceMul, Nat.reduceSub, Nat.reduceLT, Nat.reduceLeDiff, Nat.reduceEqDiff, Nat.reducePow, Nat.reduceMod, natV, slV]
        | false =>
          simp (maxSteps := 2000000) only [↓avp, ↓avmD, avq, ↓reduceIte, Nat.reduceAdd, Nat.reduceMul, Nat.reduceSub, Nat.reduceLT, Nat.reduceLeDiff, Nat.reduceEqDiff, Nat.reducePow, Nat.reduceMod]
          repeat ((first | refine wx.call ?_ | refine wy.call ?_ | refine dy.call ?_ | refine dx.call ?_ | refine hSh.call ?_); simp (maxSteps := 2000000) only [↓avp, ↓avmD, avq, ↓reduceIte, Nat.reduceAdd, Nat.reduceMul, Nat.reduceSub, Nat.reduceLT, Nat.reduceLeDiff, Nat.reduceEqDiff, Nat.reducePow, Nat.reduceMod, b1, slV, uy, l0, ux, l1])
          refine ret_now ?_
          simp (maxSteps := 2000000) only [↓avp, ↓avmD, avq, ↓reduceIte, Nat.reduceAdd, Nat.reduceMul, Nat.reduceSub, Nat.reduceLT, Nat.reduceLeDiff, Nat.reduceEqDiff, Nat.reducePow, Nat.reduceMod, natV, slV]
      · have l1 : ((dig 4294967296 x).length ≠ (dig 4294967296 y).length) = True := by simp [h4]
        have hDv := nat_Div_px (G := G) x y (by omega) (by omega) (by omega)
        have hm : x % y < y := Nat.mod_lt _ (by omega)
        have hdm := dl_mono (B := 4294967296) (by decide) (Nat.le_of_lt hm)
        have hgn : Nat.gcd y (x % y) = Nat.gcd a b := by rw [← hg, Nat.gcd_comm x y, Nat.gcd_rec y x, Nat.gcd_comm]
        cases t with
        | true =>
          have := ht rfl
          subst this
          simp (maxSteps := 2000000) only [↓avp, ↓avmD, avq, ↓reduceIte, Nat.reduceAdd, Nat.reduceMul, Nat.reduceSub, Nat.reduceLT, Nat.reduceLeDiff, Nat.reduceEqDiff, Nat.reducePow, Nat.reduceMod]
          repeat ((first | refine wx.call ?_ | refine wy.call ?_ | refine dy.call ?_ | refine dx.call ?_ | refine hDv.call ?_); simp (maxSteps := 2000000) only [↓avp, ↓avmD, avq, ↓reduceIte, Nat.reduceAdd, Nat.reduceMul, Nat.reduceSub, Nat.reduceLT, Nat.reduceLeDiff, Nat.reduceEqDiff, Nat.reducePow, Nat.reduceMod, b1, slV, uy, l0, ux, l1])
          exact LN.next (y, x % y) [5, 6] ⟨hgn, hy, by simp only; omega⟩ (by simp only; exact hm) rfl
        | false =>
          simp (maxSteps := 2000000) only [↓avp, ↓avmD, avq, ↓reduceIte, Nat.reduceAdd, Nat.reduceMul, Nat.reduceSub, Nat.reduceLT, Nat.reduceLeDiff, Nat.reduceEqDiff, Nat.reducePow, Nat.reduceMod]
          repeat ((first | refine wx.call ?_ | refine wy.call ?_ | refine dy.call ?_ | refine dx.call ?_ | refine hDv.call ?_); simp (maxSteps := 2000000) only [↓avp, ↓avmD, avq, ↓reduceIte, Nat.reduceAdd, Nat.reduceMul, Nat.reduceSub, Nat.reduceLT, Nat.reduceLeDiff, Nat.reduceEqDiff, Nat.reducePow, Nat.reduceMod, b1, slV, uy, l0, ux, l1])
          exact LN.next (y, x % y) [5, 6] ⟨hgn, hy, by simp only; omega⟩ (by simp only; exact hm) rfl
end Va
