/- Shifted words bit by bit. Plain. -/
import Derived.Test.YtflfgjhdofphnaaGreatDoorBM3
import Derived.Test.YtflfgjhdofphnaaGreatDoorFM
import Derived.Test.YtflfgjhdofphnaaGreatDoorBA
import Derived.Test.YtflfgjhdofphnaaGreatDoorRB2
set_option linter.unusedVariables false
set_option linter.unusedSimpArgs false
open Go
namespace Va
theorem word_of {y : Nat} {f : Nat → Bool} (hy : y < 18446744073709551616) (h : ∀ j, j < 64 → f j = y.testBit j) : wordv (bitsF f) = y := by
  have e : bitsF f = bitsF y.testBit := bitsF_of (bitsF_length f) fun j hj => by rw [bitsF_getD, if_pos hj, h j hj]
  rw [e, wordv_bits hy]
theorem tb_big {x i : Nat} (hx : x < 18446744073709551616) (h : 64 ≤ i) : x.testBit i = false := by
  refine Nat.testBit_lt_two_pow (Nat.lt_of_lt_of_le hx ?_)
  rw [show (18446744073709551616 : Nat) = 2 ^ 64 by rfl]; exact Nat.pow_le_pow_right (by decide) h
theorem tb_big63 {x i : Nat} (hx : x < 9223372036854775808) (h : 63 ≤ i) : x.testBit i = false := by
  refine Nat.testBit_lt_two_pow (Nat.lt_of_lt_of_le hx ?_)
  rw [show (9223372036854775808 : Nat) = 2 ^ 63 by rfl]; exact Nat.pow_le_pow_right (by decide) h
theorem mvb_pos {x k : Nat} {fill : Bool} {j : Nat} (hx : x < 18446744073709551616) (hj : j < 64) : mvb x (k : Int) fill j = (decide (k ≤ j) && x.testBit (j - k)) := by
  have c1 := clampI_le k
  have c2 := clampI_ge k
  have c3 : clampI (k : Int) = if k ≤ 100 then (k : Int) else 100 := by unfold clampI; repeat' split <;> omega
  unfold mvb
  by_cases h : k ≤ j
  · rw [c3, if_pos (show k ≤ 100 by omega), if_pos (by omega), if_pos (by omega), show ((j : Int) - (k : Int)).toNat = j - k by omega]; simp [h]
  · rw [c3, if_neg]
    · simp [h]
    · split <;> omega
theorem mvb_neg {x k : Nat} {fill : Bool} {j : Nat} (hj : j < 64) : mvb x (-(k : Int)) fill j = if j + min k 100 < 64 then x.testBit (j + min k 100) else fill := by
  have c3 : clampI (-(k : Int)) = -((min k 100 : Nat) : Int) := by unfold clampI; repeat' split <;> omega
  unfold mvb
  rw [c3, if_pos (by omega)]
  by_cases h : j + min k 100 < 64
  · rw [if_pos (by omega), if_pos h, show ((j : Int) - -((min k 100 : Nat) : Int)).toNat = j + min k 100 by omega]
  · rw [if_neg (by omega), if_neg h]
theorem tb_up {x k j : Nat} (hj : j < 64) : (x * 2 ^ k % 18446744073709551616).testBit j = (decide (k ≤ j) && x.testBit (j - k)) := by
  rw [show (18446744073709551616 : Nat) = 2 ^ 64 by rfl, Nat.testBit_mod_two_pow, ← Nat.shiftLeft_eq, Nat.testBit_shiftLeft]
  simp [hj]
theorem tb_dn {x k j : Nat} : (x / 2 ^ k).testBit j = x.testBit (j + k) := by
  rw [Nat.testBit_div_two_pow, Nat.add_comm]
theorem mv_up {x : Nat} (k : Nat) (fill : Bool) (hx : x < 18446744073709551616) : wordv (bitsF (mvb x (k : Int) fill)) = x * 2 ^ k % 18446744073709551616 := by
  refine word_of (Nat.mod_lt _ (by decide)) fun j hj => ?_
  rw [mvb_pos hx hj, tb_up hj]
theorem mv_down {x : Nat} (k : Nat) (hx : x < 18446744073709551616) : wordv (bitsF (mvb x (-(k : Int)) false)) = x / 2 ^ k := by
  refine word_of (Nat.lt_of_le_of_lt (Nat.div_le_self _ _) hx) fun j hj => ?_
  rw [mvb_neg hj, tb_dn]
  by_cases h : k ≤ 100
  · rw [Nat.min_eq_left h]
    split
    · rfl
    · rw [tb_big hx (by omega)]
  · rw [if_neg (by omega), tb_big hx (by omega)]
theorem mv_false {x : Nat} (n : Int) (hx : x < 18446744073709551616) : wordv (bitsF (mvb x n false)) = shlW x n := by
  unfold shlW
  split
  · obtain ⟨k, rfl⟩ : ∃ k : Nat, n = -(k : Int) := ⟨(-n).toNat, by omega⟩
    rw [mv_down k hx, show (- -(k : Int)).toNat = k by omega]
  · obtain ⟨k, rfl⟩ : ∃ k : Nat, n = (k : Int) := ⟨n.toNat, by omega⟩
    rw [mv_up k _ hx, show ((k : Int)).toNat = k by omega]
theorem mv_far {x : Nat} (k : Nat) (hk : 64 ≤ k) (hx : x < 18446744073709551616) : wordv (bitsF (mvb x ((k : Nat) : Int) false)) = 0 := by
  rw [mv_up k _ hx, shl_w hk]
theorem mv_sar_pos {x : Nat} (k : Nat) (hx : x < 9223372036854775808) : wordv (bitsF (mvb x (-(k : Int)) false)) = x / 2 ^ (min k 63) := by
  rw [mv_down k (by omega)]
  by_cases h : k ≤ 63
  · rw [Nat.min_eq_left h]
  · rw [Nat.min_eq_right (by omega), Nat.div_eq_of_lt, Nat.div_eq_of_lt hx]
    refine Nat.lt_of_lt_of_le hx ?_
    rw [show (9223372036854775808 : Nat) = 2 ^ 63 by rfl]; exact Nat.pow_le_pow_right (by decide) (by omega)
theorem mv_sar_neg {x c : Nat} (k : Nat) (hx : x + c = 18446744073709551615) (hc : c < 9223372036854775808) : wordv (bitsF (mvb x (-(k : Int)) true)) = 18446744073709551615 - c / 2 ^ (min k 63) := by
  have hle : c / 2 ^ (min k 63) ≤ c := Nat.div_le_self _ _
  have hcomp : ∀ y j, y < 18446744073709551616 → j < 64 → (18446744073709551615 - y).testBit j = !y.testBit j := by
    intro y j hy hj
    have := Nat.testBit_two_pow_sub_succ (n := 64) (x := y) (by simpa using hy) j
    rw [show (2 : Nat) ^ 64 = 18446744073709551616 by rfl, show 18446744073709551616 - (y + 1) = 18446744073709551615 - y by omega] at this
    rw [this]; simp [hj]
  refine word_of (Nat.lt_of_le_of_lt (Nat.sub_le _ _) (by decide)) fun j hj => ?_
  rw [mvb_neg hj, hcomp _ _ (Nat.lt_of_le_of_lt hle (by omega)) hj, tb_dn]
  have hxe : x = 18446744073709551615 - c := by omega
  by_cases h : k ≤ 63
  · rw [Nat.min_eq_left h, Nat.min_eq_left (show k ≤ 100 by omega)]
    split
    · next h2 => rw [hxe, hcomp c _ (by omega) h2]
    · rw [tb_big63 hc (by omega)]; rfl
  · rw [if_neg (by omega), Nat.min_eq_right (show 63 ≤ k by omega), tb_big63 hc (by omega)]; rfl
end Va
