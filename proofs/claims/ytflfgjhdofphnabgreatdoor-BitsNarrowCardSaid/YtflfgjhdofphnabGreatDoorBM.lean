/- Plain laws of a half of a quotient. -/
import Derived.Test.YtflfgjhdofphnabGreatDoorK1
set_option linter.unusedVariables false
set_option maxRecDepth 100000
open Go Go.Avm
namespace Va
theorem mul_le32 {a b : Nat} (ha : a < 4294967296) (hb : b < 4294967296) : a * b ≤ 18446744065119617025 := by
  have : a * b ≤ 4294967295 * 4294967295 := Nat.mul_le_mul (by omega) (by omega)
  omega
/-- A guess q of a quotient, with what is left. -/
structure DG (u v y q r : Nat) : Prop where
  s : q * (y / 4294967296) + r = u
  up : u * 4294967296 + v < (q + 1) * y
  r : r < 4294967296
theorem dg_y (y q : Nat) : q * y = q * (y / 4294967296) * 4294967296 + q * (y % 4294967296) := by
  have : q * (y / 4294967296 * 4294967296 + y % 4294967296) = q * (y / 4294967296) * 4294967296 + q * (y % 4294967296) := by rw [Nat.mul_add, Nat.mul_assoc]
  rw [← this]
  congr 1
  omega
theorem dg_start {u v y : Nat} (hv : v < 4294967296) (hy' : 9223372036854775808 ≤ y) (hy : y < 18446744073709551616) : DG u v y (u / (y / 4294967296)) (u % (y / 4294967296)) := by
  have hr0 : u % (y / 4294967296) < y / 4294967296 := Nat.mod_lt _ (by omega)
  have hm0 := Nat.div_add_mod' u (y / 4294967296)
  refine ⟨hm0, ?_, by omega⟩
  rw [dg_y y]
  have : u + 1 ≤ (u / (y / 4294967296) + 1) * (y / 4294967296) := by rw [Nat.add_mul]; omega
  have := Nat.mul_le_mul_right 4294967296 this
  omega
theorem dg_down {u v y q r : Nat} (h1 : q * (y / 4294967296) + r = u) (h : u * 4294967296 + v < q * y) : 0 < q ∧ (q - 1) * (y / 4294967296) + (r + y / 4294967296) = u ∧ u * 4294967296 + v < (q - 1 + 1) * y := by
  have hq : 0 < q := by
    rcases Nat.eq_zero_or_pos q with rfl | h'
    · simp at h
    · exact h'
  refine ⟨hq, ?_, ?_⟩
  · have : q * (y / 4294967296) = (q - 1) * (y / 4294967296) + y / 4294967296 := by
      have := Nat.add_mul (q - 1) 1 (y / 4294967296)
      rw [Nat.sub_add_cancel hq] at this
      omega
    omega
  · rw [Nat.sub_add_cancel hq]; exact h
theorem dg_big {u v y q : Nat} (hu : u < y) (hv : v < 4294967296) (c : 4294967295 < q) : u * 4294967296 + v < q * y := by
  have := Nat.mul_le_mul_right y (show 4294967296 ≤ q by omega)
  omega
theorem dg_test {u v y q r : Nat} (h1 : q * (y / 4294967296) + r = u) : r * 4294967296 + v < q * (y % 4294967296) ↔ u * 4294967296 + v < q * y := by
  rw [dg_y y q]
  generalize q * (y / 4294967296) = A at *
  generalize q * (y % 4294967296) = B at *
  rw [← h1, Nat.add_mul]
  omega
theorem dg_brk {u y q r : Nat} (hu : u < y) (hy : y < 18446744073709551616) (h : q * (y / 4294967296) + r = u) (hr : 4294967295 < r) : q ≤ 4294967295 := by
  rcases Nat.lt_or_ge 4294967295 q with h' | h'
  · have := Nat.mul_le_mul_right (y / 4294967296) (show 4294967296 ≤ q by omega)
    omega
  · exact h'
theorem dg_le {u v y q r : Nat} (hv : v < 4294967296) (h : q * (y / 4294967296) + r = u) (hr : 4294967295 < r) (hq : q ≤ 4294967295) : q * y ≤ u * 4294967296 + v := by
  rw [dg_y y q]
  have := mul_le32 (a := q) (b := y % 4294967296) (by omega) (by omega)
  generalize q * (y / 4294967296) = A at *
  generalize q * (y % 4294967296) = B at *
  omega
theorem dg_fin {u v y q : Nat} (hy : y < 18446744073709551616) (h1 : q * y ≤ u * 4294967296 + v) (h2 : u * 4294967296 + v < (q + 1) * y) :
    AV.tup [AV.int .u64 ((q : Nat) : Int), AV.int .u64 (IntKind.u64.wrap (((u * 4294967296 % 18446744073709551616 + v) % 18446744073709551616 : Nat) - ((q * y % 18446744073709551616 : Nat) : Int)))] = AV.tup [AV.int .u64 (((u * 4294967296 + v) / y : Nat) : Int), AV.int .u64 (((u * 4294967296 + v) % y : Nat) : Int)] := by
  have e : q = (u * 4294967296 + v) / y := (Nat.div_eq_of_lt_le h1 h2).symm
  have e3 : (u * 4294967296 + v) % y = u * 4294967296 + v - q * y := by
    have := Nat.div_add_mod' (u * 4294967296 + v) y
    rw [← e] at this
    omega
  have e4 : (q + 1) * y = q * y + y := by rw [Nat.add_mul]; omega
  rw [e4] at h2
  rw [e3, ← e, wu64_mod]
  clear e3 e e4
  generalize q * y = z at *
  congr 4
  omega
/-- A shift to the left; below 0: to the right. -/
def shlW (x : Nat) (n : Int) : Nat := if n < 0 then x / 2 ^ (-n).toNat else x * 2 ^ n.toNat % 18446744073709551616
theorem shlW_lt {x : Nat} (hx : x < 18446744073709551616) (n : Int) : shlW x n < 18446744073709551616 := by
  unfold shlW
  split
  · exact Nat.lt_of_le_of_lt (Nat.div_le_self _ _) hx
  · exact Nat.mod_lt _ (by decide)
/-- What the two words are when the divisor's highest bit is brought up. -/
structure DN (h l y k : Nat) : Prop where
  y1 : y * 2 ^ k % 18446744073709551616 = y * 2 ^ k
  y2 : 9223372036854775808 ≤ y * 2 ^ k
  y3 : y * 2 ^ k < 18446744073709551616
  u : ((shlW h (k : Int) % 18446744073709551616) ||| (shlW l (-((64 - k : Nat) : Int)) % 18446744073709551616)) % 18446744073709551616 = (h * 18446744073709551616 + l) * 2 ^ k / 18446744073709551616
  lo : l * 2 ^ k % 18446744073709551616 = (h * 18446744073709551616 + l) * 2 ^ k % 18446744073709551616
  uy : (h * 18446744073709551616 + l) * 2 ^ k / 18446744073709551616 < y * 2 ^ k
theorem dn_of {h l y k : Nat} (hh : h < y) (hl : l < 18446744073709551616) (hy : y < 18446744073709551616) (hk : k = 64 - dl 2 y) : DN h l y k := by
  have hd : dl 2 y ≤ 64 := (dl_le_iff (by decide)).2 (by simpa using hy)
  have hd0 : 0 < dl 2 y := by rw [dl_pos (by decide) (by omega)]; omega
  have hp : 2 ^ dl 2 y * 2 ^ k = 18446744073709551616 := by rw [← Nat.pow_add, show dl 2 y + k = 64 by omega]
  have hp1 : 2 ^ (dl 2 y - 1) * 2 ^ k = 9223372036854775808 := by rw [← Nat.pow_add, show dl 2 y - 1 + k = 63 by omega]
  have hp2 : 2 ^ (64 - k) * 2 ^ k = 18446744073709551616 := by rw [← Nat.pow_add, show 64 - k + k = 64 by omega]
  have hpos : 0 < 2 ^ k := Nat.pow_pos (by decide)
  have y3 : y * 2 ^ k < 18446744073709551616 := by rw [← hp]; exact Nat.mul_lt_mul_of_pos_right (lt_pow_dl (by decide) y) hpos
  have y2 : 9223372036854775808 ≤ y * 2 ^ k := by rw [← hp1]; exact Nat.mul_le_mul_right _ (dl_pow_le (by decide) (by omega))
  have hhk : h * 2 ^ k + 2 ^ k ≤ y * 2 ^ k := by
    have : (h + 1) * 2 ^ k ≤ y * 2 ^ k := Nat.mul_le_mul_right _ hh
    rw [Nat.add_mul] at this; omega
  have e1 : (h * 18446744073709551616 + l) * 2 ^ k = 18446744073709551616 * (h * 2 ^ k) + l * 2 ^ k := by rw [Nat.add_mul, Nat.mul_right_comm, Nat.mul_comm (h * 2 ^ k)]
  have hlk : l / 2 ^ (64 - k) < 2 ^ k := by
    refine Nat.div_lt_of_lt_mul ?_
    rw [hp2]; exact hl
  have e2 : l * 2 ^ k / 18446744073709551616 = l / 2 ^ (64 - k) := by
    rw [← hp2, Nat.mul_div_mul_right _ _ hpos]
  have e3 : (h * 18446744073709551616 + l) * 2 ^ k / 18446744073709551616 = h * 2 ^ k + l / 2 ^ (64 - k) := by
    rw [e1, Nat.mul_add_div (by decide), e2]
  have e4 : shlW l (-((64 - k : Nat) : Int)) = l / 2 ^ (64 - k) := by
    unfold shlW
    rw [if_pos (by omega), Int.neg_neg, Int.toNat_natCast]
  have e5 : shlW h (k : Int) = h * 2 ^ k := by
    unfold shlW
    rw [if_neg (by omega), Int.toNat_natCast, m64 (by omega)]
  refine ⟨m64 y3, y2, y3, ?_, ?_, ?_⟩
  · rw [e3, e4, e5, m64 (n := h * 2 ^ k) (by omega), m64 (n := l / 2 ^ (64 - k)) (by omega)]
    have := Nat.shiftLeft_add_eq_or_of_lt hlk h
    rw [Nat.shiftLeft_eq] at this
    rw [← this, m64 (by omega)]
  · rw [e1, Nat.mul_add_mod]
  · rw [e3]; omega
theorem dn_core {h l y k U L q1 r1 q0 r0 : Nat} (D : DN h l y k) (huy : U < y * 2 ^ k) (hLL : L < 18446744073709551616) (hT : (h * 18446744073709551616 + l) * 2 ^ k = U * 18446744073709551616 + L)
    (g1 : q1 * (y * 2 ^ k) + r1 = U * 4294967296 + L / 4294967296) (g2 : r1 < y * 2 ^ k) (g3 : q0 * (y * 2 ^ k) + r0 = r1 * 4294967296 + L % 4294967296) (g4 : r0 < y * 2 ^ k) :
    ((q1 * 4294967296 % 18446744073709551616 % 18446744073709551616) ||| (q0 % 18446744073709551616)) % 18446744073709551616 = (h * 18446744073709551616 + l) / y ∧ r0 / 2 ^ k = (h * 18446744073709551616 + l) % y := by
  have hpos : 0 < 2 ^ k := Nat.pow_pos (by decide)
  have hsum : (h * 18446744073709551616 + l) * 2 ^ k = (q1 * 4294967296 + q0) * (y * 2 ^ k) + r0 := by
    rw [hT, Nat.add_mul, Nat.mul_right_comm]
    omega
  have q1b : q1 < 4294967296 := by
    rcases Nat.lt_or_ge q1 4294967296 with h' | h'
    · exact h'
    · have := Nat.mul_le_mul_right (y * 2 ^ k) h'
      omega
  have q0b : q0 < 4294967296 := by
    rcases Nat.lt_or_ge q0 4294967296 with h' | h'
    · exact h'
    · have := Nat.mul_le_mul_right (y * 2 ^ k) h'
      omega
  have hq : (h * 18446744073709551616 + l) / y = q1 * 4294967296 + q0 := by
    rw [← Nat.mul_div_mul_right _ _ hpos, hsum]
    rw [Nat.mul_comm (q1 * 4294967296 + q0), Nat.mul_add_div (by omega), Nat.div_eq_of_lt g4, Nat.add_zero]
  have hr : (h * 18446744073709551616 + l) % y * 2 ^ k = r0 := by
    rw [← Nat.mul_mod_mul_right, hsum]
    rw [Nat.mul_comm (q1 * 4294967296 + q0), Nat.mul_add_mod, Nat.mod_eq_of_lt g4]
  refine ⟨?_, ?_⟩
  · rw [hq, m64 (n := q0) (by omega), m64 (n := q1 * 4294967296 % 18446744073709551616) (by omega), bor_shift q0b]
    omega
  · rw [← hr, Nat.mul_div_cancel _ hpos]
theorem dn_fin {h l y k U L : Nat} (D : DN h l y k) (hU : U = (h * 18446744073709551616 + l) * 2 ^ k / 18446744073709551616) (hL : L = (h * 18446744073709551616 + l) * 2 ^ k % 18446744073709551616) :
    (((U * 4294967296 + L / 4294967296) / (y * 2 ^ k) * 4294967296 % 18446744073709551616 % 18446744073709551616) ||| (((U * 4294967296 + L / 4294967296) % (y * 2 ^ k) * 4294967296 + L % 4294967296) / (y * 2 ^ k) % 18446744073709551616)) % 18446744073709551616 = (h * 18446744073709551616 + l) / y ∧
    ((U * 4294967296 + L / 4294967296) % (y * 2 ^ k) * 4294967296 + L % 4294967296) % (y * 2 ^ k) / 2 ^ k = (h * 18446744073709551616 + l) % y := by
  have hp : 0 < y * 2 ^ k := Nat.lt_of_lt_of_le (by decide) D.y2
  refine dn_core D (by rw [hU]; exact D.uy) (by rw [hL]; exact Nat.mod_lt _ (by decide)) (by rw [hU, hL]; exact (Nat.div_add_mod' _ _).symm) (Nat.div_add_mod' _ _) (Nat.mod_lt _ hp) (Nat.div_add_mod' _ _) (Nat.mod_lt _ hp)
/-- A number brought between 0 and m by remainders. -/
theorem wrapmod (n : Int) (m : Nat) (hm : 0 < m) (hm2 : m ≤ 1000000) : ∃ k : Nat, (IntKind.i64.wrap (n.tmod (m : Int) + (m : Int))).tmod (m : Int) = (k : Int) ∧ k < m := by
  have h1 : -(m : Int) < n.tmod (m : Int) := Int.lt_tmod_of_pos n (by omega)
  have h2 : n.tmod (m : Int) < (m : Int) := Int.tmod_lt_of_pos n (by omega)
  rw [wi64_in (by omega) (by omega)]
  refine ⟨((n.tmod (m : Int) + (m : Int)).tmod (m : Int)).toNat, ?_, ?_⟩
  · have := Int.tmod_nonneg (m : Int) (show 0 ≤ n.tmod (m : Int) + (m : Int) by omega)
    omega
  · have := Int.tmod_lt_of_pos (n.tmod (m : Int) + (m : Int)) (show 0 < (m : Int) by omega)
    have := Int.tmod_nonneg (m : Int) (show 0 ≤ n.tmod (m : Int) + (m : Int) by omega)
    omega
end Va
