/- Joined texts. -/
import Derived.Test.YtdhhdjnhjlomkaaGreatDoorFM
import Derived.Lib.ItoaNum
import Derived.Lib.Repeat
import Derived.Lib.ParseIntB
import Derived.Lib.SlTrimSet
/- Plain laws of the program's sums of halves of words. -/
set_option linter.unusedVariables false
set_option linter.unusedSimpArgs false
namespace Va
/-- The head of a round of a sum with a carry. -/
structure AddN (B a b n i c : Nat) (l : List Nat) : Prop where
  len : l.length = n
  lt : AllLt B l
  v : val B l + c * B ^ i = a % B ^ i + b % B ^ i
  c1 : c ≤ 1
  z : ∀ j, i ≤ j → l.getD j 0 = 0
theorem AddN.start {B a b n : Nat} (hB : 0 < B) : AddN B a b n 0 0 (List.replicate n 0) :=
  ⟨by simp, AllLt.rep hB n, by rw [val_rep0]; simp [Nat.mod_one], by omega, fun j _ => by rw [List.getD_eq_getElem?_getD, List.getElem?_replicate]; split <;> rfl⟩
theorem AddN.step {B a b n i c : Nat} {l : List Nat} (hB : 1 < B) (H : AddN B a b n i c l) (hi : i < n) {s : Nat} (hs : s = c + (a / B ^ i % B + b / B ^ i % B)) : AddN B a b n (i + 1) (s / B) (l.set i (s % B)) := by
  have hl : i < l.length := by rw [H.len]; exact hi
  have ma := Nat.mod_lt (a / B ^ i) (show 0 < B by omega)
  have mb := Nat.mod_lt (b / B ^ i) (show 0 < B by omega)
  have hc := H.c1
  refine ⟨by rw [List.length_set]; exact H.len, H.lt.set (Nat.mod_lt _ (by omega)) i, ?_, ?_, fun j hj => ?_⟩
  · have h1 := val_set (B := B) hl (s % B)
    rw [H.z i (Nat.le_refl _)] at h1
    have hv := H.v
    have e := Nat.div_add_mod s B
    rw [mod_pow_succ, mod_pow_succ, Nat.pow_succ]
    generalize val B (l.set i (s % B)) = v1 at *
    generalize val B l = v0 at *
    generalize s / B = q at *
    generalize s % B = r at *
    grind
  · have : s / B < 2 := Nat.div_lt_of_lt_mul (by omega)
    omega
  · rw [getD_set_ne (by omega)]; exact H.z j (by omega)
theorem AddN.fin {B a b n c : Nat} {l : List Nat} (hB : 1 < B) (H : AddN B a b n n c l) (hn : dl B a < n ∧ dl B b < n) : val B l = a + b := by
  obtain ⟨m, rfl⟩ : ∃ m, n = m + 1 := ⟨n - 1, by omega⟩
  have ha := (dl_le_iff (B := B) (n := a) (k := m) hB).1 (by omega)
  have hb := (dl_le_iff (B := B) (n := b) (k := m) hB).1 (by omega)
  have hv := H.v
  have hp : B ^ (m + 1) = B * B ^ m := by rw [Nat.pow_succ, Nat.mul_comm]
  have h2 : 2 * B ^ m ≤ B * B ^ m := Nat.mul_le_mul_right _ (by omega)
  rw [Nat.mod_eq_of_lt (by omega), Nat.mod_eq_of_lt (by omega)] at hv
  have : c = 0 := by
    rcases Nat.eq_zero_or_pos c with h | h
    · exact h
    · have : 1 * B ^ (m + 1) ≤ c * B ^ (m + 1) := Nat.mul_le_mul_right _ h
      omega
  subst this
  omega
end Va
/- Plain laws of the program's differences and products of halves of words. -/
set_option linter.unusedVariables false
set_option linter.unusedSimpArgs false
namespace Va
/-- The head of a round of a difference. -/
structure SubN (B a b n i c : Nat) (l : List Nat) : Prop where
  len : l.length = n
  lt : AllLt B l
  v : val B l + b % B ^ i = a % B ^ i + c * B ^ i
  c1 : c ≤ 1
  z : ∀ j, i ≤ j → l.getD j 0 = 0
theorem SubN.start {B a b n : Nat} (hB : 0 < B) : SubN B a b n 0 0 (List.replicate n 0) :=
  ⟨by simp, AllLt.rep hB n, by rw [val_rep0]; simp [Nat.mod_one], by omega, fun j _ => by rw [List.getD_eq_getElem?_getD, List.getElem?_replicate]; split <;> rfl⟩
theorem SubN.step {B a b n i c c' d : Nat} {l : List Nat} (hB : 1 < B) (H : SubN B a b n i c l) (hi : i < n) (hd : d < B) (hc : c' ≤ 1) (hs : d + c + b / B ^ i % B = a / B ^ i % B + c' * B) : SubN B a b n (i + 1) c' (l.set i d) := by
  have hl : i < l.length := by rw [H.len]; exact hi
  refine ⟨by rw [List.length_set]; exact H.len, H.lt.set hd i, ?_, hc, fun j hj => ?_⟩
  · have h1 := val_set (B := B) hl d
    rw [H.z i (Nat.le_refl _)] at h1
    have hv := H.v
    rw [mod_pow_succ, mod_pow_succ, Nat.pow_succ]
    generalize val B (l.set i d) = v1 at *
    generalize val B l = v0 at *
    generalize a / B ^ i % B = x at *
    generalize b / B ^ i % B = y at *
    grind
  · rw [getD_set_ne (by omega)]; exact H.z j (by omega)
theorem SubN.fin {B a b n c : Nat} {l : List Nat} (hB : 1 < B) (H : SubN B a b n n c l) (hn : dl B a ≤ n) (hba : b ≤ a) : val B l = a - b := by
  have ha := (dl_le_iff (B := B) (n := a) (k := n) hB).1 hn
  have hv := H.v
  have hlt := val_lt H.lt
  rw [H.len] at hlt
  rw [Nat.mod_eq_of_lt (by omega), Nat.mod_eq_of_lt ha] at hv
  have : c = 0 := by
    rcases Nat.eq_zero_or_pos c with h | h
    · exact h
    · have : 1 * B ^ n ≤ c * B ^ n := Nat.mul_le_mul_right _ h
      omega
  subst this
  omega
/-- The head of an inner round of a product. -/
structure MulN (B a b lb n i k c : Nat) (l : List Nat) : Prop where
  len : l.length = n
  lt : AllLt B l
  v : val B l + c * B ^ (i + k) = (a % B ^ i) * b + (a / B ^ i % B) * B ^ i * (b % B ^ k)
  c1 : c < B
  z : ∀ j, i + lb ≤ j → l.getD j 0 = 0
theorem MulN.start {B a b lb n : Nat} (hB : 0 < B) : MulN B a b lb n 0 0 0 (List.replicate n 0) :=
  ⟨by simp, AllLt.rep hB n, by rw [val_rep0]; simp [Nat.mod_one], hB, fun j _ => by rw [List.getD_eq_getElem?_getD, List.getElem?_replicate]; split <;> rfl⟩
theorem MulN.step {B a b lb n i k c : Nat} {l : List Nat} (hB : 1 < B) (H : MulN B a b lb n i k c l) (hk : k < lb) (hn : i + lb < n) {s : Nat} (hs : s = c + ((a / B ^ i % B) * (b / B ^ k % B) + l.getD (i + k) 0)) :
    s ≤ B * B - 1 ∧ s / B < B ∧ MulN B a b lb n i (k + 1) (s / B) (l.set (i + k) (s % B)) := by
  have hl : i + k < l.length := by rw [H.len]; omega
  have ma := Nat.mod_lt (a / B ^ i) (show 0 < B by omega)
  have mb := Nat.mod_lt (b / B ^ k) (show 0 < B by omega)
  have mp : (a / B ^ i % B) * (b / B ^ k % B) ≤ (B - 1) * (B - 1) := Nat.mul_le_mul (by omega) (by omega)
  have ml := H.lt.getD (by omega) (i + k)
  have hc := H.c1
  have hBB : (B - 1) * (B - 1) + 2 * B = B * B + 1 := by
    obtain ⟨e, rfl⟩ : ∃ e, B = e + 1 := ⟨B - 1, by omega⟩
    simp only [Nat.add_sub_cancel]; grind
  have hs1 : s ≤ B * B - 1 := by omega
  have hs2 : s / B < B := Nat.div_lt_of_lt_mul (by omega)
  refine ⟨hs1, hs2, by rw [List.length_set]; exact H.len, H.lt.set (Nat.mod_lt _ (by omega)) _, ?_, hs2, fun j hj => ?_⟩
  · have h1 := val_set (B := B) hl (s % B)
    have hv := H.v
    have e := Nat.div_add_mod s B
    rw [mod_pow_succ B b k, show B ^ (i + (k + 1)) = B ^ (i + k) * B by rw [← Nat.pow_succ]; rfl]
    have e4 : B ^ (i + k) = B ^ i * B ^ k := Nat.pow_add _ _ _
    rw [e4] at h1 hv ⊢
    generalize val B (l.set (i + k) (s % B)) = v1 at *
    generalize val B l = v0 at *
    generalize l.getD (i + k) 0 = z at *
    generalize s / B = q at *
    generalize s % B = r at *
    grind
  · rw [getD_set_ne (by omega)]; exact H.z j hj
theorem MulN.next {B a b lb n i c : Nat} {l : List Nat} (hB : 1 < B) (H : MulN B a b lb n i lb c l) (hb : dl B b = lb) (hn : i + lb < n) : MulN B a b lb n (i + 1) 0 0 (l.set (i + lb) c) := by
  have hl : i + lb < l.length := by rw [H.len]; exact hn
  have hbm : b % B ^ lb = b := Nat.mod_eq_of_lt ((dl_le_iff (by omega)).1 (by omega))
  refine ⟨by rw [List.length_set]; exact H.len, H.lt.set H.c1 _, ?_, by omega, fun j hj => ?_⟩
  · have h1 := val_set (B := B) hl c
    rw [H.z _ (Nat.le_refl _)] at h1
    have hv := H.v
    rw [hbm] at hv
    rw [mod_pow_succ, Nat.pow_zero, Nat.mod_one, Nat.mul_zero, Nat.add_zero, Nat.zero_mul, Nat.add_zero]
    rw [Nat.add_mul, Nat.mul_comm (B ^ i), ← hv]
    grind
  · rw [getD_set_ne (by omega)]; exact H.z j (by omega)
theorem MulN.fin {B a b lb n i : Nat} {l : List Nat} (H : MulN B a b lb n i 0 0 l) (ha : a < B ^ i) : val B l = a * b := by
  have hv := H.v
  rw [Nat.mod_eq_of_lt ha, Nat.pow_zero, Nat.mod_one, Nat.mul_zero, Nat.add_zero, Nat.zero_mul, Nat.add_zero] at hv
  exact hv
end Va
/- Plain laws of quotients by a small number. -/
set_option linter.unusedVariables false
set_option linter.unusedSimpArgs false
namespace Va
/-- So many digits of a number. -/
def padd (B n v : Nat) : List Nat := (List.range n).map fun i => v / B ^ i % B
theorem padd_length (B n v : Nat) : (padd B n v).length = n := by simp [padd]
theorem padd_lt {B : Nat} (hB : 0 < B) (n v : Nat) : AllLt B (padd B n v) := by
  intro d hd
  simp [padd] at hd
  obtain ⟨i, _, rfl⟩ := hd
  exact Nat.mod_lt _ hB
theorem padd_getD {B n v i : Nat} (h : i < n) : (padd B n v).getD i 0 = v / B ^ i % B := by
  unfold padd
  rw [List.getD_eq_getElem?_getD, List.getElem?_map, List.getElem?_range h]; rfl
theorem padd_of {B n v : Nat} {l : List Nat} (hl : l.length = n) (h : ∀ j, j < n → l.getD j 0 = v / B ^ j % B) : l = padd B n v := by
  apply List.ext_getElem?
  intro j
  by_cases hj : j < n
  · have := h j hj
    rw [List.getD_eq_getElem?_getD] at this
    unfold padd
    rw [List.getElem?_map, List.getElem?_range hj, Option.map_some]
    rw [List.getElem?_eq_getElem (by omega)] at this ⊢
    simpa using this
  · rw [List.getElem?_eq_none (by omega), List.getElem?_eq_none (by rw [padd_length]; omega)]
theorem padd_succ {B : Nat} (n v : Nat) : padd B (n + 1) v = v % B :: padd B n (v / B) := by
  unfold padd
  rw [List.range_succ_eq_map, List.map_cons, List.map_map]
  congr 1
  · simp
  · refine List.map_congr_left fun i _ => ?_
    simp only [Function.comp]
    rw [Nat.pow_succ, Nat.mul_comm, Nat.div_div_eq_div_mul]
theorem padd_val {B : Nat} (hB : 0 < B) : ∀ (n v : Nat), v < B ^ n → val B (padd B n v) = v
  | 0, v, h => by simp at h; subst h; rfl
  | n + 1, v, h => by
    rw [padd_succ]
    show v % B + B * val B (padd B n (v / B)) = v
    rw [padd_val hB n (v / B) (Nat.div_lt_of_lt_mul (by rw [Nat.pow_succ] at h; rw [Nat.mul_comm]; exact h))]
    exact Nat.mod_add_div v B
theorem short_step {B V y k : Nat} (hB : 1 < B) (hy : 0 < y) : (V / B ^ (k + 1) % y * B + V / B ^ k % B) / y < B ∧ (V / B ^ (k + 1) % y * B + V / B ^ k % B) / y = V / y / B ^ k % B ∧ (V / B ^ (k + 1) % y * B + V / B ^ k % B) % y = V / B ^ k % y := by
  have e0 : V / B ^ (k + 1) = V / B ^ k / B := by rw [Nat.pow_succ, Nat.div_div_eq_div_mul]
  rw [e0, Nat.div_div_eq_div_mul V y, Nat.mul_comm y, ← Nat.div_div_eq_div_mul V (B ^ k) y]
  generalize V / B ^ k = W
  have h1 := Nat.div_add_mod W B
  have h2 := Nat.div_add_mod (W / B) y
  have h3 := Nat.mod_lt W (show 0 < B by omega)
  have h4 := Nat.mod_lt (W / B) hy
  have hlt : (W / B % y * B + W % B) / y < B := by
    refine Nat.div_lt_of_lt_mul ?_
    have : (W / B % y + 1) * B ≤ y * B := Nat.mul_le_mul_right _ h4
    rw [Nat.add_mul, Nat.one_mul] at this
    omega
  have hW : W = y * (W / B / y * B) + (W / B % y * B + W % B) := by
    have : B * (W / B) = y * (W / B / y * B) + W / B % y * B := by
      rw [Nat.mul_comm B, ← Nat.mul_assoc, ← Nat.add_mul, h2]
    omega
  refine ⟨hlt, ?_, ?_⟩
  · have : W / y = W / B / y * B + (W / B % y * B + W % B) / y := by
      conv => lhs; rw [hW]
      rw [Nat.mul_add_div hy]
    rw [this, Nat.mul_add_mod_self_right, Nat.mod_eq_of_lt hlt]
  · conv => rhs; rw [hW]
    rw [Nat.mul_add_mod]
end Va
/- Plain laws of the program's quotients of numbers of many digits: the guess, its product taken away, the divisor given back. -/
set_option linter.unusedVariables false
set_option linter.unusedSimpArgs false
namespace Va
/-- The window of so many digits at a place. -/
def win (B : Nat) (l : List Nat) (off m : Nat) : Nat := val B l / B ^ off % B ^ m
theorem win_digit {B : Nat} (hB : 0 < B) {l : List Nat} (h : AllLt B l) {off m j : Nat} (hj : j < m) : l.getD (off + j) 0 = win B l off m / B ^ j % B := by
  rw [getD_val hB h, win, Nat.pow_add, ← Nat.div_div_eq_div_mul]
  obtain ⟨d, rfl⟩ : ∃ d, m = j + (d + 1) := ⟨m - j - 1, by omega⟩
  rw [Nat.pow_add B j, Nat.mod_mul_right_div_self, Nat.pow_succ, Nat.mod_mul_left_mod]
/-- The guess of a digit of a quotient: never too small. -/
theorem kq_start {B A b n b1 two : Nat} (hb1 : b1 = b / B ^ n) (hA : A < b * B) (htwo : two = A / B ^ n) (h1 : 0 < b1) : A / b ≤ min (two / b1) (B - 1) := by
  have hb0 : 0 < b := by
    rcases Nat.eq_zero_or_pos b with h | h
    · subst h; rw [Nat.zero_div] at hb1; omega
    · exact h
  have h2 : A / b < B := Nat.div_lt_of_lt_mul hA
  refine Nat.le_min.2 ⟨(Nat.le_div_iff_mul_le h1).2 ?_, by omega⟩
  rw [htwo]
  by_cases hp : B ^ n = 0
  · rw [hp, Nat.div_zero] at hb1; omega
  refine (Nat.le_div_iff_mul_le (Nat.pos_of_ne_zero hp)).2 ?_
  have h3 : b1 * B ^ n ≤ b := by rw [hb1]; exact Nat.div_mul_le_self _ _
  calc A / b * b1 * B ^ n = A / b * (b1 * B ^ n) := Nat.mul_assoc _ _ _
    _ ≤ A / b * b := Nat.mul_le_mul_left _ h3
    _ ≤ A := Nat.div_mul_le_self _ _
/-- The test: whether the guess is too great, seen by three digits by two. -/
theorem kq_dec {B A b m b1 b2 a3 two q r : Nat} (hb : b / B ^ m = b1 * B + b2) (hA : A / B ^ m = two * B + a3) (hp : 0 < B ^ m) (hq : q * b1 + r = two) (h : r * B + a3 < q * b2) (hb0 : 0 < b) : A / b < q := by
  rcases Nat.lt_or_ge (A / b) q with h1 | h1
  · exact h1
  · exfalso
    have h2 : q * b ≤ A := Nat.le_trans (Nat.mul_le_mul_right _ h1) (Nat.div_mul_le_self _ _)
    have h3 : (b1 * B + b2) * B ^ m ≤ b := by rw [← hb]; exact Nat.div_mul_le_self _ _
    have h4 : q * (b1 * B + b2) * B ^ m ≤ A := by
      rw [Nat.mul_assoc]
      exact Nat.le_trans (Nat.mul_le_mul_left _ h3) h2
    have h5 : q * (b1 * B + b2) ≤ two * B + a3 := by
      rw [← hA]; exact (Nat.le_div_iff_mul_le hp).2 h4
    have e1 : q * (b1 * B + b2) = q * b1 * B + q * b2 := by rw [Nat.mul_add, Nat.mul_assoc]
    have e2 : two * B = q * b1 * B + r * B := by rw [← hq, Nat.add_mul]
    omega
/-- Behind the test the guess is too great by one at the most. -/
theorem kq_fin {B A b m b1 b2 a3 two q r : Nat} (hb : b / B ^ m = b1 * B + b2) (hA : A / B ^ m = two * B + a3) (hp : 0 < B ^ m) (hq : q * b1 + r = two) (h : q * b2 ≤ r * B + a3) (h1 : 0 < b1) (hqB : q ≤ B) : q ≤ A / b + 1 := by
  have h3 : (b1 * B + b2) * B ^ m ≤ b := by rw [← hb]; exact Nat.div_mul_le_self _ _
  have h4 : b < (b1 * B + b2 + 1) * B ^ m := by
    rw [← hb, Nat.mul_comm]; exact Nat.lt_mul_div_succ _ hp
  have h5 : (two * B + a3) * B ^ m ≤ A := by rw [← hA]; exact Nat.div_mul_le_self _ _
  have e1 : q * (b1 * B + b2) = q * b1 * B + q * b2 := by rw [Nat.mul_add, Nat.mul_assoc]
  have e2 : two * B = q * b1 * B + r * B := by rw [← hq, Nat.add_mul]
  have h6 : q * (b1 * B + b2) ≤ two * B + a3 := by omega
  rcases Nat.eq_zero_or_pos q with h0 | h0
  · rw [h0]; exact Nat.zero_le _
  have hBb : B * B ^ m ≤ b := Nat.le_trans (Nat.mul_le_mul_right _ (by
    have : 1 * B ≤ b1 * B := Nat.mul_le_mul_right B h1
    omega)) h3
  have hb0 : 0 < b := by
    rcases Nat.eq_zero_or_pos b with h | h
    · subst h; rw [Nat.zero_div] at hb
      have : 0 < b1 * B := Nat.mul_pos h1 (by omega)
      omega
    · exact h
  have h7 : q * b ≤ A + B * B ^ m := by
    have a1 : q * b ≤ q * ((b1 * B + b2 + 1) * B ^ m) := Nat.mul_le_mul_left _ (Nat.le_of_lt h4)
    have a2 : q * ((b1 * B + b2 + 1) * B ^ m) = q * (b1 * B + b2) * B ^ m + q * B ^ m := by
      rw [Nat.add_mul, Nat.one_mul, Nat.mul_add, Nat.mul_assoc]
    have a3' : q * (b1 * B + b2) * B ^ m ≤ (two * B + a3) * B ^ m := Nat.mul_le_mul_right _ h6
    have a4 : q * B ^ m ≤ B * B ^ m := Nat.mul_le_mul_right _ hqB
    omega
  have h8 : (q - 1) * b ≤ A := by
    have : q * b = (q - 1) * b + b := by
      conv => lhs; rw [show q = q - 1 + 1 by omega, Nat.add_mul, Nat.one_mul]
    omega
  have := (Nat.le_div_iff_mul_le hb0).2 h8
  omega
/-- The head of a round that takes a product away. -/
structure MsN (B q b : Nat) (l0 : List Nat) (off i carry c : Nat) (l : List Nat) : Prop where
  len : l.length = l0.length
  lt : AllLt B l
  v : val B l + q * (b % B ^ i) % B ^ i * B ^ off = val B l0 + c * B ^ (off + i)
  cr : carry = q * (b % B ^ i) / B ^ i
  c1 : c ≤ 1
  z : ∀ j, off + i ≤ j → l.getD j 0 = l0.getD j 0
theorem MsN.start {B q b off : Nat} {l0 : List Nat} (h : AllLt B l0) : MsN B q b l0 off 0 0 0 l0 :=
  ⟨rfl, h, by simp [Nat.mod_one], by simp [Nat.mod_one], by omega, fun _ _ => rfl⟩
theorem MsN.carry_lt {B q b off i carry c : Nat} {l0 l : List Nat} (hB : 0 < B) (H : MsN B q b l0 off i carry c l) (hq : q < B) : carry < B := by
  have hp : 0 < B ^ i := Nat.pow_pos hB
  rw [H.cr]
  refine Nat.div_lt_of_lt_mul ?_
  rw [Nat.mul_comm (B ^ i) B]
  exact Nat.mul_lt_mul'' hq (Nat.mod_lt _ hp)
theorem MsN.step {B q b off i carry c c' d s : Nat} {l0 l : List Nat} (hB : 1 < B) (H : MsN B q b l0 off i carry c l) (hi : off + i < l0.length) (hs : s = carry + q * (b / B ^ i % B)) (hd : d < B) (hc : c' ≤ 1)
    (he : d + c + s % B = l.getD (off + i) 0 + c' * B) : MsN B q b l0 off (i + 1) (s / B) c' (l.set (off + i) d) := by
  have hl : off + i < l.length := by rw [H.len]; exact hi
  have hp : 0 < B ^ i := Nat.pow_pos (by omega)
  have e0 : q * (b % B ^ (i + 1)) = q * (b % B ^ i) % B ^ i + B ^ i * s := by
    rw [mod_pow_succ, hs, H.cr, Nat.mul_add, Nat.mul_add]
    have := Nat.mod_add_div (q * (b % B ^ i)) (B ^ i)
    have e : q * (B ^ i * (b / B ^ i % B)) = B ^ i * (q * (b / B ^ i % B)) := Nat.mul_left_comm _ _ _
    omega
  have m0 := Nat.mod_lt (q * (b % B ^ i)) hp
  have e1 : q * (b % B ^ (i + 1)) % B ^ (i + 1) = q * (b % B ^ i) % B ^ i + B ^ i * (s % B) := by
    rw [e0, Nat.pow_succ, Nat.mod_mul, Nat.add_mul_mod_self_left, Nat.mod_eq_of_lt m0, Nat.add_mul_div_left _ _ hp, Nat.div_eq_of_lt m0, Nat.zero_add]
  have e2 : q * (b % B ^ (i + 1)) / B ^ (i + 1) = s / B := by
    rw [e0, Nat.pow_succ, ← Nat.div_div_eq_div_mul, Nat.add_mul_div_left _ _ hp, Nat.div_eq_of_lt m0, Nat.zero_add]
  refine ⟨by rw [List.length_set]; exact H.len, H.lt.set hd _, ?_, e2.symm, hc, fun j hj => ?_⟩
  · have h1 := val_set (B := B) hl d
    have hv := H.v
    rw [e1]
    rw [show B ^ (off + (i + 1)) = B ^ (off + i) * B by rw [← Nat.pow_succ]; rfl]
    have e4 : B ^ (off + i) = B ^ i * B ^ off := by rw [Nat.pow_add, Nat.mul_comm]
    rw [e4] at h1 hv ⊢
    generalize val B (l.set (off + i) d) = v1 at *
    generalize val B l = v0 at *
    generalize val B l0 = w0 at *
    generalize l.getD (off + i) 0 = z at *
    generalize q * (b % B ^ i) % B ^ i = x at *
    generalize s % B = y at *
    generalize B ^ i = u at *
    generalize B ^ off = w at *
    have f1 : z * (u * w) + c' * B * (u * w) = d * (u * w) + c * (u * w) + y * (u * w) := by
      rw [← Nat.add_mul, ← he, Nat.add_mul, Nat.add_mul]
    have f2 : (x + u * y) * w = x * w + y * (u * w) := by
      rw [Nat.add_mul, Nat.mul_comm u y, Nat.mul_assoc]
    have f3 : c' * (u * w * B) = c' * B * (u * w) := by
      rw [Nat.mul_comm (u * w) B, Nat.mul_assoc]
    rw [f2, f3]
    omega
  · rw [getD_set_ne (by omega)]; exact H.z j (by omega)
/-- The head of a round that gives the divisor back. -/
structure AbN (B b : Nat) (l0 : List Nat) (off i c : Nat) (l : List Nat) : Prop where
  len : l.length = l0.length
  lt : AllLt B l
  v : val B l + c * B ^ (off + i) = val B l0 + b % B ^ i * B ^ off
  c1 : c ≤ 1
  z : ∀ j, off + i ≤ j → l.getD j 0 = l0.getD j 0
theorem AbN.start {B b off : Nat} {l0 : List Nat} (h : AllLt B l0) : AbN B b l0 off 0 0 l0 :=
  ⟨rfl, h, by simp [Nat.mod_one], by omega, fun _ _ => rfl⟩
theorem AbN.step {B b off i c s : Nat} {l0 l : List Nat} (hB : 1 < B) (H : AbN B b l0 off i c l) (hi : off + i < l0.length) (hs : s = c + (l.getD (off + i) 0 + b / B ^ i % B)) : AbN B b l0 off (i + 1) (s / B) (l.set (off + i) (s % B)) := by
  have hl : off + i < l.length := by rw [H.len]; exact hi
  have ma := H.lt.getD (by omega) (off + i)
  have mb := Nat.mod_lt (b / B ^ i) (show 0 < B by omega)
  have hc := H.c1
  refine ⟨by rw [List.length_set]; exact H.len, H.lt.set (Nat.mod_lt _ (by omega)) _, ?_, ?_, fun j hj => ?_⟩
  · have h1 := val_set (B := B) hl (s % B)
    have hv := H.v
    have e := Nat.mod_add_div s B
    rw [mod_pow_succ]
    rw [show B ^ (off + (i + 1)) = B ^ (off + i) * B by rw [← Nat.pow_succ]; rfl]
    have e4 : B ^ (off + i) = B ^ i * B ^ off := by rw [Nat.pow_add, Nat.mul_comm]
    rw [e4] at h1 hv ⊢
    generalize val B (l.set (off + i) (s % B)) = v1 at *
    generalize val B l = v0 at *
    generalize val B l0 = w0 at *
    generalize l.getD (off + i) 0 = z at *
    generalize s / B = p at *
    generalize s % B = y at *
    generalize b / B ^ i % B = t at *
    generalize b % B ^ i = x at *
    generalize B ^ i = u at *
    generalize B ^ off = w at *
    have f1 : y * (u * w) + p * (u * w * B) = c * (u * w) + z * (u * w) + t * (u * w) := by
      have f : p * (u * w * B) = B * p * (u * w) := by rw [Nat.mul_comm (u * w) B, ← Nat.mul_assoc, Nat.mul_comm p B]
      rw [f, ← Nat.add_mul, e, hs, Nat.add_mul, Nat.add_mul, Nat.add_assoc]
    have f2 : (x + u * t) * w = x * w + t * (u * w) := by
      rw [Nat.add_mul, Nat.mul_comm u t, Nat.mul_assoc]
    rw [f2]
    omega
  · have : s / B < 2 := Nat.div_lt_of_lt_mul (by omega)
    omega
  · rw [getD_set_ne (by omega)]; exact H.z j (by omega)
/-- What a step leaves: the window less the digit's product. -/
structure StepOut (B b : Nat) (l0 : List Nat) (off n : Nat) (l : List Nat) : Prop where
  len : l.length = l0.length
  lt : AllLt B l
  v : val B l + win B l0 off (n + 1) / b * b * B ^ off = val B l0
/-- How the list's value is made of what lies above the window, the window, what lies below. -/
theorem win_split {B : Nat} {l : List Nat} (off m : Nat) (hp : 0 < B ^ off) : val B l = val B l % B ^ off + win B l off m * B ^ off + val B l / B ^ off / B ^ m * B ^ m * B ^ off := by
  unfold win
  have e1 := Nat.mod_add_div (val B l) (B ^ off)
  have e2 := Nat.mod_add_div (val B l / B ^ off) (B ^ m)
  generalize val B l / B ^ off = x at *
  generalize val B l % B ^ off = y at *
  have e3 : B ^ off * x = x % B ^ m * B ^ off + x / B ^ m * B ^ m * B ^ off := by
    rw [← Nat.add_mul, Nat.mul_comm (x / B ^ m), e2, Nat.mul_comm]
  omega
theorem same_div {U a t x y : Nat} (hx : x < U) (hy : y < U) (h : a * U + x = t * U + y) : a = t ∧ x = y := by
  have hU : 0 < U := by omega
  have e1 : (a * U + x) / U = a := by rw [Nat.mul_comm, Nat.mul_add_div hU, Nat.div_eq_of_lt hx, Nat.add_zero]
  have e2 : (t * U + y) / U = t := by rw [Nat.mul_comm, Nat.mul_add_div hU, Nat.div_eq_of_lt hy, Nat.add_zero]
  have : a = t := by rw [← e1, h, e2]
  subst this
  omega
theorem div_of_digits {B : Nat} (hB : 0 < B) {l m : List Nat} (hl : AllLt B l) (hm : AllLt B m) (h : l.length = m.length) {k : Nat} (hk : k ≤ m.length) (hz : ∀ j, k ≤ j → l.getD j 0 = m.getD j 0) : val B l / B ^ k = val B m / B ^ k := by
  rw [← val_div hB hl k (by omega), ← val_div hB hm k hk]
  congr 1
  apply List.ext_getElem?
  intro j
  rw [List.getElem?_drop, List.getElem?_drop]
  by_cases hj : k + j < m.length
  · have := hz (k + j) (by omega)
    rw [List.getD_eq_getElem?_getD, List.getD_eq_getElem?_getD] at this
    rw [List.getElem?_eq_getElem (by omega), List.getElem?_eq_getElem hj] at this ⊢
    simpa using this
  · rw [List.getElem?_eq_none (by omega), List.getElem?_eq_none (by omega)]
/-- The last digit of a step. -/
theorem MsN.fin {B q b off n carry c : Nat} {l0 l : List Nat} (hB : 1 < B) (H : MsN B q b l0 off n carry c l) (hn : off + n < l0.length) (h0 : AllLt B l0) (hb : b < B ^ n) (hb0 : 0 < b) (hq1 : win B l0 off (n + 1) / b ≤ q) (hq2 : q ≤ win B l0 off (n + 1) / b + 1) :
    (carry + c = l.getD (off + n) 0 ∧ q = win B l0 off (n + 1) / b ∧ StepOut B b l0 off n (l.set (off + n) 0)) ∨
    (carry + c = l.getD (off + n) 0 + 1 ∧ q = win B l0 off (n + 1) / b + 1 ∧
      ∀ s l2, AbN B b (l.set (off + n) (B - 1)) off n s l2 → s = 1 ∧ StepOut B b l0 off n (l2.set (off + n) 0)) := by
  have hp : 0 < B ^ off := Nat.pow_pos (by omega)
  have hpn : 0 < B ^ n := Nat.pow_pos (by omega)
  have hl : off + n < l.length := by rw [H.len]; exact hn
  obtain ⟨W, hW⟩ : ∃ W, W = B ^ off := ⟨_, rfl⟩
  obtain ⟨U, hU⟩ : ∃ U, U = B ^ (off + n) := ⟨_, rfl⟩
  have hU2 : U = B ^ n * W := by rw [hU, hW, Nat.pow_add, Nat.mul_comm]
  have hU0 : 0 < U := by rw [hU]; exact Nat.pow_pos (by omega)
  have ez := H.z (off + n) (Nat.le_refl _)
  obtain ⟨an, han⟩ : ∃ an, an = l0.getD (off + n) 0 := ⟨_, rfl⟩
  rw [ez, ← han]
  have hhi := div_of_digits (by omega) H.lt h0 H.len (Nat.le_of_lt hn) H.z
  rw [← hU] at hhi
  obtain ⟨hi, ehi⟩ : ∃ hi, hi = val B l0 / U := ⟨_, rfl⟩
  rw [← ehi] at hhi
  have dl0 := Nat.div_add_mod (val B l0) U
  have dl1 := Nat.div_add_mod (val B l) U
  rw [← ehi] at dl0
  rw [hhi] at dl1
  obtain ⟨x, hx⟩ : ∃ x, x = val B l % U := ⟨_, rfl⟩
  obtain ⟨x0, hx0⟩ : ∃ x0, x0 = val B l0 % U := ⟨_, rfl⟩
  rw [← hx] at dl1
  rw [← hx0] at dl0
  have lx : x < U := by rw [hx]; exact Nat.mod_lt _ hU0
  have lx0 : x0 < U := by rw [hx0]; exact Nat.mod_lt _ hU0
  have ean : an = hi % B := by rw [han, getD_val (by omega) h0, ← hU, ← ehi]
  obtain ⟨A, hA⟩ : ∃ A, A = win B l0 off (n + 1) := ⟨_, rfl⟩
  rw [← hA] at hq1 hq2 ⊢
  have eA : A * W + x0 % W = an * U + x0 := by
    have e1 : val B l0 / B ^ off = hi * B ^ n + x0 / W := by
      rw [← hW, ← dl0, hU2, show B ^ n * W * hi + x0 = W * (hi * B ^ n) + x0 by rw [Nat.mul_comm (B ^ n) W, Nat.mul_assoc, Nat.mul_comm (B ^ n) hi], Nat.mul_add_div (by omega)]
    have lw : x0 / W < B ^ n := Nat.div_lt_of_lt_mul (by rw [Nat.mul_comm, ← hU2]; exact lx0)
    have e2 : A = an * B ^ n + x0 / W := by
      rw [hA, win, e1, mod_pow_succ, Nat.mul_comm hi, Nat.mul_add_mod, Nat.mod_eq_of_lt lw, Nat.mul_add_div hpn, Nat.div_eq_of_lt lw, Nat.add_zero, ← ean, Nat.mul_comm (B ^ n), Nat.add_comm]
    rw [e2, Nat.add_mul, Nat.mul_assoc, ← hU2]
    have := Nat.div_add_mod' x0 W
    omega
  have hbm : b % B ^ n = b := Nat.mod_eq_of_lt hb
  have hv := H.v
  have hcr := H.cr
  rw [hbm] at hv hcr
  have e3 := Nat.div_add_mod (q * b) (B ^ n)
  rw [← hcr] at e3
  have e4 : q * b * W = carry * U + q * b % B ^ n * W := by
    conv => lhs; rw [← e3]
    rw [Nat.add_mul, hU2, Nat.mul_comm (B ^ n) carry, Nat.mul_assoc]
  rw [← hW, ← hU] at hv
  have tU : (carry + c) * U = carry * U + c * U := Nat.add_mul _ _ _
  -- the sum of all
  have E : val B l + q * b * W = val B l0 + (carry + c) * U := by omega
  obtain ⟨Q, hQ⟩ : ∃ Q, Q = A / b := ⟨_, rfl⟩
  obtain ⟨R, hR⟩ : ∃ R, R = A % b := ⟨_, rfl⟩
  rw [← hQ] at hq1 hq2 ⊢
  have hRb : R < b := by rw [hR]; exact Nat.mod_lt _ hb0
  have eQ : A * W = Q * b * W + R * W := by
    rw [← Nat.add_mul, hQ, hR, Nat.mul_comm (A / b) b, Nat.div_add_mod]
  have lR : R * W + W ≤ b * W := by
    have := Nat.mul_le_mul_right W (show R + 1 ≤ b from hRb)
    rw [Nat.add_mul, Nat.one_mul] at this
    exact this
  have lb : b * W ≤ U := by rw [hU2]; exact Nat.mul_le_mul_right _ (Nat.le_of_lt hb)
  have lx0w : x0 % W < W := Nat.mod_lt _ (by omega)
  have hv1 : ∀ d, val B (l.set (off + n) d) + an * U = val B l + d * U := fun d => by
    have := val_set (B := B) hl d
    rw [ez, ← han, ← hU] at this
    exact this
  rcases Nat.lt_or_ge Q q with hlt | hge
  · -- one too great
    have hq : q = Q + 1 := by omega
    have e5 : q * b * W = Q * b * W + b * W := by rw [hq, Nat.add_mul, Nat.one_mul, Nat.add_mul]
    have e6 : (an + 1) * U + x = (carry + c) * U + (U + (R * W + x0 % W) - b * W) := by
      rw [Nat.add_mul, Nat.one_mul]
      omega
    obtain ⟨e7, e8⟩ := same_div lx (by omega) e6
    refine .inr ⟨e7.symm, hq, fun s l2 h2 => ?_⟩
    have hBU : (B - 1) * U + U = B * U := by
      conv => rhs; rw [show B = B - 1 + 1 by omega, Nat.add_mul, Nat.one_mul]
    have v1 := hv1 (B - 1)
    have hs1 := h2.c1
    have hv2 := h2.v
    rw [hbm, ← hU, ← hW] at hv2
    have hll : (l.set (off + n) (B - 1)).length = l.length := List.length_set
    have z2 := h2.z (off + n) (Nat.le_refl _)
    rw [getD_set_eq hl] at z2
    have hl2 : off + n < l2.length := by rw [h2.len, hll]; exact hl
    have hlt1 : AllLt B (l.set (off + n) (B - 1)) := H.lt.set (by omega) _
    have hhi2 := div_of_digits (by omega) h2.lt hlt1 h2.len (by rw [hll]; omega) h2.z
    rw [← hU] at hhi2
    have d1 := Nat.div_add_mod (val B (l.set (off + n) (B - 1))) U
    have d2 := Nat.div_add_mod (val B l2) U
    rw [hhi2] at d2
    have m1 : val B (l.set (off + n) (B - 1)) % U = x := by
      have : val B (l.set (off + n) (B - 1)) + an * U = val B l + (B - 1) * U := v1
      have t1 : (val B (l.set (off + n) (B - 1)) + an * U) % U = val B (l.set (off + n) (B - 1)) % U := Nat.add_mul_mod_self_right ..
      have t2 : (val B l + (B - 1) * U) % U = val B l % U := Nat.add_mul_mod_self_right ..
      rw [← t1, this, t2, hx]
    rw [m1] at d1
    have lx2 := Nat.mod_lt (val B l2) hU0
    have hs : s = 1 := by
      rcases Nat.eq_zero_or_pos s with h | h
      · subst h; omega
      · omega
    refine ⟨hs, by rw [List.length_set, h2.len, hll, H.len], h2.lt.set (by omega) _, ?_⟩
    have v3 := val_set (B := B) hl2 0
    rw [z2, ← hU, Nat.zero_mul] at v3
    rw [← hA, ← hQ, ← hW]
    subst hs
    rw [← e7, Nat.add_mul] at E
    omega
  · have hq : q = Q := by omega
    have e6 : an * U + x = (carry + c) * U + (R * W + x0 % W) := by
      rw [hq] at E e4
      omega
    obtain ⟨e7, e8⟩ := same_div lx (by omega) e6
    refine .inl ⟨e7.symm, hq, by rw [List.length_set]; exact H.len, H.lt.set (by omega) _, ?_⟩
    rw [← hA, ← hQ, ← hW, ← hq]
    have v1 := hv1 0
    rw [← e7] at E
    omega
/-- What a step leaves, read as quotient and rest. -/
theorem StepOut.div {B D i off n : Nat} {l0 l : List Nat} (hB : 1 < B) (H : StepOut B D l0 i n l) (hD0 : 0 < D) (hD : D < B ^ n) (hlt : AllLt B l0) (hv : val B l0 < D * B ^ (i + 1)) :
    win B l0 i (n + 1) = val B l0 / B ^ i ∧ val B l = val B l0 % (D * B ^ i) ∧ win B l0 i (n + 1) / D = val B l0 / D / B ^ i ∧ win B l0 i (n + 1) < D * B := by
  have hp : 0 < B ^ i := Nat.pow_pos (by omega)
  have h1 : val B l0 / B ^ i < D * B := Nat.div_lt_of_lt_mul (by rw [Nat.mul_comm, Nat.mul_assoc, ← Nat.pow_succ']; exact hv)
  have h2 : val B l0 / B ^ i < B ^ (n + 1) := by
    rw [Nat.pow_succ]
    exact Nat.lt_of_lt_of_le h1 (Nat.mul_le_mul_right _ (Nat.le_of_lt hD))
  have e1 : win B l0 i (n + 1) = val B l0 / B ^ i := by rw [win, Nat.mod_eq_of_lt h2]
  have hv2 := H.v
  rw [e1] at hv2 ⊢
  refine ⟨rfl, ?_, ?_, h1⟩
  · have e2 : val B l0 / B ^ i / D = val B l0 / (D * B ^ i) := by rw [Nat.div_div_eq_div_mul, Nat.mul_comm]
    rw [e2, Nat.mul_assoc] at hv2
    have := Nat.div_add_mod' (val B l0) (D * B ^ i)
    omega
  · rw [Nat.div_div_eq_div_mul, Nat.div_div_eq_div_mul, Nat.mul_comm]
end Va
/- Plain laws of shifts of numbers of many digits; of noughts at the low end; of the greatest measure. -/
set_option linter.unusedVariables false
set_option linter.unusedSimpArgs false
namespace Va
/-- How many noughts stand at the low end. -/
def tz (n : Nat) : Nat := if n = 0 then 0 else ctz n n
theorem tz_spec {n : Nat} (h : 0 < n) : ∃ m, n = 2 ^ tz n * (2 * m + 1) := by
  obtain ⟨m, h1, _⟩ := ctz_spec n n h Nat.lt_two_pow_self
  exact ⟨m, by rw [tz, if_neg (by omega)]; exact h1⟩
theorem odd_le {a b m k : Nat} (h : 2 ^ a * (2 * m + 1) = 2 ^ b * (2 * k + 1)) : b ≤ a := by
  rcases Nat.lt_or_ge a b with hl | hl
  · exfalso
    obtain ⟨d, rfl⟩ : ∃ d, b = a + (d + 1) := ⟨b - a - 1, by omega⟩
    rw [Nat.pow_add, Nat.mul_assoc] at h
    have h2 := Nat.eq_of_mul_eq_mul_left (Nat.pow_pos (by decide)) h
    rw [Nat.pow_succ, Nat.mul_assoc, Nat.mul_left_comm] at h2
    omega
  · exact hl
theorem tz_unique {n k m : Nat} (h : n = 2 ^ k * (2 * m + 1)) : tz n = k := by
  have hp : 0 < 2 ^ k := Nat.pow_pos (by decide)
  have h0 : 0 < n := by
    rw [h]; exact Nat.mul_pos hp (by omega)
  obtain ⟨m', h'⟩ := tz_spec h0
  have e : 2 ^ tz n * (2 * m' + 1) = 2 ^ k * (2 * m + 1) := h'.symm.trans h
  have h1 := odd_le e
  have h2 := odd_le e.symm
  omega
theorem tz_shift {n q j : Nat} (h : 0 < n) : tz (n * 2 ^ j) = tz n + j := by
  obtain ⟨m, hm⟩ := tz_spec h
  refine tz_unique (m := m) ?_
  conv => lhs; rw [hm]
  rw [Nat.pow_add, Nat.mul_right_comm]
theorem tz_word {x : Nat} (h : 0 < x) (hx : x < 18446744073709551616) : ctz 64 x = tz x := by
  obtain ⟨m, h1, _⟩ := ctz_spec 64 x h hx
  exact (tz_unique h1).symm
theorem tz_lt_dl {n : Nat} (h : 0 < n) : tz n < dl 2 n := by
  obtain ⟨m, hm⟩ := tz_spec h
  rcases Nat.lt_or_ge (tz n) (dl 2 n) with h1 | h1
  · exact h1
  · exfalso
    have h2 := (dl_le_iff (B := 2) (by decide)).1 h1
    have : 2 ^ tz n * 1 ≤ 2 ^ tz n * (2 * m + 1) := Nat.mul_le_mul_left _ (by omega)
    omega
theorem tz_div_odd {n : Nat} (h : 0 < n) : ∃ m, n / 2 ^ tz n = 2 * m + 1 ∧ n = n / 2 ^ tz n * 2 ^ tz n := by
  obtain ⟨m, hm⟩ := tz_spec h
  have hp : 0 < 2 ^ tz n := Nat.pow_pos (by decide)
  have e : n / 2 ^ tz n = 2 * m + 1 := by
    generalize tz n = t at *
    rw [hm, Nat.mul_div_cancel_left _ hp]
  exact ⟨m, e, by rw [e, Nat.mul_comm]; exact hm⟩
/-- A power of two is no measure of an odd number. -/
theorem gcd_pow_odd {a m : Nat} (k : Nat) (h : a = 2 * m + 1) : Nat.gcd (2 ^ k) a = 1 := by
  have h1 : Nat.Coprime 2 a := by
    unfold Nat.Coprime
    rw [h, Nat.gcd_rec, Nat.mul_add_mod]
    rfl
  exact Nat.Coprime.pow_left k h1
theorem gcd_shift {a b m : Nat} (k : Nat) (hb : b = 2 * m + 1) : Nat.gcd (a * 2 ^ k) b = Nat.gcd a b := by
  have h1 : Nat.Coprime (2 ^ k) b := gcd_pow_odd k hb
  exact Nat.Coprime.gcd_mul_right_cancel a h1
/-- The measure, its twos taken out. -/
theorem gcd_twos {a b : Nat} (ha : 0 < a) (hb : 0 < b) : Nat.gcd a b = Nat.gcd (a / 2 ^ tz a) (b / 2 ^ tz b) * 2 ^ min (tz a) (tz b) := by
  obtain ⟨m, h1, h2⟩ := tz_div_odd ha
  obtain ⟨k, h3, h4⟩ := tz_div_odd hb
  obtain ⟨x, hx⟩ : ∃ x, x = a / 2 ^ tz a := ⟨_, rfl⟩
  obtain ⟨y, hy⟩ : ∃ y, y = b / 2 ^ tz b := ⟨_, rfl⟩
  rw [← hx] at h1 h2 ⊢
  rw [← hy] at h3 h4 ⊢
  rcases Nat.le_total (tz a) (tz b) with h | h
  · rw [Nat.min_eq_left h]
    conv => lhs; rw [h2, h4, show tz b = tz b - tz a + tz a by omega, Nat.pow_add, ← Nat.mul_assoc, Nat.gcd_mul_right]
    congr 1
    rw [Nat.gcd_comm, gcd_shift _ h1, Nat.gcd_comm]
  · rw [Nat.min_eq_right h]
    conv => lhs; rw [h2, h4, show tz a = tz a - tz b + tz b by omega, Nat.pow_add, ← Nat.mul_assoc, Nat.gcd_mul_right]
    congr 1
    rw [gcd_shift _ h3]
/-- One round of the measure by shifts. -/
theorem gcd_round {a b m k : Nat} (ha : a = 2 * m + 1) (hb : b = 2 * k + 1) (h : b < a) : Nat.gcd ((a - b) / 2 ^ tz (a - b)) b = Nat.gcd a b := by
  have h0 : 0 < a - b := by omega
  obtain ⟨_, _, h2⟩ := tz_div_odd h0
  have e : Nat.gcd (a - b) b = Nat.gcd a b := by
    rw [Nat.gcd_sub_self_left (Nat.le_of_lt h)]
  rw [← e]
  conv => rhs; rw [h2, gcd_shift _ hb]
/-- The head of a round of a shift upward: q whole digits and s bits. -/
structure UpN (n s q i : Nat) (l : List Nat) : Prop where
  lt : AllLt 4294967296 l
  v : val 4294967296 l = n % 4294967296 ^ i * 2 ^ s * 4294967296 ^ q
  top : l.getD (q + i) 0 < 2 ^ s
  z : ∀ j, q + i < j → l.getD j 0 = 0
theorem UpN.start {n s q k : Nat} : UpN n s q 0 (List.replicate k 0) := by
  have z : ∀ j, (List.replicate k 0).getD j 0 = 0 := fun j => by rw [List.getD_eq_getElem?_getD, List.getElem?_replicate]; split <;> rfl
  exact ⟨AllLt.rep (by decide) k, by rw [val_rep0]; simp [Nat.mod_one], by rw [z]; exact Nat.pow_pos (by decide), fun j _ => z j⟩
theorem two32 {s : Nat} (hs : s < 32) : 4294967296 = 2 ^ (32 - s) * 2 ^ s := by
  rw [← Nat.pow_add, show 32 - s + s = 32 by omega]
theorem up_low {x s : Nat} (hs : s < 32) : x * 2 ^ s % 4294967296 = x % 2 ^ (32 - s) * 2 ^ s := by
  conv => lhs; rw [two32 hs]
  exact Nat.mul_mod_mul_right _ _ _
theorem up_or {v x s : Nat} (hs : s < 32) (hv : v < 2 ^ s) : v ||| (x * 2 ^ s % 4294967296) = v + x * 2 ^ s % 4294967296 ∧ v + x * 2 ^ s % 4294967296 < 4294967296 := by
  rw [up_low hs]
  have h := Nat.two_pow_add_eq_or_of_lt hv (x % 2 ^ (32 - s))
  rw [Nat.mul_comm (2 ^ s)] at h
  refine ⟨by rw [Nat.or_comm, ← h, Nat.add_comm], ?_⟩
  have h1 : x % 2 ^ (32 - s) + 1 ≤ 2 ^ (32 - s) := Nat.mod_lt _ (Nat.pow_pos (by decide))
  have h2 := Nat.mul_le_mul_right (2 ^ s) h1
  rw [← two32 hs, Nat.add_mul, Nat.one_mul] at h2
  omega
theorem up_high {x s : Nat} (hx : x < 4294967296) : x * 2 ^ s / 4294967296 < 2 ^ s :=
  Nat.div_lt_of_lt_mul (Nat.mul_lt_mul_of_pos_right hx (Nat.pow_pos (by decide)))
theorem UpN.step {n s q i : Nat} {l : List Nat} (hs : s < 32) (H : UpN n s q i l) (hl : q + i + 1 < l.length) {x y : Nat} (hx : x = n / 4294967296 ^ i % 4294967296) (hy : y = x * 2 ^ s) :
    UpN n s q (i + 1) ((l.set (q + i) (l.getD (q + i) 0 + y % 4294967296)).set (q + i + 1) (y / 4294967296)) := by
  have hx2 : x < 4294967296 := by rw [hx]; exact Nat.mod_lt _ (by decide)
  obtain ⟨_, o2⟩ := up_or (x := x) hs H.top
  rw [← hy] at o2
  have y2 := up_high (s := s) hx2
  rw [← hy] at y2
  have hp : 2 ^ s ≤ 2 ^ 32 := Nat.pow_le_pow_right (by decide) (by omega)
  have hl1 : (l.set (q + i) (l.getD (q + i) 0 + y % 4294967296)).length = l.length := List.length_set
  have v1 := val_set (B := 4294967296) (l := l) (i := q + i) (by omega) (l.getD (q + i) 0 + y % 4294967296)
  have v2 := val_set (B := 4294967296) (l := l.set (q + i) (l.getD (q + i) 0 + y % 4294967296)) (i := q + i + 1) (by rw [hl1]; exact hl) (y / 4294967296)
  rw [getD_set_ne (by omega), H.z (q + i + 1) (by omega), Nat.zero_mul, Nat.add_zero] at v2
  refine ⟨(H.lt.set o2 _).set (by omega) _, ?_, ?_, fun j hj => ?_⟩
  · rw [v2]
    have e1 := H.v
    have e2 := Nat.mod_add_div y 4294967296
    rw [mod_pow_succ, ← hx, Nat.add_mul, Nat.add_mul, ← e1, Nat.mul_assoc _ x, ← hy]
    have e3 : 4294967296 ^ (q + i + 1) = 4294967296 * 4294967296 ^ (q + i) := by rw [Nat.pow_succ, Nat.mul_comm]
    have e4 : 4294967296 ^ i * y * 4294967296 ^ q = y * 4294967296 ^ (q + i) := by
      rw [Nat.pow_add, Nat.mul_comm (4294967296 ^ i) y, Nat.mul_assoc, Nat.mul_comm (4294967296 ^ i)]
    have e5 : y * 4294967296 ^ (q + i) = y % 4294967296 * 4294967296 ^ (q + i) + y / 4294967296 * (4294967296 * 4294967296 ^ (q + i)) := by
      rw [← Nat.mul_assoc, Nat.mul_comm (y / 4294967296), ← Nat.add_mul, e2]
    rw [e3, e4, e5]
    rw [Nat.add_mul] at v1
    omega
  · rw [show q + (i + 1) = q + i + 1 by omega, getD_set_eq (by rw [hl1]; exact hl)]
    exact y2
  · rw [getD_set_ne (by omega), getD_set_ne (by omega)]; exact H.z j (by omega)
theorem UpN.fin {n s q i : Nat} {l : List Nat} (H : UpN n s q i l) (hn : n < 4294967296 ^ i) : val 4294967296 l = n * 2 ^ (32 * q + s) := by
  have h := H.v
  rw [Nat.mod_eq_of_lt hn] at h
  rw [h, Nat.pow_add, Nat.pow_mul, Nat.mul_assoc, Nat.mul_comm (2 ^ s)]
/-- A digit of a number shifted down. -/
theorem dn_digit {n s q i : Nat} (hs : s < 32) : (n / 4294967296 ^ (q + i) % 4294967296 + n / 4294967296 ^ (q + i + 1) % 4294967296 * 4294967296) / 2 ^ s % 4294967296 = n / 2 ^ (32 * q + s) / 4294967296 ^ i % 4294967296 := by
  have e1 : n / 2 ^ (32 * q + s) / 4294967296 ^ i = n / 4294967296 ^ (q + i) / 2 ^ s := by
    rw [Nat.div_div_eq_div_mul, Nat.div_div_eq_div_mul, Nat.pow_add 2, Nat.pow_mul, show (2 : Nat) ^ 32 = 4294967296 by rfl, Nat.pow_add 4294967296, Nat.mul_assoc, Nat.mul_comm (2 ^ s), ← Nat.mul_assoc]
  rw [e1, Nat.pow_succ, ← Nat.div_div_eq_div_mul]
  generalize n / 4294967296 ^ (q + i) = M
  have e2 : M % 4294967296 + M / 4294967296 % 4294967296 * 4294967296 = M % (4294967296 * 4294967296) := by
    rw [Nat.mod_mul, Nat.mul_comm 4294967296]
  rw [e2]
  have e3 : 4294967296 * 4294967296 = 2 ^ s * (4294967296 * 2 ^ (32 - s)) := by
    rw [Nat.mul_left_comm, Nat.mul_comm (2 ^ s), ← two32 hs]
  rw [e3, Nat.mod_mul_right_div_self, Nat.mod_mul_right_mod]
theorem dn_or {x y : Nat} (hx : x < 4294967296) : x ||| (y * 4294967296) = x + y * 4294967296 := by
  have h := Nat.two_pow_add_eq_or_of_lt (i := 32) (b := x) hx y
  rw [show (2 : Nat) ^ 32 = 4294967296 by rfl, Nat.mul_comm] at h
  rw [Nat.or_comm, ← h, Nat.add_comm]
/-- How many bits there are. -/
theorem dl_bits {n : Nat} (h : 0 < n) : dl 2 n = 32 * (dl 4294967296 n - 1) + dl 2 (n / 4294967296 ^ (dl 4294967296 n - 1) % 4294967296) := by
  obtain ⟨k, hk⟩ : ∃ k, k = dl 4294967296 n - 1 := ⟨_, rfl⟩
  have h1 := dl_pow_le (B := 4294967296) (n := n) (by decide) h
  have h2 := lt_pow_dl (B := 4294967296) (by decide) n
  have h3 : dl 4294967296 n ≠ 0 := fun e => by rw [dl_eq_zero (by decide)] at e; omega
  rw [← hk] at h1 ⊢
  have e1 : dl 4294967296 n = k + 1 := by omega
  rw [e1, Nat.pow_succ] at h2
  have h4 : n / 4294967296 ^ k < 4294967296 := Nat.div_lt_of_lt_mul h2
  rw [Nat.mod_eq_of_lt h4]
  have e2 : n / 4294967296 ^ k = n / 2 ^ (32 * k) := by rw [Nat.pow_mul]
  have h5 : 0 < n / 2 ^ (32 * k) := by
    rw [← e2]; exact Nat.div_pos h1 (Nat.pow_pos (by decide))
  have h6 := dl_div_pow (B := 2) (by decide) n (32 * k)
  rw [e2]
  have h7 : 0 < dl 2 (n / 2 ^ (32 * k)) := by
    rcases Nat.eq_zero_or_pos (dl 2 (n / 2 ^ (32 * k))) with h | h
    · rw [dl_eq_zero (by decide)] at h; omega
    · exact h
  omega
theorem dl_two_le (n : Nat) : dl 2 n ≤ 32 * dl 4294967296 n := by
  refine (dl_le_iff (by decide)).2 ?_
  rw [Nat.pow_mul]
  exact lt_pow_dl (by decide) n
theorem dl_of_bits {n k : Nat} (h : dl 2 n ≤ 32 * k) : dl 4294967296 n ≤ k := by
  refine (dl_le_iff (by decide)).2 ?_
  have := (dl_le_iff (by decide)).1 h
  rwa [Nat.pow_mul] at this
end Va
/- Plain laws of decimal texts. -/
set_option linter.unusedVariables false
set_option linter.unusedSimpArgs false
namespace Va
/-- Decimal digits as a text, the lowest last, so many. -/
def ptxt (L n : Nat) : List UInt8 := (padd 10 L n).reverse.map fun d => UInt8.ofNat (48 + d)
/-- A number's text. -/
def txt (n : Nat) : List UInt8 := if n = 0 then [48] else ptxt (dl 10 n) n
theorem ptxt_zero (n : Nat) : ptxt 0 n = [] := rfl
theorem ptxt_length (L n : Nat) : (ptxt L n).length = L := by simp [ptxt, padd_length]
theorem ptxt_succ (L n : Nat) : ptxt (L + 1) n = UInt8.ofNat (48 + n / 10 ^ L % 10) :: ptxt L n := by
  unfold ptxt padd
  rw [List.range_succ, List.map_append, List.reverse_append]
  simp
theorem dig4 (n i : Nat) {k : Nat} (hk : k < 4) : n / 10000 ^ i % 10000 / 10 ^ k % 10 = n / 10 ^ (4 * i + k) % 10 := by
  have e : 10 ^ (4 * i + k) = 10000 ^ i * 10 ^ k := by rw [Nat.pow_add, Nat.pow_mul]
  rw [e, ← Nat.div_div_eq_div_mul]
  generalize n / 10000 ^ i = m
  have : k = 0 ∨ k = 1 ∨ k = 2 ∨ k = 3 := by omega
  rcases this with rfl | rfl | rfl | rfl <;> simp <;> omega
theorem dig4_top {n i : Nat} (k : Nat) (h : n < 10000 ^ (i + 1)) : n / 10000 ^ i % 10000 / 10 ^ k = n / 10 ^ (4 * i + k) := by
  have e : 10 ^ (4 * i + k) = 10000 ^ i * 10 ^ k := by rw [Nat.pow_add, Nat.pow_mul]
  rw [e, ← Nat.div_div_eq_div_mul, Nat.mod_eq_of_lt]
  rw [Nat.pow_succ] at h
  exact Nat.div_lt_of_lt_mul h
theorem txt_of {n L : Nat} (hL : 0 < L) (h1 : n / 10 ^ L = 0) (h2 : n / 10 ^ (L - 1) ≠ 0) : ptxt L n = txt n := by
  have p1 : 0 < 10 ^ L := Nat.pow_pos (by decide)
  have p2 : 0 < 10 ^ (L - 1) := Nat.pow_pos (by decide)
  have a1 : n < 10 ^ L := (Nat.div_eq_zero_iff_lt p1).1 h1
  have a2 : ¬ n < 10 ^ (L - 1) := fun h => h2 ((Nat.div_eq_zero_iff_lt p2).2 h)
  have b1 := (dl_le_iff (B := 10) (n := n) (k := L) (by decide)).2 a1
  have b2 : ¬ dl 10 n ≤ L - 1 := fun h => a2 ((dl_le_iff (by decide)).1 h)
  have e : dl 10 n = L := by omega
  have n0 : n ≠ 0 := fun h => by subst h; exact a2 p2
  rw [txt, if_neg n0, e]
end Va
/- Plain laws of decimal texts, joined. -/
set_option linter.unusedVariables false
set_option linter.unusedSimpArgs false
open Go
namespace Va
theorem ptxt_add (M n : Nat) : ∀ L, ptxt (L + M) n = ptxt L (n / 10 ^ M) ++ ptxt M n
  | 0 => by rw [Nat.zero_add, ptxt_zero, List.nil_append]
  | L + 1 => by
    rw [show L + 1 + M = L + M + 1 by omega, ptxt_succ, ptxt_succ, ptxt_add M n L, Nat.div_div_eq_div_mul, ← Nat.pow_add, Nat.add_comm M L]
    rfl
theorem ptxt_mod (n K : Nat) : ∀ L, L ≤ K → ptxt L (n % 10 ^ K) = ptxt L n
  | 0, _ => rfl
  | L + 1, h => by
    have e : n % 10 ^ K / 10 ^ L % 10 = n / 10 ^ L % 10 := by
      obtain ⟨d, rfl⟩ : ∃ d, K = L + (d + 1) := ⟨K - L - 1, by omega⟩
      rw [Nat.pow_add, Nat.mod_mul_right_div_self, Nat.pow_succ, Nat.mod_mul_left_mod]
    rw [ptxt_succ, ptxt_succ, ptxt_mod n K L (by omega), e]
theorem ptxt_nought : ∀ k, ptxt k 0 = Lib.repeatL [48] k
  | 0 => rfl
  | k + 1 => by
    rw [ptxt_succ, ptxt_nought k, Nat.zero_div]; rfl
theorem txt_pos {n : Nat} (h : n ≠ 0) : txt n = ptxt (dl 10 n) n := by rw [txt, if_neg h]
theorem txt_one {u : Nat} (h : u < 10) : txt u = [UInt8.ofNat (48 + u)] := by
  by_cases h0 : u = 0
  · subst h0; rfl
  · have e : dl 10 u = 1 := by rw [dl_pos (by decide) (by omega), Nat.div_eq_of_lt h, dl_zero]
    rw [txt_pos h0, e, ptxt_succ, ptxt_zero, Nat.pow_zero, Nat.div_one, Nat.mod_eq_of_lt h]
theorem decDigits_txt : ∀ (u : Nat), Lib.decDigits u = txt u := by
  intro u
  induction u using Nat.strongRecOn with
  | _ u ih =>
    rw [Lib.decDigits]
    by_cases h : u < 10
    · rw [dif_pos h, txt_one h]
    · rw [dif_neg h, ih (u / 10) (by omega), txt_pos (by omega), txt_pos (by omega), dl_pos (B := 10) (n := u) (by decide) (by omega), ptxt_add 1 u]
      rw [ptxt_succ 0 u, ptxt_zero, Nat.pow_zero, Nat.div_one, Nat.pow_one]
/-- A part below another is told in full. -/
theorem pad_part {r K : Nat} (h : r < 10 ^ K) (hK : 0 < K) : Lib.repeatL [48] (K - (txt r).length) ++ txt r = ptxt K r ∧ (txt r).length ≤ K := by
  by_cases h0 : r = 0
  · subst h0
    have : txt 0 = [48] := rfl
    obtain ⟨k, rfl⟩ : ∃ k, K = k + 1 := ⟨K - 1, by omega⟩
    refine ⟨?_, by rw [this]; simp⟩
    rw [this, Nat.add_comm k 1, ptxt_add k 0 1, ptxt_nought k]
    have e : ∀ k, Lib.repeatL [48] k ++ [48] = [48] ++ Lib.repeatL [48] k := by
      intro k
      induction k with
      | zero => rfl
      | succ k ih => simp only [Lib.repeatL, List.append_assoc, ih]
    simp only [List.length_singleton, Nat.add_sub_cancel_left]
    rw [e]
    simp [ptxt_succ, ptxt_zero]
  · have hd : dl 10 r ≤ K := (dl_le_iff (by decide)).2 h
    rw [txt_pos h0, ptxt_length]
    refine ⟨?_, hd⟩
    have e := ptxt_add (dl 10 r) r (K - dl 10 r)
    rw [show K - dl 10 r + dl 10 r = K by omega, Nat.div_eq_of_lt (lt_pow_dl (by decide) r), ptxt_nought] at e
    exact e.symm
/-- A round of telling. -/
theorem part_low (n j : Nat) : ptxt 9 (n / 10 ^ (9 * j) % 1000000000) ++ ptxt (9 * j) n = ptxt (9 * (j + 1)) n := by
  rw [show 9 * (j + 1) = 9 + 9 * j by omega, ptxt_add (9 * j) n 9, show 1000000000 = 10 ^ 9 by rfl, ptxt_mod _ 9 9 (Nat.le_refl _)]
/-- The last round of telling. -/
theorem part_top {n j : Nat} (h : n / 10 ^ (9 * j) ≠ 0) : txt (n / 10 ^ (9 * j)) ++ ptxt (9 * j) n = txt n := by
  have hn : n ≠ 0 := fun e => h (by rw [e, Nat.zero_div])
  have hd : dl 10 (n / 10 ^ (9 * j)) = dl 10 n - 9 * j := dl_div_pow (by decide) n (9 * j)
  have hd2 : dl 10 (n / 10 ^ (9 * j)) ≠ 0 := fun e => h ((dl_eq_zero (by decide)).1 e)
  rw [txt_pos h, txt_pos hn, ← ptxt_add, hd, show dl 10 n - 9 * j + 9 * j = dl 10 n by omega]
end Va
/- Plain laws of texts of digits as numbers. -/
set_option linter.unusedVariables false
set_option linter.unusedSimpArgs false
open Go
namespace Va
/-- A digit. -/
def isDg (c : UInt8) : Bool := decide (48 ≤ c.toNat ∧ c.toNat ≤ 57)
/-- The number of a text, on top of another. -/
def numF (a : Nat) (s : List UInt8) : Nat := s.foldl (fun a c => a * 10 + (c.toNat - 48)) a
/-- The number of a text. -/
def num (s : List UInt8) : Nat := numF 0 s
theorem numF_nil (a : Nat) : numF a [] = a := rfl
theorem numF_cons (a : Nat) (c : UInt8) (s : List UInt8) : numF a (c :: s) = numF (a * 10 + (c.toNat - 48)) s := by rw [numF, numF, List.foldl_cons]
theorem numF_append (a : Nat) (s t : List UInt8) : numF a (s ++ t) = numF (numF a s) t := by simp [numF]
theorem numF_eq (s : List UInt8) : ∀ (a : Nat), numF a s = a * 10 ^ s.length + num s := by
  induction s with
  | nil => intro a; rw [numF_nil, num, numF_nil, List.length_nil, Nat.pow_zero, Nat.mul_one, Nat.add_zero]
  | cons c s ih =>
    intro a
    rw [num, numF_cons, numF_cons, ih (a * 10 + (c.toNat - 48)), ih (0 * 10 + (c.toNat - 48)), List.length_cons, Nat.pow_succ, Nat.add_mul, Nat.zero_mul, Nat.zero_add, Nat.mul_assoc, Nat.mul_comm 10, Nat.add_assoc]
theorem num_cons (c : UInt8) (s : List UInt8) : num (c :: s) = (c.toNat - 48) * 10 ^ s.length + num s := by
  unfold num
  rw [numF_cons, numF_eq]
  unfold num
  rw [Nat.zero_mul, Nat.zero_add]
theorem num_lt : ∀ {s : List UInt8}, s.all isDg = true → num s < 10 ^ s.length
  | [], _ => by simp [num, numF_nil]
  | c :: s, h => by
    rw [List.all_cons, Bool.and_eq_true] at h
    have h1 := num_lt h.2
    have h2 : 48 ≤ c.toNat ∧ c.toNat ≤ 57 := by simpa [isDg] using h.1
    rw [num_cons, List.length_cons, Nat.pow_succ]
    have : (c.toNat - 48) * 10 ^ s.length ≤ 9 * 10 ^ s.length := Nat.mul_le_mul_right _ (by omega)
    omega
theorem parse_num (M : Nat) (hM : M < 1844674407370955162) : ∀ (s : List UInt8) (a : Nat), s.all isDg = true → (a + 1) * 10 ^ s.length ≤ M + 1 → Lib.parseUintM M a s = .ok (numF a s)
  | [], a, _, _ => rfl
  | c :: s, a, h, hl => by
    rw [List.all_cons, Bool.and_eq_true] at h
    have h2 : 48 ≤ c.toNat ∧ c.toNat ≤ 57 := by simpa [isDg] using h.1
    rw [List.length_cons, Nat.pow_succ, Nat.mul_comm (10 ^ s.length) 10, ← Nat.mul_assoc] at hl
    have hp : 1 ≤ 10 ^ s.length := Nat.pow_pos (by decide)
    have h3 : (a + 1) * 10 ≤ M + 1 := Nat.le_trans (Nat.le_mul_of_pos_right _ hp) hl
    rw [Lib.parseUintM, if_pos h2, if_neg (by omega), if_neg (by omega), numF_cons]
    refine parse_num M hM s _ h.2 (Nat.le_trans (Nat.mul_le_mul_right _ ?_) hl)
    omega
theorem ofNat_dg {c : UInt8} (h : 48 ≤ c.toNat) : UInt8.ofNat (48 + (c.toNat - 48)) = c := by
  rw [show 48 + (c.toNat - 48) = c.toNat by omega]
  exact UInt8.ofNat_toNat
theorem ptxt_num : ∀ {s : List UInt8}, s.all isDg = true → ptxt s.length (num s) = s
  | [], _ => rfl
  | c :: s, h => by
    have h0 := h
    rw [List.all_cons, Bool.and_eq_true] at h
    have h1 := num_lt h.2
    have h2 : 48 ≤ c.toNat ∧ c.toNat ≤ 57 := by simpa [isDg] using h.1
    have hp : 0 < 10 ^ s.length := Nat.pow_pos (by decide)
    have e1 : num (c :: s) / 10 ^ s.length = c.toNat - 48 := by
      rw [num_cons, Nat.mul_comm, Nat.mul_add_div hp, Nat.div_eq_of_lt h1]; rfl
    have e2 : num (c :: s) % 10 ^ s.length = num s := by
      rw [num_cons, Nat.mul_comm, Nat.mul_add_mod, Nat.mod_eq_of_lt h1]
    rw [List.length_cons, ptxt_succ, e1, Nat.mod_eq_of_lt (show c.toNat - 48 < 10 by omega), ofNat_dg h2.1, ← ptxt_mod (num (c :: s)) s.length s.length (Nat.le_refl _), e2, ptxt_num h.2]
/-- Whether a text is a number's own. -/
def okN (s : List UInt8) : Bool := decide (s ≠ []) && decide (s.length ≤ 2000) && !(decide (1 < s.length) && decide (s.head? = some 48)) && s.all isDg
theorem txt_num {s : List UInt8} (h0 : s ≠ []) (h1 : 1 < s.length → s.head? ≠ some 48) (h : s.all isDg = true) : txt (num s) = s := by
  cases s with
  | nil => exact absurd rfl h0
  | cons c s =>
    have hd := h
    rw [List.all_cons, Bool.and_eq_true] at h
    have h2 : 48 ≤ c.toNat ∧ c.toNat ≤ 57 := by simpa [isDg] using h.1
    by_cases hs : s = []
    · subst hs
      have e : num [c] = c.toNat - 48 := by rw [num_cons]; simp [num, numF_nil]
      rw [e, txt_one (by omega), ofNat_dg h2.1]
    · have hl : 0 < s.length := List.length_pos_iff.2 hs
      have h3 := h1 (by simp; omega)
      have h4 : c.toNat ≠ 48 := fun e => h3 (by simp; exact UInt8.toNat_inj.1 e)
      rw [← txt_of (L := s.length + 1) (by omega) ?_ ?_]
      · exact ptxt_num hd
      · exact Nat.div_eq_of_lt (num_lt hd)
      · have hp : 0 < 10 ^ s.length := Nat.pow_pos (by decide)
        have e1 : num (c :: s) / 10 ^ s.length = c.toNat - 48 := by
          rw [num_cons, Nat.mul_comm, Nat.mul_add_div hp, Nat.div_eq_of_lt (num_lt h.2)]; rfl
        rw [Nat.add_sub_cancel, e1]; omega
end Va
/- Plain laws of trimming digits. -/
set_option linter.unusedVariables false
set_option linter.unusedSimpArgs false
open Go
namespace Va
/-- The ten digits. -/
def tens : List UInt8 := [48, 49, 50, 51, 52, 53, 54, 55, 56, 57]
theorem tens_dg (c : UInt8) : tens.contains c = isDg c := by
  have e : ∀ k : UInt8, (c == k) = decide (c.toNat = k.toNat) := fun k => by
    rw [Bool.eq_iff_iff, beq_iff_eq, decide_eq_true_iff]
    exact ⟨fun h => by rw [h], fun h => UInt8.toNat_inj.1 h⟩
  simp only [tens, List.contains_cons, List.contains_nil, Bool.or_false, e, isDg]
  rw [Bool.eq_iff_iff]
  simp only [Bool.or_eq_true, decide_eq_true_iff]
  show (c.toNat = 48 ∨ c.toNat = 49 ∨ c.toNat = 50 ∨ c.toNat = 51 ∨ c.toNat = 52 ∨ c.toNat = 53 ∨ c.toNat = 54 ∨ c.toNat = 55 ∨ c.toNat = 56 ∨ c.toNat = 57) ↔ _
  omega
theorem dropW_nil {p : UInt8 → Bool} : ∀ {l : List UInt8}, l.dropWhile p = [] ↔ l.all p = true
  | [] => by simp
  | c :: l => by
    rw [List.dropWhile_cons, List.all_cons, Bool.and_eq_true]
    by_cases h : p c = true
    · rw [if_pos h, dropW_nil]; simp [h]
    · rw [if_neg h]; simp [h]
theorem trim_nil (s : List UInt8) : Lib.trimS s tens = [] ↔ s.all isDg = true := by
  have hp : (fun c => tens.contains c) = isDg := funext tens_dg
  unfold Lib.trimS Lib.trimLeftS Lib.trimRightS
  rw [hp, dropW_nil, List.all_reverse]
  constructor
  · intro h
    by_cases e : s.reverse.dropWhile isDg = []
    · rw [dropW_nil, List.all_reverse] at e; exact e
    · exfalso
      have h1 : isDg ((s.reverse.dropWhile isDg).head e) = false := by
        have := List.head_dropWhile_not isDg e
        simpa using this
      rw [List.all_eq_true] at h
      have := h _ (List.head_mem e)
      rw [h1] at this
      cases this
  · intro h
    have e : s.reverse.dropWhile isDg = [] := by rw [dropW_nil, List.all_reverse]; exact h
    rw [e]; rfl
end Va
/- Plain laws of reading four digits at a time from the end. -/
set_option linter.unusedVariables false
set_option linter.unusedSimpArgs false
open Go
namespace Va
/-- What is read so far, from the end: k characters are left. -/
structure GetI (s : List UInt8) (k w d : Nat) (l : List Nat) : Prop where
  lt : AllLt 10000 l
  dg : (s.drop k).all isDg = true
  z : k = 0 → val 10000 l = num s
  p : 0 < k → ∃ q e, s.length - k = 4 * q + e ∧ e < 4 ∧ l.length = q ∧ w = 10 ^ e ∧ d < 10 ^ e ∧ num (s.drop k) = val 10000 l + d * 10000 ^ q
theorem GetI.start {s : List UInt8} (h0 : 0 < s.length) : GetI s s.length 1 0 [] := by
  have hd : s.drop s.length = [] := List.drop_eq_nil_of_le (Nat.le_refl _)
  refine ⟨(fun _ h => by cases h), by rw [hd]; rfl, (fun h => by omega), fun _ => ⟨0, 0, by omega, by omega, rfl, rfl, by decide, by rw [hd]; rfl⟩⟩
theorem drop_at {s : List UInt8} {i : Nat} (hi : i < s.length) : s.drop i = s.getD i 0 :: s.drop (i + 1) := by
  rw [List.drop_eq_getElem_cons hi]
  simp [List.getD_eq_getElem?_getD, List.getElem?_eq_getElem hi]
theorem val_snoc (l : List Nat) (d : Nat) : val 10000 (l ++ [d]) = val 10000 l + 10000 ^ l.length * d := by
  rw [val_append]
  have e : val 10000 [d] = d := by rw [val, val, Nat.mul_zero, Nat.add_zero]
  rw [e]
theorem GetI.step {s : List UInt8} {i w d : Nat} {l : List Nat} (H : GetI s (i + 1) w d l) (hi : i < s.length) (hc : isDg (s.getD i 0) = true) :
    w ≤ 1000 ∧ d + ((s.getD i 0).toNat - 48) * w < w * 10 ∧ (w * 10 ≠ 10000 → i ≠ 0 → GetI s i (w * 10) (d + ((s.getD i 0).toNat - 48) * w) l) ∧ (w * 10 = 10000 ∨ i = 0 → GetI s i 1 0 (l ++ [d + ((s.getD i 0).toNat - 48) * w])) := by
  obtain ⟨q, e, a1, a2, a3, a4, a5, a6⟩ := H.p (by omega)
  have hD : 48 ≤ (s.getD i 0).toNat ∧ (s.getD i 0).toNat ≤ 57 := by simpa [isDg] using hc
  obtain ⟨D, hDe⟩ : ∃ D, D = (s.getD i 0).toNat - 48 := ⟨_, rfl⟩
  have hD9 : D ≤ 9 := by omega
  rw [← hDe]
  have hw : w ≤ 1000 := by
    rw [a4]
    exact Nat.le_trans (Nat.pow_le_pow_right (by decide) (show e ≤ 3 by omega)) (by decide)
  have hDw : D * w ≤ 9 * w := Nat.mul_le_mul_right _ hD9
  have hlt : d + D * w < w * 10 := by rw [← a4] at a5; omega
  have hdg : (s.drop i).all isDg = true := by rw [drop_at hi, List.all_cons, hc, H.dg]; rfl
  have hlen : (s.drop (i + 1)).length = 4 * q + e := by rw [List.length_drop]; exact a1
  have hnum : num (s.drop i) = val 10000 l + (d + D * w) * 10000 ^ q := by
    have e10 : (10 : Nat) ^ (4 * q + e) = 10000 ^ q * 10 ^ e := by rw [Nat.pow_add, Nat.pow_mul]
    rw [drop_at hi, num_cons, ← hDe, hlen, e10, a6, ← a4, Nat.add_mul, Nat.mul_assoc, Nat.mul_comm (10000 ^ q) w]
    omega
  refine ⟨hw, hlt, fun h1 h2 => ⟨H.lt, hdg, fun h => absurd h h2, fun _ => ?_⟩, fun h => ?_⟩
  · have e3 : e ≠ 3 := fun h => h1 (by rw [a4, h])
    exact ⟨q, e + 1, by omega, by omega, a3, by rw [a4, Nat.pow_succ], by rw [Nat.pow_succ, ← a4]; exact hlt, hnum⟩
  · have hll : AllLt 10000 (l ++ [d + D * w]) := by
      intro x hx
      rcases List.mem_append.1 hx with hx | hx
      · exact H.lt x hx
      · rw [List.mem_singleton] at hx; omega
    have hv : num (s.drop i) = val 10000 (l ++ [d + D * w]) := by rw [hnum, val_snoc, a3, Nat.mul_comm]
    refine ⟨hll, hdg, fun h0 => ?_, fun h0 => ?_⟩
    · rw [← hv, h0]; rfl
    · have e3 : e = 3 := by
        rcases h with h | h
        · rw [a4] at h
          have : e = 0 ∨ e = 1 ∨ e = 2 ∨ e = 3 := by omega
          rcases this with rfl | rfl | rfl | rfl
          · simp at h
          · simp at h
          · simp at h
          · rfl
        · omega
      exact ⟨q + 1, 0, by omega, by omega, by rw [List.length_append, a3]; rfl, rfl, by decide, by rw [hv, Nat.zero_mul, Nat.add_zero]⟩
theorem GetI.bad {s : List UInt8} {i : Nat} (hi : i < s.length) (hc : isDg (s.getD i 0) = false) : s.all isDg = false := by
  rw [← List.take_append_drop i s, List.all_append, drop_at hi, List.all_cons, hc]
  simp
end Va
/- Plain laws of fractions: signs, lowest terms, sizes, texts. -/
set_option linter.unusedVariables false
set_option linter.unusedSimpArgs false
open Go
namespace Va
/-- A number with a sign. -/
def sgn (b : Bool) (n : Nat) : Int := if b = true then -(n : Int) else (n : Int)
theorem sgn_abs (b : Bool) (n : Nat) : (sgn b n).natAbs = n := by cases b <;> simp [sgn]
theorem sgn_neg (b : Bool) (n : Nat) : decide (sgn b n < 0) = (b && decide (n ≠ 0)) := by
  cases b
  · simp [sgn]
  · simp only [sgn, if_true, Bool.true_and, decide_eq_decide]; omega
theorem sgn_num (z : Int) : sgn (decide (z < 0)) z.natAbs = z := by
  by_cases h : z < 0 <;> simp [sgn, h] <;> omega
theorem sgn_mul (p q : Bool) (a b : Nat) : sgn (p != q) (a * b) = sgn p a * sgn q b := by
  cases p <;> cases q <;> simp [sgn, Int.neg_mul, Int.mul_neg]
theorem sgn_mulN (p : Bool) (a b : Nat) : sgn p (a * b) = sgn p a * (b : Int) := by
  cases p <;> simp [sgn, Int.neg_mul]
theorem sgn_zero (p : Bool) : sgn p 0 = 0 := by cases p <;> rfl
theorem sgn_not (p : Bool) (a : Nat) : sgn (!p) a = -sgn p a := by cases p <;> simp [sgn]
theorem sgn_eq_zero {p : Bool} {a : Nat} : sgn p a = 0 ↔ a = 0 := by cases p <;> simp [sgn]
/-- Sums of numbers with signs. -/
def sadd (p : Bool) (a : Nat) (q : Bool) (b : Nat) : Bool × Nat := if p = q then (p, a + b) else if b ≤ a then (p, a - b) else (q, b - a)
theorem sadd_sgn (p : Bool) (a : Nat) (q : Bool) (b : Nat) : sgn (sadd p a q b).1 (sadd p a q b).2 = sgn p a + sgn q b := by
  unfold sadd
  split
  · next h => subst h; cases p <;> simp [sgn] <;> omega
  · split
    · cases p <;> cases q <;> simp_all [sgn] <;> omega
    · cases p <;> cases q <;> simp_all [sgn] <;> omega
theorem sadd_le (p : Bool) (a : Nat) (q : Bool) (b : Nat) : (sadd p a q b).2 ≤ a + b := by
  unfold sadd
  split
  · exact Nat.le_refl _
  · split <;> simp <;> omega
/-! ### Lowest terms -/
theorem mk_num (b : Bool) (n : Nat) {d : Nat} (hd : d ≠ 0) : (mkRat (sgn b n) d).num = sgn b (n / Nat.gcd n d) := by
  rw [Rat.num_mkRat, if_neg hd, sgn_abs, Nat.gcd_comm]
  obtain ⟨k, hk⟩ := Nat.gcd_dvd_left n d
  have hg : 0 < Nat.gcd n d := Nat.gcd_pos_of_pos_right _ (Nat.pos_of_ne_zero hd)
  generalize Nat.gcd n d = g at *
  subst hk
  rw [Nat.mul_div_cancel_left _ hg]
  have hg' : (g : Int) ≠ 0 := by omega
  cases b
  · simp only [sgn, Bool.false_eq_true, if_false, Int.natCast_mul]
    exact Int.mul_ediv_cancel_left _ hg'
  · simp only [sgn, if_true, Int.natCast_mul]
    rw [← Int.mul_neg]
    exact Int.mul_ediv_cancel_left _ hg'
theorem mk_den (b : Bool) (n : Nat) {d : Nat} (hd : d ≠ 0) : (mkRat (sgn b n) d).den = d / Nat.gcd n d := by
  rw [Rat.den_mkRat, if_neg hd, sgn_abs, Nat.gcd_comm]
theorem mk_abs (b : Bool) (n : Nat) {d : Nat} (hd : d ≠ 0) : (mkRat (sgn b n) d).num.natAbs = n / Nat.gcd n d := by rw [mk_num b n hd, sgn_abs]
theorem mk_self (q : Rat) : mkRat (sgn (decide (q.num < 0)) q.num.natAbs) q.den = q := by rw [sgn_num, Rat.mkRat_self]
theorem rat_gcd (q : Rat) : Nat.gcd q.num.natAbs q.den = 1 := q.reduced
theorem mk_neg (b : Bool) (n : Nat) {d : Nat} (hd : d ≠ 0) : decide ((mkRat (sgn b n) d).num < 0) = (b && decide (n ≠ 0)) := by
  rw [mk_num b n hd, sgn_neg]
  have hg : 0 < Nat.gcd n d := Nat.gcd_pos_of_pos_right _ (Nat.pos_of_ne_zero hd)
  congr 1
  rw [decide_eq_decide]
  constructor
  · intro h e
    subst e
    simp at h
  · intro h e
    have := Nat.div_eq_zero_iff_lt hg |>.1 e
    have := Nat.le_of_dvd (Nat.pos_of_ne_zero h) (Nat.gcd_dvd_left n d)
    omega
theorem mk_low {b : Bool} {n d : Nat} (hd : d ≠ 0) (h : Nat.gcd n d = 1) : (mkRat (sgn b n) d).num = sgn b n ∧ (mkRat (sgn b n) d).den = d := by
  rw [mk_num b n hd, mk_den b n hd, h, Nat.div_one, Nat.div_one]
  exact ⟨rfl, rfl⟩
/-! ### What the operations are -/
theorem rat_add_same (a b : Rat) (h : a.den = b.den) : a + b = mkRat (a.num + b.num) b.den := by
  rw [Rat.add_def', h, ← Int.add_mul]
  exact Rat.mkRat_mul_right b.den_nz
theorem rat_div (a b : Rat) (hb : b ≠ 0) : a / b = mkRat (sgn (decide (a.num < 0) != decide (b.num < 0)) (a.num.natAbs * b.den)) (a.den * b.num.natAbs) := by
  have h0 : b.num ≠ 0 := fun e => hb (Rat.num_eq_zero.1 e)
  rw [Rat.div_def, Rat.mul_def', Rat.num_inv, Rat.den_inv, if_neg h0, sgn_mul, sgn_num]
  have e : (sgn (decide (b.num < 0)) b.den : Int) = b.num.sign * (b.den : Int) := by
    rcases Int.lt_trichotomy b.num 0 with h | h | h
    · simp [sgn, h, Int.sign_eq_neg_one_of_neg h]
    · exact absurd h h0
    · have : ¬ b.num < 0 := by omega
      simp [sgn, this, Int.sign_eq_one_of_pos h]
  rw [e]
/-! ### Sizes -/
/-- Both parts have at most so many digits. -/
def qb (K : Nat) (q : Rat) : Prop := dl 4294967296 q.num.natAbs ≤ K ∧ dl 4294967296 q.den ≤ K
theorem qb_mono {K L : Nat} {q : Rat} (h : qb K q) (hl : K ≤ L) : qb L q := ⟨Nat.le_trans h.1 hl, Nat.le_trans h.2 hl⟩
theorem qb_mk {K : Nat} {b : Bool} {n d : Nat} (hd : d ≠ 0) (h1 : dl 4294967296 n ≤ K) (h2 : dl 4294967296 d ≤ K) : qb K (mkRat (sgn b n) d) := by
  refine ⟨?_, ?_⟩
  · rw [mk_abs b n hd]; exact Nat.le_trans (dl_mono (by decide) (Nat.div_le_self _ _)) h1
  · rw [mk_den b n hd]; exact Nat.le_trans (dl_mono (by decide) (Nat.div_le_self _ _)) h2
theorem qb_mkI {K : Nat} {z : Int} {d : Nat} (hd : d ≠ 0) (h1 : dl 4294967296 z.natAbs ≤ K) (h2 : dl 4294967296 d ≤ K) : qb K (mkRat z d) := by
  rw [← sgn_num z]; exact qb_mk hd h1 h2
theorem qb_neg {K : Nat} {q : Rat} (h : qb K q) : qb K (-q) := by
  unfold qb
  rw [Rat.neg_num, Rat.neg_den, Int.natAbs_neg]
  exact h
theorem qb_add {K L : Nat} {a b : Rat} (ha : qb K a) (hb : qb L b) : qb (K + L + 1) (a + b) := by
  rw [Rat.add_def']
  refine qb_mkI (Nat.mul_ne_zero a.den_nz b.den_nz) ?_ ?_
  · have h1 := dl_mul (B := 4294967296) (by decide) a.num.natAbs b.den
    have h2 := dl_mul (B := 4294967296) (by decide) b.num.natAbs a.den
    have h3 := dl_add (B := 4294967296) (by decide) (a.num.natAbs * b.den) (b.num.natAbs * a.den)
    have h4 : (a.num * b.den + b.num * a.den).natAbs ≤ a.num.natAbs * b.den + b.num.natAbs * a.den := by
      refine Nat.le_trans (Int.natAbs_add_le _ _) ?_
      rw [Int.natAbs_mul, Int.natAbs_mul, Int.natAbs_natCast, Int.natAbs_natCast]
      exact Nat.le_refl _
    have h5 := dl_mono (B := 4294967296) (by decide) h4
    have := ha.1; have := ha.2; have := hb.1; have := hb.2
    omega
  · have h1 := dl_mul (B := 4294967296) (by decide) a.den b.den
    have := ha.2; have := hb.2
    omega
theorem qb_sub {K L : Nat} {a b : Rat} (ha : qb K a) (hb : qb L b) : qb (K + L + 1) (a - b) := by
  rw [Rat.sub_eq_add_neg]; exact qb_add ha (qb_neg hb)
theorem qb_mul {K L : Nat} {a b : Rat} (ha : qb K a) (hb : qb L b) : qb (K + L) (a * b) := by
  rw [Rat.mul_def']
  refine qb_mkI (Nat.mul_ne_zero a.den_nz b.den_nz) ?_ ?_
  · rw [Int.natAbs_mul]
    have h1 := dl_mul (B := 4294967296) (by decide) a.num.natAbs b.num.natAbs
    have := ha.1; have := hb.1
    omega
  · have h1 := dl_mul (B := 4294967296) (by decide) a.den b.den
    have := ha.2; have := hb.2
    omega
theorem qb_div {K L : Nat} {a b : Rat} (ha : qb K a) (hb : qb L b) (h0 : b ≠ 0) : qb (K + L) (a / b) := by
  rw [rat_div a b h0]
  have hn : b.num.natAbs ≠ 0 := fun e => h0 (Rat.num_eq_zero.1 (Int.natAbs_eq_zero.1 e))
  refine qb_mk (Nat.mul_ne_zero a.den_nz hn) ?_ ?_
  · have h1 := dl_mul (B := 4294967296) (by decide) a.num.natAbs b.den
    have := ha.1; have := hb.2
    omega
  · have h1 := dl_mul (B := 4294967296) (by decide) a.den b.num.natAbs
    have := ha.2; have := hb.1
    omega
theorem qb_int {z : Int} {K : Nat} (h : dl 4294967296 z.natAbs ≤ K) (hK : 1 ≤ K) : qb K (z : Rat) := by
  refine ⟨?_, ?_⟩
  · rw [Rat.num_intCast]; exact h
  · rw [Rat.den_intCast]
    exact Nat.le_trans ((dl_le_iff (k := 1) (by decide)).2 (by decide)) hK
/-! ### Texts -/
def ratTxt (q : Rat) : List UInt8 := (if q.num < 0 then [45] else []) ++ txt q.num.natAbs ++ (if q.den = 1 then [] else 47 :: txt q.den)
theorem num_append (s t : List UInt8) : num (s ++ t) = num s * 10 ^ t.length + num t := by
  unfold num
  rw [numF_append, numF_eq]
  rfl
theorem dg_nat {u : Nat} (h : u < 10) : (UInt8.ofNat (48 + u)).toNat = 48 + u := by
  rw [UInt8.toNat_ofNat']; omega
theorem num_ptxt (n : Nat) : ∀ L, num (ptxt L n) = n % 10 ^ L
  | 0 => by rw [ptxt_zero, Nat.pow_zero, Nat.mod_one]; rfl
  | L + 1 => by
    have hm : n / 10 ^ L % 10 < 10 := Nat.mod_lt _ (by decide)
    rw [ptxt_succ, num_cons, ptxt_length, num_ptxt n L, dg_nat hm, Nat.add_sub_cancel_left, mod_pow_succ, Nat.mul_comm, Nat.add_comm]
theorem num_txt (n : Nat) : num (txt n) = n := by
  by_cases h : n = 0
  · subst h; rfl
  · rw [txt_pos h, num_ptxt, Nat.mod_eq_of_lt (lt_pow_dl (by decide) n)]
theorem txt_inj {a b : Nat} (h : txt a = txt b) : a = b := by rw [← num_txt a, h, num_txt]
theorem ptxt_dg (n : Nat) : ∀ L, (ptxt L n).all isDg = true
  | 0 => rfl
  | L + 1 => by
    have hm : n / 10 ^ L % 10 < 10 := Nat.mod_lt _ (by decide)
    rw [ptxt_succ, List.all_cons, ptxt_dg n L, Bool.and_true, isDg, dg_nat hm]
    simp
    omega
theorem txt_dg (n : Nat) : (txt n).all isDg = true := by
  by_cases h : n = 0
  · subst h; rfl
  · rw [txt_pos h]; exact ptxt_dg _ _
theorem txt_ne (n : Nat) : txt n ≠ [] := by
  by_cases h : n = 0
  · subst h; decide
  · rw [txt_pos h]
    intro e
    have := congrArg List.length e
    rw [ptxt_length] at this
    exact h ((dl_eq_zero (by decide)).1 this)
/-- A number's own text is read as that number. -/
theorem okN_txt {n : Nat} (h : (txt n).length ≤ 2000) : okN (txt n) = true := by
  have h1 := txt_dg n
  have h2 := txt_ne n
  have h3 : (decide (1 < (txt n).length) && decide ((txt n).head? = some 48)) = false := by
    by_cases h0 : n = 0
    · subst h0; rfl
    · obtain ⟨L, hL⟩ : ∃ L, dl 10 n = L + 1 := ⟨dl 10 n - 1, by
        have : dl 10 n ≠ 0 := fun e => h0 ((dl_eq_zero (by decide)).1 e)
        omega⟩
      have hp := dl_pow_le (B := 10) (n := n) (by decide) (by omega)
      have hp2 := lt_pow_dl (B := 10) (by decide) n
      rw [hL, Nat.add_sub_cancel] at hp
      rw [hL, Nat.pow_succ] at hp2
      have hq : n / 10 ^ L < 10 := Nat.div_lt_of_lt_mul hp2
      have hq0 : 0 < n / 10 ^ L := Nat.div_pos hp (Nat.pow_pos (by decide))
      have hm : n / 10 ^ L % 10 = n / 10 ^ L := Nat.mod_eq_of_lt hq
      rw [txt_pos h0, hL, ptxt_succ, hm, List.head?_cons]
      have : ¬ (UInt8.ofNat (48 + n / 10 ^ L) = 48) := fun e => by
        have := congrArg UInt8.toNat e
        rw [dg_nat hq] at this
        have e48 : (48 : UInt8).toNat = 48 := rfl
        omega
      have h5 : (some (UInt8.ofNat (48 + n / 10 ^ L)) = some 48) = False := by
        rw [eq_iff_iff, iff_false]
        exact fun e => this (Option.some.inj e)
      simp only [h5, decide_false, Bool.and_false]
  unfold okN
  rw [h3, h1]
  simp [h, h2]
theorem rat_eq_of {p q : Rat} (h1 : p.num = q.num) (h2 : p.den = q.den) : p = q := Rat.ext h1 h2
end Va
