/- Joined texts. -/
import Derived.Test.YtdhhdjnhjlomkaaGreatDoorFE
/- The lowest bit of a word that is set. Plain. -/
namespace Va
/-- How many noughts there are at the low end, of so many bits. -/
def ctz : Nat → Nat → Nat
  | 0, _ => 0
  | f + 1, x => if x % 2 = 0 then ctz f (x / 2) + 1 else 0
theorem ctz_le : ∀ (f x : Nat), ctz f x ≤ f
  | 0, _ => Nat.le_refl _
  | f + 1, x => by
    rw [ctz]
    split
    · have := ctz_le f (x / 2); omega
    · omega
theorem ctz_zero : ∀ f, ctz f 0 = f
  | 0 => rfl
  | f + 1 => by simp [ctz, ctz_zero f]
theorem ctz_spec : ∀ (f x : Nat), 0 < x → x < 2 ^ f → ∃ m, x = 2 ^ ctz f x * (2 * m + 1) ∧ ctz f x < f
  | 0, x, h, k => by simp at k; omega
  | f + 1, x, h, k => by
    rw [ctz]
    split
    · next he =>
      obtain ⟨m, h1, h2⟩ := ctz_spec f (x / 2) (by omega) (by rw [Nat.pow_succ] at k; omega)
      refine ⟨m, ?_, by omega⟩
      rw [Nat.pow_succ, Nat.mul_right_comm, ← h1]
      omega
    · exact ⟨x / 2, by simp; omega, by omega⟩
theorem lowbit {x k m : Nat} (hx : x = 2 ^ k * (2 * m + 1)) (hlt : x < 18446744073709551616) : x &&& (18446744073709551616 - x) = 2 ^ k := by
  have hp : 0 < 2 ^ k := Nat.pow_pos (by decide)
  have hpos : 0 < x := by rw [hx]; exact Nat.mul_pos hp (by omega)
  have e1 : 18446744073709551616 - x = 2 ^ 64 - ((x - 1) + 1) := by rw [show (2 : Nat) ^ 64 = 18446744073709551616 by rfl]; omega
  have e2 : x - 1 = 2 ^ k * (2 * m) + (2 ^ k - 1) := by
    rw [hx, Nat.mul_add, Nat.mul_one]; omega
  apply Nat.eq_of_testBit_eq
  intro i
  rw [Nat.testBit_and, e1, Nat.testBit_two_pow_sub_succ (by rw [show (2 : Nat) ^ 64 = 18446744073709551616 by rfl]; omega), Nat.testBit_two_pow, e2, Nat.testBit_two_pow_mul_add _ (by omega)]
  have e3 : x.testBit i = (decide (i ≥ k) && (2 * m + 1).testBit (i - k)) := by rw [hx, Nat.testBit_two_pow_mul]
  rw [e3]
  rcases Nat.lt_trichotomy i k with h | h | h
  · simp [show ¬ k ≤ i by omega, show ¬ k = i by omega]
  · subst h
    have hk : i < 64 := by
      rcases Nat.lt_or_ge i 64 with h | h
      · exact h
      · have h1 : 2 ^ 64 ≤ 2 ^ i := Nat.pow_le_pow_right (by decide) h
        have h2 : 2 ^ i * 1 ≤ 2 ^ i * (2 * m + 1) := Nat.mul_le_mul_left _ (by omega)
        rw [← hx] at h2
        rw [show (2 : Nat) ^ 64 = 18446744073709551616 by rfl] at h1
        omega
    simp [hk, Nat.testBit_zero]
  · obtain ⟨j, rfl⟩ : ∃ j, i = k + 1 + j := ⟨i - k - 1, by omega⟩
    have e4 : k + 1 + j - k = j + 1 := by omega
    have e5 : (2 * m + 1).testBit (j + 1) = m.testBit j := by rw [Nat.testBit_succ, show (2 * m + 1) / 2 = m by omega]
    have e6 : (2 * m).testBit (j + 1) = m.testBit j := by rw [Nat.testBit_succ, show (2 * m) / 2 = m by omega]
    simp only [e4, e5, e6, show ¬ k + 1 + j < k by omega, if_false, show ¬ k = k + 1 + j by omega, decide_false]
    cases m.testBit j <;> simp
theorem dl_two_pow (k : Nat) : dl 2 (2 ^ k) = k + 1 := by
  have h1 : dl 2 (2 ^ k) ≤ k + 1 := (dl_le_iff (by decide)).2 (Nat.pow_lt_pow_right (by decide) (by omega))
  have h2 : ¬ dl 2 (2 ^ k) ≤ k := fun h => by
    have := (dl_le_iff (by decide)).1 h
    omega
  omega
theorem updown {x k : Nat} (hk : k ≤ 64) : x * 2 ^ k % 18446744073709551616 / 2 ^ k = x % 2 ^ (64 - k) := by
  have e : 18446744073709551616 = 2 ^ (64 - k) * 2 ^ k := by rw [← Nat.pow_add, show 64 - k + k = 64 by omega]
  rw [e, Nat.mul_mod_mul_right, Nat.mul_div_cancel _ (Nat.pow_pos (by decide))]
theorem lowmask (x k : Nat) (hk : k ≤ 64) : ((x % 18446744073709551616) &&& ((2 ^ k - 1) % 18446744073709551616)) % 18446744073709551616 = x % 2 ^ k := by
  have h1 : 2 ^ k ≤ 2 ^ 64 := Nat.pow_le_pow_right (by decide) hk
  have h0 : 0 < 2 ^ k := Nat.pow_pos (by decide)
  rw [show (2 : Nat) ^ 64 = 18446744073709551616 by rfl] at h1
  have hdv : 2 ^ k ∣ 18446744073709551616 := by
    rw [show 18446744073709551616 = 2 ^ 64 by rfl]; exact Nat.pow_dvd_pow 2 hk
  rw [Nat.mod_eq_of_lt (a := 2 ^ k - 1) (by omega), Nat.and_two_pow_sub_one_eq_mod, Nat.mod_mod_of_dvd _ hdv]
  have := Nat.mod_lt x h0
  exact Nat.mod_eq_of_lt (by omega)
theorem two_facts {x : Nat} (h0 : 0 < x) (hx : x < 18446744073709551616) : x / 2 ^ ctz 64 x * 2 ^ ctz 64 x % 18446744073709551616 = x ∧ ((x / 2 ^ ctz 64 x % 18446744073709551616) &&& 1) % 18446744073709551616 = 1 ∧ x / 2 ^ dl 2 x = 0 ∧ x / 2 ^ (dl 2 x - 1) = 1 := by
  obtain ⟨m, h1, h2⟩ := ctz_spec 64 x h0 (by simpa using hx)
  have hp : 0 < 2 ^ ctz 64 x := Nat.pow_pos (by decide)
  have e : x / 2 ^ ctz 64 x = 2 * m + 1 := Nat.div_eq_of_eq_mul_right hp h1
  have hd := lt_pow_dl (B := 2) (by decide) x
  have hd2 := dl_pow_le (B := 2) (by decide) h0
  have hd0 : 0 < dl 2 x := by rw [dl_pos (by decide) h0]; omega
  refine ⟨?_, ?_, Nat.div_eq_of_lt hd, ?_⟩
  · rw [e, Nat.mul_comm, ← h1]; exact Nat.mod_eq_of_lt hx
  · rw [e]
    have := Nat.and_two_pow_sub_one_eq_mod ((2 * m + 1) % 18446744073709551616) 1
    simp only [Nat.reducePow, Nat.reduceSub] at this
    rw [this]; omega
  · refine Nat.div_eq_of_lt_le (by omega) ?_
    have : 2 ^ (dl 2 x - 1) * 2 = 2 ^ dl 2 x := by rw [← Nat.pow_succ]; congr 1; omega
    omega
end Va
/- Plain laws of sums and differences of digits in place. -/
set_option linter.unusedVariables false
set_option linter.unusedSimpArgs false
namespace Va
theorem getD_set_eq {l : List Nat} {i : Nat} (h : i < l.length) (x d : Nat) : (l.set i x).getD i d = x := by
  simp [List.getD_eq_getElem?_getD, List.getElem?_set, h]
theorem getD_set_ne {l : List Nat} {i j : Nat} (h : i ≠ j) (x d : Nat) : (l.set i x).getD j d = l.getD j d := by
  simp [List.getD_eq_getElem?_getD, List.getElem?_set, h]
theorem set_self {l : List Nat} {i : Nat} (h : i < l.length) : l.set i (l.getD i 0) = l := by
  apply List.ext_getElem?
  intro j
  rw [List.getElem?_set]
  by_cases e : i = j
  · subst e; simp [h, List.getD_eq_getElem?_getD]
  · simp [e]
/-- The head of a round of a sum in place. -/
structure AddI (B a b n i : Nat) (l : List Nat) : Prop where
  len : l.length = n
  lt : AllLt B l
  v : val B l = a % B ^ i + b % B ^ i
theorem AddI.low {B a b n i : Nat} {l : List Nat} (hB : 1 < B) (H : AddI B a b n i l) : l.getD i 0 ≤ 1 ∧ l.getD (i + 1) 0 = 0 := by
  have hp : 0 < B ^ i := Nat.pow_pos (by omega)
  have h1 := Nat.mod_lt a hp
  have h2 := Nat.mod_lt b hp
  have hv := H.v
  have h3 : val B l / B ^ i ≤ 1 := by
    have : val B l / B ^ i < 2 := Nat.div_lt_of_lt_mul (by omega)
    omega
  refine ⟨?_, ?_⟩
  · rw [getD_val (by omega) H.lt]
    exact Nat.le_trans (Nat.mod_le _ _) h3
  · rw [getD_val (by omega) H.lt, Nat.pow_succ, ← Nat.div_div_eq_div_mul, Nat.div_eq_of_lt (a := val B l / B ^ i) (by omega)]
    simp
theorem AddI.step {B a b n i : Nat} {l : List Nat} (hB : 1 < B) (H : AddI B a b n i l) (hi : i < n) {s : Nat} (hs : s = l.getD i 0 + a / B ^ i % B + b / B ^ i % B) (hlt : s < B) : AddI B a b n (i + 1) (l.set i s) := by
  have hl : i < l.length := by rw [H.len]; exact hi
  refine ⟨by rw [List.length_set]; exact H.len, H.lt.set hlt i, ?_⟩
  have h1 := val_set (B := B) hl s
  have hv := H.v
  rw [mod_pow_succ, mod_pow_succ]
  rw [hs] at h1 ⊢
  grind
theorem AddI.carry {B a b n i : Nat} {l : List Nat} (hB : 1 < B) (H : AddI B a b n i l) (hn : dl B a < n ∧ dl B b < n) (hi : i < n) {s : Nat} (hs : s = l.getD i 0 + a / B ^ i % B + b / B ^ i % B) (hge : B ≤ s) :
    i + 1 < n ∧ s - B < B ∧ AddI B a b n (i + 1) ((l.set i (s - B)).set (i + 1) (l.getD (i + 1) 0 + 1)) := by
  have hl : i < l.length := by rw [H.len]; exact hi
  have hlow := H.low hB
  have ma := Nat.mod_lt (a / B ^ i) (show 0 < B by omega)
  have mb := Nat.mod_lt (b / B ^ i) (show 0 < B by omega)
  have hi1 : i + 1 < n := by
    rcases Nat.lt_or_ge (i + 1) n with h | h
    · exact h
    · have h1 : a / B ^ i = 0 := dig_high hB (by omega)
      have h2 : b / B ^ i = 0 := dig_high hB (by omega)
      rw [h1, h2, Nat.zero_mod] at hs
      omega
  have hsb : s - B < B := by omega
  refine ⟨hi1, hsb, by rw [List.length_set, List.length_set]; exact H.len, (H.lt.set hsb i).set (by omega) (i + 1), ?_⟩
  have h1 := val_set (B := B) hl (s - B)
  have h2 := val_set (B := B) (l := l.set i (s - B)) (i := i + 1) (by rw [List.length_set, H.len]; exact hi1) (l.getD (i + 1) 0 + 1)
  rw [getD_set_ne (by omega), hlow.2] at h2
  rw [hlow.2]
  have hv := H.v
  rw [mod_pow_succ, mod_pow_succ]
  rw [Nat.pow_succ] at h2
  obtain ⟨t, rfl⟩ : ∃ t, s = B + t := ⟨s - B, by omega⟩
  simp only [Nat.add_sub_cancel_left] at h1 h2 ⊢
  grind
/-- The head of a round of a difference in place: c is what is still to be taken. -/
structure SubI (B a b n i c : Nat) (l : List Nat) : Prop where
  len : l.length = n
  lt : AllLt B l
  c1 : c ≤ 1
  v : val B l + b % B ^ i = a + c * B ^ i
theorem SubI.stay {B a b n i c : Nat} {l : List Nat} (hB : 1 < B) (H : SubI B a b n i c l) (hi : i < n) {s : Nat} (hs : s + c + b / B ^ i % B = l.getD i 0) : s < B ∧ SubI B a b n (i + 1) 0 (l.set i s) := by
  have hl : i < l.length := by rw [H.len]; exact hi
  have hd := H.lt.getD (by omega) i
  refine ⟨by omega, by rw [List.length_set]; exact H.len, H.lt.set (by omega) i, by omega, ?_⟩
  have h1 := val_set (B := B) hl s
  have hv := H.v
  rw [mod_pow_succ]
  rw [← hs] at h1
  generalize val B (l.set i s) = v1 at *
  generalize val B l = v0 at *
  generalize b / B ^ i % B = d at *
  grind
theorem SubI.take {B a b n i c : Nat} {l : List Nat} (hB : 1 < B) (H : SubI B a b n i c l) (hi : i < n) (hn : dl B a ≤ n) (hba : b ≤ a) {s : Nat} (hs : s + c + b / B ^ i % B = l.getD i 0 + B) (hlt : s < B) : i + 1 < n ∧ SubI B a b n (i + 1) 1 (l.set i s) := by
  have hl : i < l.length := by rw [H.len]; exact hi
  have hS : SubI B a b n (i + 1) 1 (l.set i s) := by
    refine ⟨by rw [List.length_set]; exact H.len, H.lt.set hlt i, by omega, ?_⟩
    have h1 := val_set (B := B) hl s
    have hv := H.v
    rw [mod_pow_succ, Nat.pow_succ]
    generalize val B (l.set i s) = v1 at *
    generalize val B l = v0 at *
    generalize b / B ^ i % B = d at *
    generalize l.getD i 0 = z at *
    grind
  refine ⟨?_, hS⟩
  rcases Nat.lt_or_ge (i + 1) n with h | h
  · exact h
  · have hv := hS.v
    have e : i + 1 = n := by omega
    have hlt := val_lt hS.lt
    rw [hS.len] at hlt
    rw [e, Nat.mod_eq_of_lt ((dl_le_iff hB).1 (Nat.le_trans (dl_mono hB hba) hn))] at hv
    omega
theorem SubI.fin {B a b n c : Nat} {l : List Nat} (hB : 1 < B) (H : SubI B a b n n c l) (hn : dl B a ≤ n) (hba : b ≤ a) : val B l = a - b := by
  have hv := H.v
  have hlt := val_lt H.lt
  rw [H.len] at hlt
  rw [Nat.mod_eq_of_lt ((dl_le_iff hB).1 (Nat.le_trans (dl_mono hB hba) hn))] at hv
  have : c = 0 := by
    have := H.c1
    rcases Nat.eq_zero_or_pos c with h | h
    · exact h
    · have : c = 1 := by omega
      subst this
      omega
  subst this
  omega
end Va
/- Plain laws of products of digits in place. -/
set_option linter.unusedVariables false
set_option linter.unusedSimpArgs false
namespace Va
/-- The head of an inner round of a product in place. -/
structure MulI (B a b lb n i k : Nat) (l : List Nat) : Prop where
  len : l.length = n
  v : val B l = (a % B ^ i) * b + (a / B ^ i % B) * B ^ i * (b % B ^ k)
  h1 : ∀ j, j < i + lb → j ≠ i + k → j + 1 ≠ i + lb → l.getD j 0 < B
  h2 : l.getD (i + k) 0 ≤ 4 * B
  h3 : k + 1 < lb → l.getD (i + lb - 1) 0 ≤ 2 * B
  h4 : ∀ j, i + lb < j ∨ (j = i + lb ∧ k < lb) → l.getD j 0 = 0
  h5 : k = lb → l.getD (i + lb) 0 ≤ 2 * B ∧ (0 < lb → l.getD (i + lb - 1) 0 < B)
  h6 : lb = 0 → ∀ j, l.getD j 0 = 0
theorem MulI.start {B a b lb n : Nat} (hB : 1 < B) : MulI B a b lb n 0 0 (List.replicate n 0) := by
  have g : ∀ j, (List.replicate n 0).getD j 0 = 0 := fun j => by
    rw [List.getD_eq_getElem?_getD, List.getElem?_replicate]; split <;> rfl
  refine ⟨by simp, by rw [val_rep0]; simp [Nat.mod_one], fun j _ _ _ => by rw [g]; omega, by rw [g]; omega, fun _ => by rw [g]; omega, fun j _ => g j, fun _ => ⟨by rw [g]; omega, fun _ => by rw [g]; omega⟩, fun _ => g⟩
theorem MulI.step {B a b lb n i k : Nat} {l : List Nat} (hB : 4 < B) (H : MulI B a b lb n i k l) (hk : k < lb) (hn : i + lb < n) {x : Nat} (hx : x = l.getD (i + k) 0 + (a / B ^ i % B) * (b / B ^ k % B)) :
    x ≤ B * B + 4 * B ∧ x / B ≤ 2 * B ∧ l.getD (i + k + 1) 0 ≤ 2 * B ∧ MulI B a b lb n i (k + 1) ((l.set (i + k) (x % B)).set (i + k + 1) (l.getD (i + k + 1) 0 + x / B)) := by
  have ma := Nat.mod_lt (a / B ^ i) (show 0 < B by omega)
  have mb := Nat.mod_lt (b / B ^ k) (show 0 < B by omega)
  have hp : (a / B ^ i % B) * (b / B ^ k % B) ≤ (B - 1) * (B - 1) := Nat.mul_le_mul (by omega) (by omega)
  have hBB : (B - 1) * (B - 1) + 2 * B = B * B + 1 := by
    obtain ⟨c, rfl⟩ : ∃ c, B = c + 1 := ⟨B - 1, by omega⟩
    simp only [Nat.add_sub_cancel]
    grind
  have h2 := H.h2
  have hx1 : x ≤ B * B + 2 * B + 1 := by omega
  have hc : x / B ≤ B + 2 := by
    have : x / B < B + 3 := Nat.div_lt_of_lt_mul (by
      have : B * (B + 3) = B * B + B * 3 := Nat.mul_add _ _ _
      omega)
    omega
  have hxm := Nat.mod_lt x (show 0 < B by omega)
  have hl1 : i + k < l.length := by rw [H.len]; omega
  have hl2 : i + k + 1 < (l.set (i + k) (x % B)).length := by rw [List.length_set, H.len]; omega
  have hnext : l.getD (i + k + 1) 0 ≤ 2 * B ∧ (k + 1 = lb → l.getD (i + k + 1) 0 = 0) := by
    by_cases e1 : k + 1 = lb
    · have := H.h4 (i + k + 1) (.inr ⟨by omega, hk⟩)
      exact ⟨by omega, fun _ => this⟩
    · refine ⟨?_, fun h => absurd h e1⟩
      by_cases e2 : k + 2 = lb
      · have := H.h3 (by omega)
        rw [show i + lb - 1 = i + k + 1 by omega] at this
        exact this
      · have := H.h1 (i + k + 1) (by omega) (by omega) (by omega)
        omega
  have g1 : ((l.set (i + k) (x % B)).set (i + k + 1) (l.getD (i + k + 1) 0 + x / B)).getD (i + k + 1) 0 = l.getD (i + k + 1) 0 + x / B := getD_set_eq hl2 _ _
  have g2 : ((l.set (i + k) (x % B)).set (i + k + 1) (l.getD (i + k + 1) 0 + x / B)).getD (i + k) 0 = x % B := by rw [getD_set_ne (by omega), getD_set_eq hl1]
  have g3 : ∀ j, j ≠ i + k → j ≠ i + k + 1 → ((l.set (i + k) (x % B)).set (i + k + 1) (l.getD (i + k + 1) 0 + x / B)).getD j 0 = l.getD j 0 := fun j e1 e2 => by rw [getD_set_ne (Ne.symm e2), getD_set_ne (Ne.symm e1)]
  refine ⟨by omega, by omega, hnext.1, by rw [List.length_set, List.length_set]; exact H.len, ?_, ?_, ?_, ?_, ?_, ?_, fun h => by omega⟩
  · have e1 := val_set (B := B) hl1 (x % B)
    have e2 := val_set (B := B) hl2 (l.getD (i + k + 1) 0 + x / B)
    rw [getD_set_ne (by omega)] at e2
    have hv := H.v
    have e3 := Nat.div_add_mod x B
    rw [mod_pow_succ]
    rw [Nat.pow_succ] at e2
    have e4 : B ^ (i + k) = B ^ i * B ^ k := Nat.pow_add _ _ _
    rw [e4] at e1 e2
    generalize val B ((l.set (i + k) (x % B)).set (i + k + 1) (l.getD (i + k + 1) 0 + x / B)) = v2 at *
    generalize val B (l.set (i + k) (x % B)) = v1 at *
    generalize val B l = v0 at *
    generalize l.getD (i + k + 1) 0 = y at *
    generalize l.getD (i + k) 0 = z at *
    generalize x / B = q at *
    generalize x % B = r at *
    grind
  · intro j j1 j2 j3
    by_cases e : j = i + k
    · rw [e, g2]; exact hxm
    · rw [g3 j e (by omega)]
      exact H.h1 j j1 e j3
  · rw [show i + (k + 1) = i + k + 1 by omega, g1]; omega
  · intro h
    rw [g3 _ (by omega) (by omega)]
    exact H.h3 (by omega)
  · intro j hj
    by_cases e : j = i + k + 1
    · omega
    · rw [g3 j (by omega) e]
      exact H.h4 j (by omega)
  · intro h
    refine ⟨?_, fun _ => ?_⟩
    · rw [show i + lb = i + k + 1 by omega, g1]
      have := hnext.2 h
      omega
    · rw [show i + lb - 1 = i + k by omega, g2]; exact hxm
theorem MulI.next {B a b lb n i : Nat} {l : List Nat} (hB : 4 < B) (H : MulI B a b lb n i lb l) (hb : dl B b = lb) : MulI B a b lb n (i + 1) 0 l := by
  have hbm : b % B ^ lb = b := Nat.mod_eq_of_lt ((dl_le_iff (by omega)).1 (by omega))
  have h5 := H.h5 rfl
  have hlt : ∀ j, j < i + lb → l.getD j 0 < B := fun j hj => by
    by_cases e : j + 1 = i + lb
    · have := h5.2
      by_cases e0 : 0 < lb
      · have := this e0
        rwa [show i + lb - 1 = j by omega] at this
      · rw [H.h6 (by omega)]; omega
    · exact H.h1 j hj (by omega) e
  refine ⟨H.len, ?_, ?_, ?_, ?_, ?_, ?_, H.h6⟩
  · have hv := H.v
    rw [hbm] at hv
    rw [hv, mod_pow_succ, Nat.pow_zero, Nat.mod_one, Nat.mul_zero, Nat.add_zero, Nat.add_mul, Nat.mul_comm (B ^ i)]
  · intro j j1 j2 j3
    exact hlt j (by omega)
  · by_cases e : lb = 0
    · rw [H.h4 _ (by omega)]; omega
    · by_cases e2 : lb = 1
      · rw [show i + 1 + 0 = i + lb by omega]; omega
      · have := hlt (i + 1 + 0) (by omega); omega
  · intro h
    rw [show i + 1 + lb - 1 = i + lb by omega]
    exact h5.1
  · intro j hj
    exact H.h4 j (by omega)
  · intro h
    refine ⟨?_, fun h' => by omega⟩
    rw [H.h4 _ (by omega)]; omega
/-- The head of a round of the last carries. -/
structure CarI (B v n i : Nat) (l : List Nat) : Prop where
  len : l.length = n
  v : val B l = v
  lo : ∀ j, j < i → l.getD j 0 < B
  h : l.getD i 0 ≤ 6 * B
  up : ∀ j, i < j → l.getD j 0 ≤ 4 * B
theorem MulI.done {B a b lb n i : Nat} {l : List Nat} (hB : 4 < B) (H : MulI B a b lb n i 0 l) (ha : a < B ^ i) : CarI B (a * b) n 0 l := by
  have hv := H.v
  rw [Nat.mod_eq_of_lt ha, Nat.pow_zero, Nat.mod_one, Nat.mul_zero, Nat.add_zero] at hv
  have hall : ∀ j, l.getD j 0 ≤ 4 * B := fun j => by
    by_cases e : j = i
    · rw [e]; exact H.h2
    · by_cases e2 : j + 1 = i + lb
      · by_cases e3 : 1 < lb
        · have := H.h3 (by omega)
          rw [show i + lb - 1 = j by omega] at this
          omega
        · by_cases e4 : lb = 0
          · rw [H.h6 e4]; omega
          · omega
      · by_cases e3 : j < i + lb
        · have := H.h1 j e3 (by omega) e2; omega
        · by_cases e4 : lb = 0
          · rw [H.h6 e4]; omega
          · rw [H.h4 j (by omega)]; omega
  exact ⟨H.len, hv, fun j hj => by omega, by have := hall 0; omega, fun j _ => hall j⟩
theorem CarI.step {B v n i : Nat} {l : List Nat} (hB : 6 < B) (H : CarI B v n i l) (hi : i + 1 < n) : CarI B v n (i + 1) ((l.set (i + 1) (l.getD (i + 1) 0 + l.getD i 0 / B)).set i (l.getD i 0 % B)) := by
  have hl1 : i + 1 < l.length := by rw [H.len]; exact hi
  have hl2 : i < (l.set (i + 1) (l.getD (i + 1) 0 + l.getD i 0 / B)).length := by rw [List.length_set, H.len]; omega
  have hm := Nat.mod_lt (l.getD i 0) (show 0 < B by omega)
  have hq : l.getD i 0 / B ≤ 6 := by
    have := H.h
    exact Nat.div_le_of_le_mul (by omega)
  have hu := H.up (i + 1) (by omega)
  have g1 : ((l.set (i + 1) (l.getD (i + 1) 0 + l.getD i 0 / B)).set i (l.getD i 0 % B)).getD (i + 1) 0 = l.getD (i + 1) 0 + l.getD i 0 / B := by rw [getD_set_ne (by omega), getD_set_eq hl1]
  have g2 : ((l.set (i + 1) (l.getD (i + 1) 0 + l.getD i 0 / B)).set i (l.getD i 0 % B)).getD i 0 = l.getD i 0 % B := getD_set_eq hl2 _ _
  have g3 : ∀ j, j ≠ i → j ≠ i + 1 → ((l.set (i + 1) (l.getD (i + 1) 0 + l.getD i 0 / B)).set i (l.getD i 0 % B)).getD j 0 = l.getD j 0 := fun j e1 e2 => by rw [getD_set_ne (Ne.symm e1), getD_set_ne (Ne.symm e2)]
  refine ⟨by rw [List.length_set, List.length_set]; exact H.len, ?_, fun j hj => ?_, by rw [g1]; omega, fun j hj => ?_⟩
  · have e1 := val_set (B := B) hl1 (l.getD (i + 1) 0 + l.getD i 0 / B)
    have e2 := val_set (B := B) hl2 (l.getD i 0 % B)
    rw [getD_set_ne (by omega)] at e2
    have hv := H.v
    have e3 := Nat.div_add_mod (l.getD i 0) B
    rw [Nat.pow_succ] at e1
    generalize val B ((l.set (i + 1) (l.getD (i + 1) 0 + l.getD i 0 / B)).set i (l.getD i 0 % B)) = v2 at *
    generalize val B (l.set (i + 1) (l.getD (i + 1) 0 + l.getD i 0 / B)) = v1 at *
    generalize val B l = v0 at *
    generalize l.getD i 0 / B = q at *
    generalize l.getD i 0 % B = r at *
    generalize l.getD (i + 1) 0 = y at *
    generalize l.getD i 0 = z at *
    grind
  · by_cases e : j = i
    · rw [e, g2]; exact hm
    · rw [g3 j e (by omega)]; exact H.lo j (by omega)
  · rw [g3 j (by omega) (by omega)]; exact H.up j (by omega)
theorem CarI.fin {B v n i : Nat} {l : List Nat} (hB : 1 < B) (H : CarI B v n i l) (hi : n ≤ i + 1) (hv : v < B ^ (n - 1)) : AllLt B l := by
  have hall : ∀ j, j < l.length → l.getD j 0 < B := fun j hj => by
    by_cases e : j < i
    · exact H.lo j e
    · have hlen := H.len
      have ej : j = n - 1 := by omega
      have h1 := val_take_drop B l j (by omega)
      rw [H.v] at h1
      have h2 : val B (l.drop j) = l.getD j 0 := by
        have hd : l.drop j = [l.getD j 0] := by
          rw [List.drop_eq_getElem_cons hj]
          have : l.drop (j + 1) = [] := List.drop_eq_nil_of_le (by omega)
          rw [this]
          simp [List.getD_eq_getElem?_getD, List.getElem?_eq_getElem hj]
        rw [hd]; simp [val]
      rw [h2] at h1
      rw [← ej] at hv
      have h3 : B ^ j * l.getD j 0 < B ^ j * 1 := by omega
      have h4 := Nat.lt_of_mul_lt_mul_left h3
      omega
  intro d hd
  obtain ⟨j, hj, rfl⟩ := List.getElem_of_mem hd
  have := hall j hj
  simpa [List.getD_eq_getElem?_getD, List.getElem?_eq_getElem hj] using this
end Va
/- Plain laws of a quotient, digit by digit. -/
set_option linter.unusedVariables false
set_option linter.unusedSimpArgs false
namespace Va
theorem div_round {B a b i r : Nat} (hb : 0 < b) (hB : 0 < B) (hr : r = a / B ^ (i + 1) % b) :
    a / B ^ i / b = B * (a / B ^ (i + 1) / b) + (a / B ^ i % B + B * r) / b ∧ a / B ^ i % b = (a / B ^ i % B + B * r) % b ∧ (a / B ^ i % B + B * r) / b < B := by
  have h1 := div_pow_split B a i
  have h2 := Nat.div_add_mod (a / B ^ (i + 1)) b
  rw [← hr] at h2
  have hd := Nat.mod_lt (a / B ^ i) hB
  have hrb : r < b := by rw [hr]; exact Nat.mod_lt _ hb
  have e : a / B ^ i = b * (B * (a / B ^ (i + 1) / b)) + (a / B ^ i % B + B * r) := by
    generalize a / B ^ (i + 1) / b = Q at *
    generalize a / B ^ i % B = d at *
    generalize a / B ^ (i + 1) = X at *
    rw [h1, ← h2]
    grind
  refine ⟨?_, ?_, ?_⟩
  · conv => lhs; rw [e]
    rw [Nat.mul_add_div hb]
  · conv => lhs; rw [e]
    rw [Nat.mul_add_mod]
  · refine Nat.div_lt_of_lt_mul ?_
    have : B * (r + 1) ≤ B * b := Nat.mul_le_mul_left _ hrb
    rw [Nat.mul_comm b B]
    rw [Nat.mul_add] at this
    omega
/-- The head of a round of a quotient. -/
structure DivI (B a b n k r : Nat) (l : List Nat) : Prop where
  len : l.length = n
  lt : AllLt B l
  v : val B l = (a / B ^ k / b) * B ^ k
  r : r = a / B ^ k % b
theorem DivI.zero {B a b n i r : Nat} {l : List Nat} (hB : 1 < B) (hb : 0 < b) (H : DivI B a b n (i + 1) r l) : l.getD i 0 = 0 := by
  rw [getD_val (by omega) H.lt, H.v, Nat.pow_succ, ← Nat.mul_assoc, Nat.mul_right_comm, Nat.mul_div_cancel _ (Nat.pow_pos (by omega))]
  exact Nat.mul_mod_left _ _
theorem DivI.skip {B a b n i r : Nat} {l : List Nat} (hB : 1 < B) (hb : 0 < b) (H : DivI B a b n (i + 1) r l) (h : a / B ^ i % B + B * r < b) : DivI B a b n i (a / B ^ i % B + B * r) l := by
  obtain ⟨d1, d2, d3⟩ := div_round (B := B) hb (by omega) H.r
  refine ⟨H.len, H.lt, ?_, ?_⟩
  · rw [d1, Nat.div_eq_of_lt h, H.v, Nat.pow_succ, Nat.add_zero, Nat.mul_comm B, Nat.mul_assoc, Nat.mul_comm B]
  · rw [d2, Nat.mod_eq_of_lt h]
theorem DivI.put {B a b n i r q : Nat} {l : List Nat} (hB : 1 < B) (hb : 0 < b) (H : DivI B a b n (i + 1) r l) (hi : i < n) (hq : q = (a / B ^ i % B + B * r) / b) : q < B ∧ DivI B a b n i (a / B ^ i % B + B * r - b * q) (l.set i q) := by
  obtain ⟨d1, d2, d3⟩ := div_round (B := B) hb (by omega) H.r
  have hl : i < l.length := by rw [H.len]; exact hi
  have h0 := H.zero hB hb
  have hqB : q < B := by rw [hq]; exact d3
  refine ⟨hqB, by rw [List.length_set]; exact H.len, H.lt.set hqB i, ?_, ?_⟩
  · have h1 := val_set (B := B) hl q
    rw [h0, Nat.zero_mul, Nat.add_zero, H.v, Nat.pow_succ] at h1
    rw [h1, d1, ← hq]
    grind
  · rw [d2, hq]
    have := Nat.div_add_mod (a / B ^ i % B + B * r) b
    omega
theorem DivI.start {B a b n : Nat} (hB : 1 < B) (hn : dl B a ≤ n) : DivI B a b n n 0 (List.replicate n 0) := by
  have h : a / B ^ n = 0 := dig_high hB hn
  exact ⟨by simp, AllLt.rep (by omega) n, by rw [val_rep0, h]; simp, by rw [h]; simp⟩
theorem DivI.fin {B a b n r : Nat} {l : List Nat} (H : DivI B a b n 0 r l) : val B l = a / b ∧ r = a % b := by
  have h1 := H.v
  have h2 := H.r
  simp at h1 h2
  exact ⟨h1, h2⟩
/-- A search by halves. -/
theorem half_fin {b r low high : Nat} (hb : 0 < b) (h1 : low * b ≤ r) (h2 : r < high * b) (h3 : high ≤ low + 1) (h4 : low < high) : low = r / b := by
  have : high = low + 1 := by omega
  subst this
  exact (Nat.div_eq_of_lt_le h1 h2).symm
end Va
/- Plain laws of a half of a quotient. -/
set_option linter.unusedVariables false
set_option maxRecDepth 100000
open Go Go.Avm
namespace Va
theorem mul_le32 {a b : Nat} (ha : a < 4294967296) (hb : b < 4294967296) : a * b ≤ 18446744065119617025 := by
  have : a * b ≤ 4294967295 * 4294967295 := Nat.mul_le_mul (by omega) (by omega)
  omega
/-- A guess q of a quotient, with what is left. -/
structure DG (u v y q r : Nat) : Prop where
  s : q * (y / 4294967296) + r = u
  up : u * 4294967296 + v < (q + 1) * y
  r : r < 4294967296
theorem dg_y (y q : Nat) : q * y = q * (y / 4294967296) * 4294967296 + q * (y % 4294967296) := by
  have : q * (y / 4294967296 * 4294967296 + y % 4294967296) = q * (y / 4294967296) * 4294967296 + q * (y % 4294967296) := by rw [Nat.mul_add, Nat.mul_assoc]
  rw [← this]
  congr 1
  omega
theorem dg_start {u v y : Nat} (hv : v < 4294967296) (hy' : 9223372036854775808 ≤ y) (hy : y < 18446744073709551616) : DG u v y (u / (y / 4294967296)) (u % (y / 4294967296)) := by
  have hr0 : u % (y / 4294967296) < y / 4294967296 := Nat.mod_lt _ (by omega)
  have hm0 := Nat.div_add_mod' u (y / 4294967296)
  refine ⟨hm0, ?_, by omega⟩
  rw [dg_y y]
  have : u + 1 ≤ (u / (y / 4294967296) + 1) * (y / 4294967296) := by rw [Nat.add_mul]; omega
  have := Nat.mul_le_mul_right 4294967296 this
  omega
theorem dg_down {u v y q r : Nat} (h1 : q * (y / 4294967296) + r = u) (h : u * 4294967296 + v < q * y) : 0 < q ∧ (q - 1) * (y / 4294967296) + (r + y / 4294967296) = u ∧ u * 4294967296 + v < (q - 1 + 1) * y := by
  have hq : 0 < q := by
    rcases Nat.eq_zero_or_pos q with rfl | h'
    · simp at h
    · exact h'
  refine ⟨hq, ?_, ?_⟩
  · have : q * (y / 4294967296) = (q - 1) * (y / 4294967296) + y / 4294967296 := by
      have := Nat.add_mul (q - 1) 1 (y / 4294967296)
      rw [Nat.sub_add_cancel hq] at this
      omega
    omega
  · rw [Nat.sub_add_cancel hq]; exact h
theorem dg_big {u v y q : Nat} (hu : u < y) (hv : v < 4294967296) (c : 4294967295 < q) : u * 4294967296 + v < q * y := by
  have := Nat.mul_le_mul_right y (show 4294967296 ≤ q by omega)
  omega
theorem dg_test {u v y q r : Nat} (h1 : q * (y / 4294967296) + r = u) : r * 4294967296 + v < q * (y % 4294967296) ↔ u * 4294967296 + v < q * y := by
  rw [dg_y y q]
  generalize q * (y / 4294967296) = A at *
  generalize q * (y % 4294967296) = B at *
  rw [← h1, Nat.add_mul]
  omega
theorem dg_brk {u y q r : Nat} (hu : u < y) (hy : y < 18446744073709551616) (h : q * (y / 4294967296) + r = u) (hr : 4294967295 < r) : q ≤ 4294967295 := by
  rcases Nat.lt_or_ge 4294967295 q with h' | h'
  · have := Nat.mul_le_mul_right (y / 4294967296) (show 4294967296 ≤ q by omega)
    omega
  · exact h'
theorem dg_le {u v y q r : Nat} (hv : v < 4294967296) (h : q * (y / 4294967296) + r = u) (hr : 4294967295 < r) (hq : q ≤ 4294967295) : q * y ≤ u * 4294967296 + v := by
  rw [dg_y y q]
  have := mul_le32 (a := q) (b := y % 4294967296) (by omega) (by omega)
  generalize q * (y / 4294967296) = A at *
  generalize q * (y % 4294967296) = B at *
  omega
theorem dg_fin {u v y q : Nat} (hy : y < 18446744073709551616) (h1 : q * y ≤ u * 4294967296 + v) (h2 : u * 4294967296 + v < (q + 1) * y) :
    AV.tup [AV.int .u64 ((q : Nat) : Int), AV.int .u64 (IntKind.u64.wrap (((u * 4294967296 % 18446744073709551616 + v) % 18446744073709551616 : Nat) - ((q * y % 18446744073709551616 : Nat) : Int)))] = AV.tup [AV.int .u64 (((u * 4294967296 + v) / y : Nat) : Int), AV.int .u64 (((u * 4294967296 + v) % y : Nat) : Int)] := by
  have e : q = (u * 4294967296 + v) / y := (Nat.div_eq_of_lt_le h1 h2).symm
  have e3 : (u * 4294967296 + v) % y = u * 4294967296 + v - q * y := by
    have := Nat.div_add_mod' (u * 4294967296 + v) y
    rw [← e] at this
    omega
  have e4 : (q + 1) * y = q * y + y := by rw [Nat.add_mul]; omega
  rw [e4] at h2
  rw [e3, ← e, wu64_mod]
  clear e3 e e4
  generalize q * y = z at *
  congr 4
  omega
/-- A shift to the left; below 0: to the right. -/
def shlW (x : Nat) (n : Int) : Nat := if n < 0 then x / 2 ^ (-n).toNat else x * 2 ^ n.toNat % 18446744073709551616
theorem shlW_lt {x : Nat} (hx : x < 18446744073709551616) (n : Int) : shlW x n < 18446744073709551616 := by
  unfold shlW
  split
  · exact Nat.lt_of_le_of_lt (Nat.div_le_self _ _) hx
  · exact Nat.mod_lt _ (by decide)
/-- What the two words are when the divisor's highest bit is brought up. -/
structure DN (h l y k : Nat) : Prop where
  y1 : y * 2 ^ k % 18446744073709551616 = y * 2 ^ k
  y2 : 9223372036854775808 ≤ y * 2 ^ k
  y3 : y * 2 ^ k < 18446744073709551616
  u : ((shlW h (k : Int) % 18446744073709551616) ||| (shlW l (-((64 - k : Nat) : Int)) % 18446744073709551616)) % 18446744073709551616 = (h * 18446744073709551616 + l) * 2 ^ k / 18446744073709551616
  lo : l * 2 ^ k % 18446744073709551616 = (h * 18446744073709551616 + l) * 2 ^ k % 18446744073709551616
  uy : (h * 18446744073709551616 + l) * 2 ^ k / 18446744073709551616 < y * 2 ^ k
theorem dn_of {h l y k : Nat} (hh : h < y) (hl : l < 18446744073709551616) (hy : y < 18446744073709551616) (hk : k = 64 - dl 2 y) : DN h l y k := by
  have hd : dl 2 y ≤ 64 := (dl_le_iff (by decide)).2 (by simpa using hy)
  have hd0 : 0 < dl 2 y := by rw [dl_pos (by decide) (by omega)]; omega
  have hp : 2 ^ dl 2 y * 2 ^ k = 18446744073709551616 := by rw [← Nat.pow_add, show dl 2 y + k = 64 by omega]
  have hp1 : 2 ^ (dl 2 y - 1) * 2 ^ k = 9223372036854775808 := by rw [← Nat.pow_add, show dl 2 y - 1 + k = 63 by omega]
  have hp2 : 2 ^ (64 - k) * 2 ^ k = 18446744073709551616 := by rw [← Nat.pow_add, show 64 - k + k = 64 by omega]
  have hpos : 0 < 2 ^ k := Nat.pow_pos (by decide)
  have y3 : y * 2 ^ k < 18446744073709551616 := by rw [← hp]; exact Nat.mul_lt_mul_of_pos_right (lt_pow_dl (by decide) y) hpos
  have y2 : 9223372036854775808 ≤ y * 2 ^ k := by rw [← hp1]; exact Nat.mul_le_mul_right _ (dl_pow_le (by decide) (by omega))
  have hhk : h * 2 ^ k + 2 ^ k ≤ y * 2 ^ k := by
    have : (h + 1) * 2 ^ k ≤ y * 2 ^ k := Nat.mul_le_mul_right _ hh
    rw [Nat.add_mul] at this; omega
  have e1 : (h * 18446744073709551616 + l) * 2 ^ k = 18446744073709551616 * (h * 2 ^ k) + l * 2 ^ k := by rw [Nat.add_mul, Nat.mul_right_comm, Nat.mul_comm (h * 2 ^ k)]
  have hlk : l / 2 ^ (64 - k) < 2 ^ k := by
    refine Nat.div_lt_of_lt_mul ?_
    rw [hp2]; exact hl
  have e2 : l * 2 ^ k / 18446744073709551616 = l / 2 ^ (64 - k) := by
    rw [← hp2, Nat.mul_div_mul_right _ _ hpos]
  have e3 : (h * 18446744073709551616 + l) * 2 ^ k / 18446744073709551616 = h * 2 ^ k + l / 2 ^ (64 - k) := by
    rw [e1, Nat.mul_add_div (by decide), e2]
  have e4 : shlW l (-((64 - k : Nat) : Int)) = l / 2 ^ (64 - k) := by
    unfold shlW
    rw [if_pos (by omega), Int.neg_neg, Int.toNat_natCast]
  have e5 : shlW h (k : Int) = h * 2 ^ k := by
    unfold shlW
    rw [if_neg (by omega), Int.toNat_natCast, m64 (by omega)]
  refine ⟨m64 y3, y2, y3, ?_, ?_, ?_⟩
  · rw [e3, e4, e5, m64 (n := h * 2 ^ k) (by omega), m64 (n := l / 2 ^ (64 - k)) (by omega)]
    have := Nat.shiftLeft_add_eq_or_of_lt hlk h
    rw [Nat.shiftLeft_eq] at this
    rw [← this, m64 (by omega)]
  · rw [e1, Nat.mul_add_mod]
  · rw [e3]; omega
theorem dn_core {h l y k U L q1 r1 q0 r0 : Nat} (D : DN h l y k) (huy : U < y * 2 ^ k) (hLL : L < 18446744073709551616) (hT : (h * 18446744073709551616 + l) * 2 ^ k = U * 18446744073709551616 + L)
    (g1 : q1 * (y * 2 ^ k) + r1 = U * 4294967296 + L / 4294967296) (g2 : r1 < y * 2 ^ k) (g3 : q0 * (y * 2 ^ k) + r0 = r1 * 4294967296 + L % 4294967296) (g4 : r0 < y * 2 ^ k) :
    ((q1 * 4294967296 % 18446744073709551616 % 18446744073709551616) ||| (q0 % 18446744073709551616)) % 18446744073709551616 = (h * 18446744073709551616 + l) / y ∧ r0 / 2 ^ k = (h * 18446744073709551616 + l) % y := by
  have hpos : 0 < 2 ^ k := Nat.pow_pos (by decide)
  have hsum : (h * 18446744073709551616 + l) * 2 ^ k = (q1 * 4294967296 + q0) * (y * 2 ^ k) + r0 := by
    rw [hT, Nat.add_mul, Nat.mul_right_comm]
    omega
  have q1b : q1 < 4294967296 := by
    rcases Nat.lt_or_ge q1 4294967296 with h' | h'
    · exact h'
    · have := Nat.mul_le_mul_right (y * 2 ^ k) h'
      omega
  have q0b : q0 < 4294967296 := by
    rcases Nat.lt_or_ge q0 4294967296 with h' | h'
    · exact h'
    · have := Nat.mul_le_mul_right (y * 2 ^ k) h'
      omega
  have hq : (h * 18446744073709551616 + l) / y = q1 * 4294967296 + q0 := by
    rw [← Nat.mul_div_mul_right _ _ hpos, hsum]
    rw [Nat.mul_comm (q1 * 4294967296 + q0), Nat.mul_add_div (by omega), Nat.div_eq_of_lt g4, Nat.add_zero]
  have hr : (h * 18446744073709551616 + l) % y * 2 ^ k = r0 := by
    rw [← Nat.mul_mod_mul_right, hsum]
    rw [Nat.mul_comm (q1 * 4294967296 + q0), Nat.mul_add_mod, Nat.mod_eq_of_lt g4]
  refine ⟨?_, ?_⟩
  · rw [hq, m64 (n := q0) (by omega), m64 (n := q1 * 4294967296 % 18446744073709551616) (by omega), bor_shift q0b]
    omega
  · rw [← hr, Nat.mul_div_cancel _ hpos]
theorem dn_fin {h l y k U L : Nat} (D : DN h l y k) (hU : U = (h * 18446744073709551616 + l) * 2 ^ k / 18446744073709551616) (hL : L = (h * 18446744073709551616 + l) * 2 ^ k % 18446744073709551616) :
    (((U * 4294967296 + L / 4294967296) / (y * 2 ^ k) * 4294967296 % 18446744073709551616 % 18446744073709551616) ||| (((U * 4294967296 + L / 4294967296) % (y * 2 ^ k) * 4294967296 + L % 4294967296) / (y * 2 ^ k) % 18446744073709551616)) % 18446744073709551616 = (h * 18446744073709551616 + l) / y ∧
    ((U * 4294967296 + L / 4294967296) % (y * 2 ^ k) * 4294967296 + L % 4294967296) % (y * 2 ^ k) / 2 ^ k = (h * 18446744073709551616 + l) % y := by
  have hp : 0 < y * 2 ^ k := Nat.lt_of_lt_of_le (by decide) D.y2
  refine dn_core D (by rw [hU]; exact D.uy) (by rw [hL]; exact Nat.mod_lt _ (by decide)) (by rw [hU, hL]; exact (Nat.div_add_mod' _ _).symm) (Nat.div_add_mod' _ _) (Nat.mod_lt _ hp) (Nat.div_add_mod' _ _) (Nat.mod_lt _ hp)
/-- A number brought between 0 and m by remainders. -/
theorem wrapmod (n : Int) (m : Nat) (hm : 0 < m) (hm2 : m ≤ 1000000) : ∃ k : Nat, (IntKind.i64.wrap (n.tmod (m : Int) + (m : Int))).tmod (m : Int) = (k : Int) ∧ k < m := by
  have h1 : -(m : Int) < n.tmod (m : Int) := Int.lt_tmod_of_pos n (by omega)
  have h2 : n.tmod (m : Int) < (m : Int) := Int.tmod_lt_of_pos n (by omega)
  rw [wi64_in (by omega) (by omega)]
  refine ⟨((n.tmod (m : Int) + (m : Int)).tmod (m : Int)).toNat, ?_, ?_⟩
  · have := Int.tmod_nonneg (m : Int) (show 0 ≤ n.tmod (m : Int) + (m : Int) by omega)
    omega
  · have := Int.tmod_lt_of_pos (n.tmod (m : Int) + (m : Int)) (show 0 < (m : Int) by omega)
    have := Int.tmod_nonneg (m : Int) (show 0 ≤ n.tmod (m : Int) + (m : Int) by omega)
    omega
end Va
