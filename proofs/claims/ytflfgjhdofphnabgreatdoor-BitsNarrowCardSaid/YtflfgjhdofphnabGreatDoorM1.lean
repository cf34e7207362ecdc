/- Numbers by digits: the value of a list of digits, the digits of a number. Plain; no program in sight. -/
namespace Va

/-- The value of digits, the lowest first. -/
def val (B : Nat) : List Nat → Nat
  | [] => 0
  | d :: l => d + B * val B l

/-- The digits of a number, the lowest first, none of 0 above. -/
def dig (B n : Nat) : List Nat := if _h : n = 0 ∨ B ≤ 1 then [] else n % B :: dig B (n / B)
termination_by n
decreasing_by
  have : ¬ (n = 0) ∧ ¬ (B ≤ 1) := by simpa [not_or] using _h
  exact Nat.div_lt_self (by omega) (by omega)

def AllLt (B : Nat) (l : List Nat) : Prop := ∀ d ∈ l, d < B

theorem AllLt.nil {B : Nat} : AllLt B [] := fun _ h => by simp at h
theorem AllLt.cons {B d : Nat} {l : List Nat} (h : d < B) (k : AllLt B l) : AllLt B (d :: l) := fun x hx => by
  rcases List.mem_cons.1 hx with rfl | hx
  · exact h
  · exact k x hx
theorem AllLt.tail {B d : Nat} {l : List Nat} (h : AllLt B (d :: l)) : AllLt B l := fun x hx => h x (List.mem_cons_of_mem _ hx)
theorem AllLt.head {B d : Nat} {l : List Nat} (h : AllLt B (d :: l)) : d < B := h d (List.mem_cons_self ..)
theorem AllLt.append {B : Nat} {l m : List Nat} (h : AllLt B l) (k : AllLt B m) : AllLt B (l ++ m) := fun x hx => by
  rcases List.mem_append.1 hx with hx | hx
  · exact h x hx
  · exact k x hx
theorem AllLt.set {B : Nat} {l : List Nat} (h : AllLt B l) {x : Nat} (hx : x < B) (i : Nat) : AllLt B (l.set i x) := fun y hy => by
  rcases List.mem_or_eq_of_mem_set hy with hy | rfl
  · exact h y hy
  · exact hx
theorem AllLt.take {B : Nat} {l : List Nat} (h : AllLt B l) (k : Nat) : AllLt B (l.take k) := fun y hy => h y (List.mem_of_mem_take hy)
theorem AllLt.drop {B : Nat} {l : List Nat} (h : AllLt B l) (k : Nat) : AllLt B (l.drop k) := fun y hy => h y (List.mem_of_mem_drop hy)
theorem AllLt.rep {B : Nat} (hB : 0 < B) (k : Nat) : AllLt B (List.replicate k 0) := fun y hy => by
  rw [List.eq_of_mem_replicate hy]; exact hB
theorem AllLt.getD {B : Nat} (hB : 0 < B) {l : List Nat} (h : AllLt B l) (i : Nat) : l.getD i 0 < B := by
  rw [List.getD_eq_getElem?_getD]
  cases e : l[i]? with
  | none => simpa using hB
  | some x => simpa using h x (List.mem_of_getElem? e)

theorem val_append (B : Nat) (l m : List Nat) : val B (l ++ m) = val B l + B ^ l.length * val B m := by
  induction l with
  | nil => simp [val]
  | cons d l ih =>
    simp only [List.cons_append, val, ih, List.length_cons, Nat.pow_succ, Nat.mul_add, Nat.add_assoc]
    rw [Nat.mul_left_comm, Nat.mul_assoc, Nat.mul_left_comm]
theorem val_rep0 (B k : Nat) : val B (List.replicate k 0) = 0 := by
  induction k with
  | zero => rfl
  | succ k ih => simp [List.replicate_succ, val, ih]
theorem val_lt {B : Nat} {l : List Nat} (h : AllLt B l) : val B l < B ^ l.length := by
  induction l with
  | nil => simp [val]
  | cons d l ih =>
    simp only [val, List.length_cons, Nat.pow_succ]
    have h1 := ih h.tail
    have h2 := h.head
    have : B * (val B l + 1) ≤ B * B ^ l.length := Nat.mul_le_mul_left _ h1
    rw [Nat.mul_comm (B ^ l.length) B]
    rw [Nat.mul_add] at this
    omega

theorem val_take_drop (B : Nat) (l : List Nat) (k : Nat) (hk : k ≤ l.length) : val B l = val B (l.take k) + B ^ k * val B (l.drop k) := by
  have := val_append B (l.take k) (l.drop k)
  rw [List.take_append_drop] at this
  rw [this, List.length_take, Nat.min_eq_left hk]

theorem val_mod {B : Nat} {l : List Nat} (h : AllLt B l) (k : Nat) (hk : k ≤ l.length) : val B (l.take k) = val B l % B ^ k := by
  have h1 := val_lt (h.take k)
  rw [List.length_take, Nat.min_eq_left hk] at h1
  rw [val_take_drop B l k hk, Nat.add_mul_mod_self_left, Nat.mod_eq_of_lt h1]
theorem val_div {B : Nat} (hB : 0 < B) {l : List Nat} (h : AllLt B l) (k : Nat) (hk : k ≤ l.length) : val B (l.drop k) = val B l / B ^ k := by
  have h1 := val_lt (h.take k)
  rw [List.length_take, Nat.min_eq_left hk] at h1
  have : 0 < B ^ k := Nat.pow_pos hB
  rw [val_take_drop B l k hk, Nat.add_mul_div_left _ _ this, Nat.div_eq_of_lt h1, Nat.zero_add]

theorem getD_val {B : Nat} (hB : 0 < B) {l : List Nat} (h : AllLt B l) (i : Nat) : l.getD i 0 = val B l / B ^ i % B := by
  induction l generalizing i with
  | nil => simp [val]
  | cons d l ih =>
    have h2 := h.head
    cases i with
    | zero => simp [val, Nat.add_mul_mod_self_left, Nat.mod_eq_of_lt h2]
    | succ i =>
      rw [List.getD_cons_succ, ih h.tail, val, Nat.pow_succ, Nat.mul_comm (B ^ i) B, ← Nat.div_div_eq_div_mul, Nat.add_mul_div_left _ _ hB, Nat.div_eq_of_lt h2, Nat.zero_add]

theorem val_set {B : Nat} {l : List Nat} {i : Nat} (hi : i < l.length) (x : Nat) : val B (l.set i x) + l.getD i 0 * B ^ i = val B l + x * B ^ i := by
  induction l generalizing i with
  | nil => simp at hi
  | cons d l ih =>
    cases i with
    | zero => simp [val]; omega
    | succ i =>
      have := ih (i := i) (by simpa using hi)
      simp only [List.set_cons_succ, val, List.getD_cons_succ, Nat.pow_succ]
      have e : B * (val B (l.set i x) + l.getD i 0 * B ^ i) = B * (val B l + x * B ^ i) := by rw [this]
      grind

theorem dig_zero (B : Nat) : dig B 0 = [] := by rw [dig]; simp
theorem dig_pos {B n : Nat} (hB : 1 < B) (hn : 0 < n) : dig B n = n % B :: dig B (n / B) := by rw [dig]; simp; omega
theorem dig_lt {B : Nat} (hB : 1 < B) (n : Nat) : AllLt B (dig B n) := by
  induction n using Nat.strongRecOn with
  | ind n ih =>
    by_cases hn : n = 0
    · subst hn; rw [dig_zero]; exact AllLt.nil
    · rw [dig_pos hB (by omega)]
      exact AllLt.cons (Nat.mod_lt _ (by omega)) (ih _ (Nat.div_lt_self (by omega) hB))
theorem val_dig {B : Nat} (hB : 1 < B) (n : Nat) : val B (dig B n) = n := by
  induction n using Nat.strongRecOn with
  | ind n ih =>
    by_cases hn : n = 0
    · subst hn; rw [dig_zero]; rfl
    · rw [dig_pos hB (by omega), val, ih _ (Nat.div_lt_self (by omega) hB)]
      exact Nat.mod_add_div n B
theorem dig_getD {B : Nat} (hB : 1 < B) (n i : Nat) : (dig B n).getD i 0 = n / B ^ i % B := by
  rw [getD_val (by omega) (dig_lt hB n), val_dig hB]

/-- Digits of which the last is not 0 are the digits of their value. -/
theorem dig_val {B : Nat} (hB : 1 < B) {l : List Nat} (h : AllLt B l) (hl : l = [] ∨ l.getD (l.length - 1) 0 ≠ 0) : dig B (val B l) = l := by
  induction l with
  | nil => rw [val, dig_zero]
  | cons d l ih =>
    have h2 := h.head
    have hl' : l = [] ∨ l.getD (l.length - 1) 0 ≠ 0 := by
      cases l with
      | nil => exact .inl rfl
      | cons e l => exact .inr (by simpa using hl)
    have hv := ih h.tail hl'
    have hpos : 0 < d + B * val B l := by
      rcases hl' with h0 | h0
      · subst h0
        simp at hl
        omega
      · have : val B l ≠ 0 := fun e => by
          rw [e, dig_zero] at hv
          rw [← hv] at h0
          simp at h0
        have : B * 1 ≤ B * val B l := Nat.mul_le_mul_left _ (by omega)
        omega
    rw [val, dig_pos hB hpos, Nat.add_mul_mod_self_left, Nat.mod_eq_of_lt h2, Nat.add_mul_div_left _ _ (by omega), Nat.div_eq_of_lt h2, Nat.zero_add, hv]

theorem val_take_zero {B : Nat} {l : List Nat} {k : Nat} (hk : k ≤ l.length) (hz : ∀ j, k ≤ j → l.getD j 0 = 0) : val B (l.take k) = val B l := by
  rw [val_take_drop B l k hk]
  have : ∀ (m : List Nat), (∀ j, m.getD j 0 = 0) → val B m = 0 := by
    intro m hm
    induction m with
    | nil => rfl
    | cons d m ih =>
      have h0 := hm 0
      simp at h0
      rw [val, h0, ih fun j => by simpa using hm (j + 1)]
      simp
  rw [this (l.drop k) fun j => by
    have := hz (k + j) (by omega)
    simpa [List.getD_eq_getElem?_getD, List.getElem?_drop] using this]
  simp
/-- What is left when the noughts above are taken away. -/
theorem take_eq_dig {B : Nat} (hB : 1 < B) {l : List Nat} (h : AllLt B l) {k : Nat} (hk : k ≤ l.length) (hz : ∀ j, k ≤ j → l.getD j 0 = 0) (hl : k = 0 ∨ l.getD (k - 1) 0 ≠ 0) : l.take k = dig B (val B l) := by
  rw [← val_take_zero hk hz]
  refine (dig_val hB (h.take k) ?_).symm
  rcases hl with rfl | hl
  · exact .inl (by simp)
  · by_cases hk0 : k = 0
    · exact .inl (by simp [hk0])
    · refine .inr ?_
      rw [List.length_take, Nat.min_eq_left hk]
      simpa [List.getD_eq_getElem?_getD, List.getElem?_take, show k - 1 < k by omega] using hl

/-! ### How many digits -/
def dl (B n : Nat) : Nat := (dig B n).length
theorem dl_zero (B : Nat) : dl B 0 = 0 := by simp [dl, dig_zero]
theorem lt_pow_dl {B : Nat} (hB : 1 < B) (n : Nat) : n < B ^ dl B n := by
  have := val_lt (dig_lt hB n)
  rwa [val_dig hB] at this
theorem dl_pos {B n : Nat} (hB : 1 < B) (hn : 0 < n) : dl B n = dl B (n / B) + 1 := by simp [dl, dig_pos hB hn]
theorem dl_pow_le {B n : Nat} (hB : 1 < B) (hn : 0 < n) : B ^ (dl B n - 1) ≤ n := by
  induction n using Nat.strongRecOn with
  | ind n ih =>
    rw [dl_pos hB hn]
    by_cases h0 : n / B = 0
    · rw [h0, dl_zero]; simp; omega
    · have h1 := ih (n / B) (Nat.div_lt_self hn hB) (Nat.pos_of_ne_zero h0)
      have h2 : 0 < dl B (n / B) := by rw [dl_pos hB (Nat.pos_of_ne_zero h0)]; omega
      have h3 : B ^ (dl B (n / B)) = B ^ (dl B (n / B) - 1) * B := by rw [← Nat.pow_succ]; congr 1; omega
      rw [Nat.add_sub_cancel, h3]
      calc B ^ (dl B (n / B) - 1) * B ≤ (n / B) * B := Nat.mul_le_mul_right _ h1
        _ ≤ n := Nat.div_mul_le_self n B
theorem dl_le_iff {B n k : Nat} (hB : 1 < B) : dl B n ≤ k ↔ n < B ^ k := by
  constructor
  · intro h
    exact Nat.lt_of_lt_of_le (lt_pow_dl hB n) (Nat.pow_le_pow_right (by omega) h)
  · intro h
    by_cases hn : n = 0
    · subst hn; rw [dl_zero]; omega
    · have h1 := dl_pow_le hB (n := n) (by omega)
      have h2 : B ^ (dl B n - 1) < B ^ k := Nat.lt_of_le_of_lt h1 h
      have := (Nat.pow_lt_pow_iff_right (a := B) hB).1 h2
      omega
theorem dl_mono {B n m : Nat} (hB : 1 < B) (h : n ≤ m) : dl B n ≤ dl B m := (dl_le_iff hB).2 (Nat.lt_of_le_of_lt h (lt_pow_dl hB m))
theorem dl_add {B : Nat} (hB : 1 < B) (n m : Nat) : dl B (n + m) ≤ max (dl B n) (dl B m) + 1 := by
  refine (dl_le_iff hB).2 ?_
  have h1 : n < B ^ max (dl B n) (dl B m) := (dl_le_iff hB).1 (Nat.le_max_left _ _)
  have h2 : m < B ^ max (dl B n) (dl B m) := (dl_le_iff hB).1 (Nat.le_max_right _ _)
  rw [Nat.pow_succ]
  have : B ^ max (dl B n) (dl B m) * 2 ≤ B ^ max (dl B n) (dl B m) * B := Nat.mul_le_mul_left _ hB
  omega
theorem dl_mul {B : Nat} (hB : 1 < B) (n m : Nat) : dl B (n * m) ≤ dl B n + dl B m := by
  refine (dl_le_iff hB).2 ?_
  rw [Nat.pow_add]
  have h1 := lt_pow_dl hB n
  have h2 := lt_pow_dl hB m
  exact Nat.mul_lt_mul'' h1 h2
theorem dl_eq_zero {B n : Nat} (hB : 1 < B) : dl B n = 0 ↔ n = 0 := by
  constructor
  · intro h
    have := (dl_le_iff (n := n) (k := 0) hB).1 (by omega)
    simpa using this
  · rintro rfl; exact dl_zero B

theorem dl_div {B : Nat} (hB : 1 < B) (n : Nat) : dl B (n / B) = dl B n - 1 := by
  by_cases hn : n = 0
  · subst hn; simp [dl_zero]
  · rw [dl_pos hB (n := n) (Nat.pos_of_ne_zero hn)]; omega
theorem dl_div_pow {B : Nat} (hB : 1 < B) (n k : Nat) : dl B (n / B ^ k) = dl B n - k := by
  induction k with
  | zero => simp
  | succ k ih => rw [Nat.pow_succ, ← Nat.div_div_eq_div_mul, dl_div hB, ih]; omega
theorem dl_one {B n : Nat} (hB : 1 < B) (h : n < B) : dl B n = if n = 0 then 0 else 1 := by
  split
  · next h => subst h; exact dl_zero B
  · rw [dl_pos hB (by omega), Nat.div_eq_of_lt h, dl_zero]
theorem take_getD (l : List Nat) (k : Nat) (hk : k < l.length) : l.take (k + 1) = l.take k ++ [l.getD k 0] := by
  rw [List.take_succ_eq_append_getElem hk]
  simp [List.getD_eq_getElem?_getD, List.getElem?_eq_getElem hk]
theorem mod_pow_succ (B n k : Nat) : n % B ^ (k + 1) = n % B ^ k + B ^ k * (n / B ^ k % B) := by
  rw [Nat.pow_succ, Nat.mod_mul]

theorem div_pow_split (B n i : Nat) : n / B ^ i = n / B ^ (i + 1) * B + n / B ^ i % B := by
  rw [Nat.pow_succ, ← Nat.div_div_eq_div_mul]
  exact (Nat.div_add_mod' _ _).symm
/-- How two numbers stand whose upper digits are the same. -/
theorem cmp_step {B a b i : Nat} (h : a / B ^ (i + 1) = b / B ^ (i + 1)) :
    (a / B ^ i % B < b / B ^ i % B → a < b) ∧ (b / B ^ i % B < a / B ^ i % B → b < a) ∧ (a / B ^ i % B = b / B ^ i % B → a / B ^ i = b / B ^ i) := by
  have h1 := div_pow_split B a i
  have h2 := div_pow_split B b i
  rw [h] at h1
  refine ⟨fun k => ?_, fun k => ?_, fun k => by omega⟩
  · rcases Nat.lt_or_ge a b with h3 | h3
    · exact h3
    · have := Nat.div_le_div_right (c := B ^ i) h3; omega
  · rcases Nat.lt_or_ge b a with h3 | h3
    · exact h3
    · have := Nat.div_le_div_right (c := B ^ i) h3; omega
theorem dig_high {B n i : Nat} (hB : 1 < B) (h : dl B n ≤ i) : n / B ^ i = 0 := Nat.div_eq_of_lt ((dl_le_iff hB).1 h)
theorem dig_high_mod {B n i : Nat} (hB : 1 < B) (h : ¬ i < (dig B n).length) : n / B ^ i % B = 0 := by
  rw [dig_high hB (by unfold dl; omega)]; simp
/-- -1, 0 or 1. -/
def cmpI (a b : Nat) : Int := if a < b then -1 else if b < a then 1 else 0
end Va
