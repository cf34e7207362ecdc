/- Joined texts. -/
import Derived.Test.YtdhhdjnhjlomkaaGreatDoorFA
import Derived.Test.YtdhhdjnhjlomkaaGreatDoorFD
/- Numbers by digits: the value of a list of digits, the digits of a number. Plain; no program in sight. -/
namespace Va

/-- The value of digits, the lowest first. -/
def val (B : Nat) : List Nat → Nat
  | [] => 0
  | d :: l => d + B * val B l

/-- The digits of a number, the lowest first, none of 0 above. -/
def dig (B n : Nat) : List Nat := if _h : n = 0 ∨ B ≤ 1 then [] else n % B :: dig B (n / B)
termination_by n
decreasing_by
  have : ¬ (n = 0) ∧ ¬ (B ≤ 1) := by simpa [not_or] using _h
  exact Nat.div_lt_self (by omega) (by omega)

def AllLt (B : Nat) (l : List Nat) : Prop := ∀ d ∈ l, d < B

theorem AllLt.nil {B : Nat} : AllLt B [] := fun _ h => by simp at h
theorem AllLt.cons {B d : Nat} {l : List Nat} (h : d < B) (k : AllLt B l) : AllLt B (d :: l) := fun x hx => by
  rcases List.mem_cons.1 hx with rfl | hx
  · exact h
  · exact k x hx
theorem AllLt.tail {B d : Nat} {l : List Nat} (h : AllLt B (d :: l)) : AllLt B l := fun x hx => h x (List.mem_cons_of_mem _ hx)
theorem AllLt.head {B d : Nat} {l : List Nat} (h : AllLt B (d :: l)) : d < B := h d (List.mem_cons_self ..)
theorem AllLt.append {B : Nat} {l m : List Nat} (h : AllLt B l) (k : AllLt B m) : AllLt B (l ++ m) := fun x hx => by
  rcases List.mem_append.1 hx with hx | hx
  · exact h x hx
  · exact k x hx
theorem AllLt.set {B : Nat} {l : List Nat} (h : AllLt B l) {x : Nat} (hx : x < B) (i : Nat) : AllLt B (l.set i x) := fun y hy => by
  rcases List.mem_or_eq_of_mem_set hy with hy | rfl
  · exact h y hy
  · exact hx
theorem AllLt.take {B : Nat} {l : List Nat} (h : AllLt B l) (k : Nat) : AllLt B (l.take k) := fun y hy => h y (List.mem_of_mem_take hy)
theorem AllLt.drop {B : Nat} {l : List Nat} (h : AllLt B l) (k : Nat) : AllLt B (l.drop k) := fun y hy => h y (List.mem_of_mem_drop hy)
theorem AllLt.rep {B : Nat} (hB : 0 < B) (k : Nat) : AllLt B (List.replicate k 0) := fun y hy => by
  rw [List.eq_of_mem_replicate hy]; exact hB
theorem AllLt.getD {B : Nat} (hB : 0 < B) {l : List Nat} (h : AllLt B l) (i : Nat) : l.getD i 0 < B := by
  rw [List.getD_eq_getElem?_getD]
  cases e : l[i]? with
  | none => simpa using hB
  | some x => simpa using h x (List.mem_of_getElem? e)

theorem val_append (B : Nat) (l m : List Nat) : val B (l ++ m) = val B l + B ^ l.length * val B m := by
  induction l with
  | nil => simp [val]
  | cons d l ih =>
    simp only [List.cons_append, val, ih, List.length_cons, Nat.pow_succ, Nat.mul_add, Nat.add_assoc]
    rw [Nat.mul_left_comm, Nat.mul_assoc, Nat.mul_left_comm]
theorem val_rep0 (B k : Nat) : val B (List.replicate k 0) = 0 := by
  induction k with
  | zero => rfl
  | succ k ih => simp [List.replicate_succ, val, ih]
theorem val_lt {B : Nat} {l : List Nat} (h : AllLt B l) : val B l < B ^ l.length := by
  induction l with
  | nil => simp [val]
  | cons d l ih =>
    simp only [val, List.length_cons, Nat.pow_succ]
    have h1 := ih h.tail
    have h2 := h.head
    have : B * (val B l + 1) ≤ B * B ^ l.length := Nat.mul_le_mul_left _ h1
    rw [Nat.mul_comm (B ^ l.length) B]
    rw [Nat.mul_add] at this
    omega

theorem val_take_drop (B : Nat) (l : List Nat) (k : Nat) (hk : k ≤ l.length) : val B l = val B (l.take k) + B ^ k * val B (l.drop k) := by
  have := val_append B (l.take k) (l.drop k)
  rw [List.take_append_drop] at this
  rw [this, List.length_take, Nat.min_eq_left hk]

theorem val_mod {B : Nat} {l : List Nat} (h : AllLt B l) (k : Nat) (hk : k ≤ l.length) : val B (l.take k) = val B l % B ^ k := by
  have h1 := val_lt (h.take k)
  rw [List.length_take, Nat.min_eq_left hk] at h1
  rw [val_take_drop B l k hk, Nat.add_mul_mod_self_left, Nat.mod_eq_of_lt h1]
theorem val_div {B : Nat} (hB : 0 < B) {l : List Nat} (h : AllLt B l) (k : Nat) (hk : k ≤ l.length) : val B (l.drop k) = val B l / B ^ k := by
  have h1 := val_lt (h.take k)
  rw [List.length_take, Nat.min_eq_left hk] at h1
  have : 0 < B ^ k := Nat.pow_pos hB
  rw [val_take_drop B l k hk, Nat.add_mul_div_left _ _ this, Nat.div_eq_of_lt h1, Nat.zero_add]

theorem getD_val {B : Nat} (hB : 0 < B) {l : List Nat} (h : AllLt B l) (i : Nat) : l.getD i 0 = val B l / B ^ i % B := by
  induction l generalizing i with
  | nil => simp [val]
  | cons d l ih =>
    have h2 := h.head
    cases i with
    | zero => simp [val, Nat.add_mul_mod_self_left, Nat.mod_eq_of_lt h2]
    | succ i =>
      rw [List.getD_cons_succ, ih h.tail, val, Nat.pow_succ, Nat.mul_comm (B ^ i) B, ← Nat.div_div_eq_div_mul, Nat.add_mul_div_left _ _ hB, Nat.div_eq_of_lt h2, Nat.zero_add]

theorem val_set {B : Nat} {l : List Nat} {i : Nat} (hi : i < l.length) (x : Nat) : val B (l.set i x) + l.getD i 0 * B ^ i = val B l + x * B ^ i := by
  induction l generalizing i with
  | nil => simp at hi
  | cons d l ih =>
    cases i with
    | zero => simp [val]; omega
    | succ i =>
      have := ih (i := i) (by simpa using hi)
      simp only [List.set_cons_succ, val, List.getD_cons_succ, Nat.pow_succ]
      have e : B * (val B (l.set i x) + l.getD i 0 * B ^ i) = B * (val B l + x * B ^ i) := by rw [this]
      grind

theorem dig_zero (B : Nat) : dig B 0 = [] := by rw [dig]; simp
theorem dig_pos {B n : Nat} (hB : 1 < B) (hn : 0 < n) : dig B n = n % B :: dig B (n / B) := by rw [dig]; simp; omega
theorem dig_lt {B : Nat} (hB : 1 < B) (n : Nat) : AllLt B (dig B n) := by
  induction n using Nat.strongRecOn with
  | ind n ih =>
    by_cases hn : n = 0
    · subst hn; rw [dig_zero]; exact AllLt.nil
    · rw [dig_pos hB (by omega)]
      exact AllLt.cons (Nat.mod_lt _ (by omega)) (ih _ (Nat.div_lt_self (by omega) hB))
theorem val_dig {B : Nat} (hB : 1 < B) (n : Nat) : val B (dig B n) = n := by
  induction n using Nat.strongRecOn with
  | ind n ih =>
    by_cases hn : n = 0
    · subst hn; rw [dig_zero]; rfl
    · rw [dig_pos hB (by omega), val, ih _ (Nat.div_lt_self (by omega) hB)]
      exact Nat.mod_add_div n B
theorem dig_getD {B : Nat} (hB : 1 < B) (n i : Nat) : (dig B n).getD i 0 = n / B ^ i % B := by
  rw [getD_val (by omega) (dig_lt hB n), val_dig hB]

/-- Digits of which the last is not 0 are the digits of their value. -/
theorem dig_val {B : Nat} (hB : 1 < B) {l : List Nat} (h : AllLt B l) (hl : l = [] ∨ l.getD (l.length - 1) 0 ≠ 0) : dig B (val B l) = l := by
  induction l with
  | nil => rw [val, dig_zero]
  | cons d l ih =>
    have h2 := h.head
    have hl' : l = [] ∨ l.getD (l.length - 1) 0 ≠ 0 := by
      cases l with
      | nil => exact .inl rfl
      | cons e l => exact .inr (by simpa using hl)
    have hv := ih h.tail hl'
    have hpos : 0 < d + B * val B l := by
      rcases hl' with h0 | h0
      · subst h0
        simp at hl
        omega
      · have : val B l ≠ 0 := fun e => by
          rw [e, dig_zero] at hv
          rw [← hv] at h0
          simp at h0
        have : B * 1 ≤ B * val B l := Nat.mul_le_mul_left _ (by omega)
        omega
    rw [val, dig_pos hB hpos, Nat.add_mul_mod_self_left, Nat.mod_eq_of_lt h2, Nat.add_mul_div_left _ _ (by omega), Nat.div_eq_of_lt h2, Nat.zero_add, hv]

theorem val_take_zero {B : Nat} {l : List Nat} {k : Nat} (hk : k ≤ l.length) (hz : ∀ j, k ≤ j → l.getD j 0 = 0) : val B (l.take k) = val B l := by
  rw [val_take_drop B l k hk]
  have : ∀ (m : List Nat), (∀ j, m.getD j 0 = 0) → val B m = 0 := by
    intro m hm
    induction m with
    | nil => rfl
    | cons d m ih =>
      have h0 := hm 0
      simp at h0
      rw [val, h0, ih fun j => by simpa using hm (j + 1)]
      simp
  rw [this (l.drop k) fun j => by
    have := hz (k + j) (by omega)
    simpa [List.getD_eq_getElem?_getD, List.getElem?_drop] using this]
  simp
/-- What is left when the noughts above are taken away. -/
theorem take_eq_dig {B : Nat} (hB : 1 < B) {l : List Nat} (h : AllLt B l) {k : Nat} (hk : k ≤ l.length) (hz : ∀ j, k ≤ j → l.getD j 0 = 0) (hl : k = 0 ∨ l.getD (k - 1) 0 ≠ 0) : l.take k = dig B (val B l) := by
  rw [← val_take_zero hk hz]
  refine (dig_val hB (h.take k) ?_).symm
  rcases hl with rfl | hl
  · exact .inl (by simp)
  · by_cases hk0 : k = 0
    · exact .inl (by simp [hk0])
    · refine .inr ?_
      rw [List.length_take, Nat.min_eq_left hk]
      simpa [List.getD_eq_getElem?_getD, List.getElem?_take, show k - 1 < k by omega] using hl

/-! ### How many digits -/
def dl (B n : Nat) : Nat := (dig B n).length
theorem dl_zero (B : Nat) : dl B 0 = 0 := by simp [dl, dig_zero]
theorem lt_pow_dl {B : Nat} (hB : 1 < B) (n : Nat) : n < B ^ dl B n := by
  have := val_lt (dig_lt hB n)
  rwa [val_dig hB] at this
theorem dl_pos {B n : Nat} (hB : 1 < B) (hn : 0 < n) : dl B n = dl B (n / B) + 1 := by simp [dl, dig_pos hB hn]
theorem dl_pow_le {B n : Nat} (hB : 1 < B) (hn : 0 < n) : B ^ (dl B n - 1) ≤ n := by
  induction n using Nat.strongRecOn with
  | ind n ih =>
    rw [dl_pos hB hn]
    by_cases h0 : n / B = 0
    · rw [h0, dl_zero]; simp; omega
    · have h1 := ih (n / B) (Nat.div_lt_self hn hB) (Nat.pos_of_ne_zero h0)
      have h2 : 0 < dl B (n / B) := by rw [dl_pos hB (Nat.pos_of_ne_zero h0)]; omega
      have h3 : B ^ (dl B (n / B)) = B ^ (dl B (n / B) - 1) * B := by rw [← Nat.pow_succ]; congr 1; omega
      rw [Nat.add_sub_cancel, h3]
      calc B ^ (dl B (n / B) - 1) * B ≤ (n / B) * B := Nat.mul_le_mul_right _ h1
        _ ≤ n := Nat.div_mul_le_self n B
theorem dl_le_iff {B n k : Nat} (hB : 1 < B) : dl B n ≤ k ↔ n < B ^ k := by
  constructor
  · intro h
    exact Nat.lt_of_lt_of_le (lt_pow_dl hB n) (Nat.pow_le_pow_right (by omega) h)
  · intro h
    by_cases hn : n = 0
    · subst hn; rw [dl_zero]; omega
    · have h1 := dl_pow_le hB (n := n) (by omega)
      have h2 : B ^ (dl B n - 1) < B ^ k := Nat.lt_of_le_of_lt h1 h
      have := (Nat.pow_lt_pow_iff_right (a := B) hB).1 h2
      omega
theorem dl_mono {B n m : Nat} (hB : 1 < B) (h : n ≤ m) : dl B n ≤ dl B m := (dl_le_iff hB).2 (Nat.lt_of_le_of_lt h (lt_pow_dl hB m))
theorem dl_add {B : Nat} (hB : 1 < B) (n m : Nat) : dl B (n + m) ≤ max (dl B n) (dl B m) + 1 := by
  refine (dl_le_iff hB).2 ?_
  have h1 : n < B ^ max (dl B n) (dl B m) := (dl_le_iff hB).1 (Nat.le_max_left _ _)
  have h2 : m < B ^ max (dl B n) (dl B m) := (dl_le_iff hB).1 (Nat.le_max_right _ _)
  rw [Nat.pow_succ]
  have : B ^ max (dl B n) (dl B m) * 2 ≤ B ^ max (dl B n) (dl B m) * B := Nat.mul_le_mul_left _ hB
  omega
theorem dl_mul {B : Nat} (hB : 1 < B) (n m : Nat) : dl B (n * m) ≤ dl B n + dl B m := by
  refine (dl_le_iff hB).2 ?_
  rw [Nat.pow_add]
  have h1 := lt_pow_dl hB n
  have h2 := lt_pow_dl hB m
  exact Nat.mul_lt_mul'' h1 h2
theorem dl_eq_zero {B n : Nat} (hB : 1 < B) : dl B n = 0 ↔ n = 0 := by
  constructor
  · intro h
    have := (dl_le_iff (n := n) (k := 0) hB).1 (by omega)
    simpa using this
  · rintro rfl; exact dl_zero B

theorem dl_div {B : Nat} (hB : 1 < B) (n : Nat) : dl B (n / B) = dl B n - 1 := by
  by_cases hn : n = 0
  · subst hn; simp [dl_zero]
  · rw [dl_pos hB (n := n) (Nat.pos_of_ne_zero hn)]; omega
theorem dl_div_pow {B : Nat} (hB : 1 < B) (n k : Nat) : dl B (n / B ^ k) = dl B n - k := by
  induction k with
  | zero => simp
  | succ k ih => rw [Nat.pow_succ, ← Nat.div_div_eq_div_mul, dl_div hB, ih]; omega
theorem dl_one {B n : Nat} (hB : 1 < B) (h : n < B) : dl B n = if n = 0 then 0 else 1 := by
  split
  · next h => subst h; exact dl_zero B
  · rw [dl_pos hB (by omega), Nat.div_eq_of_lt h, dl_zero]
theorem take_getD (l : List Nat) (k : Nat) (hk : k < l.length) : l.take (k + 1) = l.take k ++ [l.getD k 0] := by
  rw [List.take_succ_eq_append_getElem hk]
  simp [List.getD_eq_getElem?_getD, List.getElem?_eq_getElem hk]
theorem mod_pow_succ (B n k : Nat) : n % B ^ (k + 1) = n % B ^ k + B ^ k * (n / B ^ k % B) := by
  rw [Nat.pow_succ, Nat.mod_mul]

theorem div_pow_split (B n i : Nat) : n / B ^ i = n / B ^ (i + 1) * B + n / B ^ i % B := by
  rw [Nat.pow_succ, ← Nat.div_div_eq_div_mul]
  exact (Nat.div_add_mod' _ _).symm
/-- How two numbers stand whose upper digits are the same. -/
theorem cmp_step {B a b i : Nat} (h : a / B ^ (i + 1) = b / B ^ (i + 1)) :
    (a / B ^ i % B < b / B ^ i % B → a < b) ∧ (b / B ^ i % B < a / B ^ i % B → b < a) ∧ (a / B ^ i % B = b / B ^ i % B → a / B ^ i = b / B ^ i) := by
  have h1 := div_pow_split B a i
  have h2 := div_pow_split B b i
  rw [h] at h1
  refine ⟨fun k => ?_, fun k => ?_, fun k => by omega⟩
  · rcases Nat.lt_or_ge a b with h3 | h3
    · exact h3
    · have := Nat.div_le_div_right (c := B ^ i) h3; omega
  · rcases Nat.lt_or_ge b a with h3 | h3
    · exact h3
    · have := Nat.div_le_div_right (c := B ^ i) h3; omega
theorem dig_high {B n i : Nat} (hB : 1 < B) (h : dl B n ≤ i) : n / B ^ i = 0 := Nat.div_eq_of_lt ((dl_le_iff hB).1 h)
theorem dig_high_mod {B n i : Nat} (hB : 1 < B) (h : ¬ i < (dig B n).length) : n / B ^ i % B = 0 := by
  rw [dig_high hB (by unfold dl; omega)]; simp
/-- -1, 0 or 1. -/
def cmpI (a b : Nat) : Int := if a < b then -1 else if b < a then 1 else 0
end Va
/- All unfolding lemmas, as two conjunctions. -/
namespace Go.Avm
set_option linter.unusedVariables false
set_option linter.unusedSimpArgs false
set_option maxRecDepth 100000
universe u
/-- A call; what is behind it is not looked into. -/
inductive Tag {α : Sort u} (a : α) : Type where
  | mk
def ACallF (C : Ctx) (f : FuncId) (args : List AV) (s : St) (K : AV → St → Prop) (_ : Tag K) : Prop := ACall C f args s K
theorem v_call (C : Ctx) (f : FuncId) (args : List IA) (s : St) (K : AV → St → Prop) : aop C (.call f args) s K = ACallF C f (args.map (ev s.f)) s K .mk := rfl
theorem v_callv (C : Ctx) (f : FuncId) (cap args : List AV) (s : St) (K : AV → St → Prop) : callvP C (.fn f cap) args s K = (C.ent f ∧ ACallF C f (args ++ cap) s K .mk) := rfl
def FCallF (C : Ctx) (g : FuncId) (args : List AV) (K : AV → Prop) (_ : Tag K) : Prop := FrzL args ∧ ∃ v, C.pc g args v ∧ K v
theorem v_fcall (C : Ctx) (g : FuncId) (args : List IA) (f : List AV) (K : AV → Prop) : fop C (.call g args) f K = FCallF C g (args.map (ev f)) K .mk := rfl
theorem avmW :
  (∀ (C : Ctx) (K : St → Prop) (s : St), aops C K [] s = K s) ∧
  (∀ (C : Ctx) (K : St → Prop) (d : Option Nat) (op : IOp) (os : List IStep) (s : St), aops C K (⟨d, op, none⟩ :: os) s = aop C op s fun x s' => aops C K os ⟨put s'.f d x, s'.H⟩) ∧
  (∀ (C : Ctx) (K : St → Prop) (d : Option Nat) (op : IOp) (j : Nat) (b : Bool) (os : List IStep) (s : St), aops C K (⟨d, op, some (j, b)⟩ :: os) s = wantB b (s.f.getD j .junk) (aop C op s fun x s' => aops C K os ⟨put s'.f d x, s'.H⟩) (aops C K os ⟨put s.f d (.tup []), s.H⟩)) ∧
  (∀ (f : List AV) (x : AV), put f none x = f) ∧
  (∀ (f : List AV) (d : Nat) (x : AV), put f (some d) x = f.set d x) ∧
  (∀ (f : List AV) (i : Nat), ev f (.t i) = f.getD i .junk) ∧
  (∀ (f : List AV) (x : AV), ev f (.v x) = x) ∧
  (∀ (C : Ctx) (ops : List (IStep × Nat)) (K : Ex → St → Prop) (s : St), awp C (.regD ops) K s = dops C (K .normal) ops s) ∧
  (∀ (C : Ctx) (K : St → Prop) (s : St), dops C K [] s = K s) ∧
  (∀ (C : Ctx) (K : St → Prop) (d : Option Nat) (op : IOp) (os : List (IStep × Nat)) (s : St), dops C K ((⟨d, op, none⟩, 0) :: os) s = (fop C op s.f fun x => dops C K os ⟨put s.f d x, s.H⟩)) ∧
  (∀ (C : Ctx) (K : St → Prop) (d : Option Nat) (op : IOp) (j : Nat) (b : Bool) (os : List (IStep × Nat)) (s : St), dops C K ((⟨d, op, some (j, b)⟩, 0) :: os) s = wantB b (s.f.getD j .junk) (fop C op s.f fun x => dops C K os ⟨put s.f d x, s.H⟩) (dops C K os ⟨put s.f d (.tup []), s.H⟩)) ∧
  (∀ (C : Ctx) (K : St → Prop) (d : Option Nat) (op : IOp) (os : List (IStep × Nat)) (s : St), dops C K ((⟨d, op, none⟩, 1) :: os) s = (rop op s.f s.H fun x => dops C K os ⟨put s.f d x, s.H⟩)) ∧
  (∀ (C : Ctx) (K : St → Prop) (d : Option Nat) (op : IOp) (j : Nat) (b : Bool) (os : List (IStep × Nat)) (s : St), dops C K ((⟨d, op, some (j, b)⟩, 1) :: os) s = wantB b (s.f.getD j .junk) (rop op s.f s.H fun x => dops C K os ⟨put s.f d x, s.H⟩) (dops C K os ⟨put s.f d (.tup []), s.H⟩)) ∧
  (∀ (C : Ctx) (K : St → Prop) (d : Option Nat) (op : IOp) (os : List (IStep × Nat)) (s : St), dops C K ((⟨d, op, none⟩, 2) :: os) s = (wop C op s.f s.H fun x k H => dops C K os ⟨put (killF k s.f) d x, H⟩)) ∧
  (∀ (C : Ctx) (K : St → Prop) (d : Option Nat) (op : IOp) (j : Nat) (b : Bool) (os : List (IStep × Nat)) (s : St), dops C K ((⟨d, op, some (j, b)⟩, 2) :: os) s = wantB b (s.f.getD j .junk) (wop C op s.f s.H fun x k H => dops C K os ⟨put (killF k s.f) d x, H⟩) (dops C K os ⟨put s.f d (.tup []), s.H⟩)) ∧
  (∀ (C : Ctx) (K : St → Prop) (d : Option Nat) (op : IOp) (os : List (IStep × Nat)) (s : St), dops C K ((⟨d, op, none⟩, 3) :: os) s = (wop C op s.f s.H fun x k H => dops C K os ⟨put (killF k s.f) d x, H⟩)) ∧
  (∀ (C : Ctx) (K : St → Prop) (d : Option Nat) (op : IOp) (j : Nat) (b : Bool) (os : List (IStep × Nat)) (s : St), dops C K ((⟨d, op, some (j, b)⟩, 3) :: os) s = wantB b (s.f.getD j .junk) (wop C op s.f s.H fun x k H => dops C K os ⟨put (killF k s.f) d x, H⟩) (dops C K os ⟨put s.f d (.tup []), s.H⟩)) ∧
  (∀ (f : List AV), killF none f = f) ∧
  (∀ (f : List AV) (i : Nat), killF (some i) f = killL i f) ∧
  (∀ (x : IA) (f : List AV) (H : List AObj) (K : AV → Prop), rop (.mov x) f H K = (K (ev f x))) ∧
  (∀ (c a b : IA) (f : List AV) (H : List AObj) (K : AV → Prop), rop (.pick c a b) f H K = (pickP (ev f c) (ev f a) (ev f b) K)) ∧
  (∀ (op : BinOp) (x y : IA) (f : List AV) (H : List AObj) (K : AV → Prop), rop (.bin op x y) f H K = (binP op (ev f x) (ev f y) K)) ∧
  (∀ (n : Bool) (x y : IA) (f : List AV) (H : List AObj) (K : AV → Prop), rop (.eqb n x y) f H K = (eqbP n (ev f x) (ev f y) K)) ∧
  (∀ (n : Bool) (x : IA) (f : List AV) (H : List AObj) (K : AV → Prop), rop (.eqpn n x) f H K = (eqpnP H n (ev f x) K)) ∧
  (∀ (n : Bool) (x : IA) (f : List AV) (H : List AObj) (K : AV → Prop), rop (.eqsn n x) f H K = (eqsnP H n (ev f x) K)) ∧
  (∀ (x : IA) (f : List AV) (H : List AObj) (K : AV → Prop), rop (.not x) f H K = (notP (ev f x) K)) ∧
  (∀ (x : IA) (f : List AV) (H : List AObj) (K : AV → Prop), rop (.neg x) f H K = (negP (ev f x) K)) ∧
  (∀ (k : IntKind) (x : IA) (f : List AV) (H : List AObj) (K : AV → Prop), rop (.conv k x) f H K = (convP k (ev f x) K)) ∧
  (∀ (x : IA) (f : List AV) (H : List AObj) (K : AV → Prop), rop (.nilck x) f H K = (nilckP H (ev f x) K)) ∧
  (∀ (n : Nat) (x : IA) (f : List AV) (H : List AObj) (K : AV → Prop), rop (.fld n x) f H K = (fldP H n (ev f x) K)) ∧
  (∀ (n : Nat) (x i : IA) (f : List AV) (H : List AObj) (K : AV → Prop), rop (.idxA n x i) f H K = (idxAP H n (ev f x) (ev f i) K)) ∧
  (∀ (m n : Nat) (x i : IA) (f : List AV) (H : List AObj) (K : AV → Prop), rop (.idxP m n x i) f H K = (idxPP H m n (ev f x) (ev f i) K)) ∧
  (∀ (x i : IA) (f : List AV) (H : List AObj) (K : AV → Prop), rop (.idxS x i) f H K = (idxSP (ev f x) (ev f i) K)) ∧
  (∀ (n : Option Nat) (x : IA) (f : List AV) (H : List AObj) (K : AV → Prop), rop (.load n x) f H K = (loadP H n (ev f x) K)) ∧
  (∀ (x : IA) (f : List AV) (H : List AObj) (K : AV → Prop), rop (.len x) f H K = (lenQ H (ev f x) K)) ∧
  (∀ (x : IA) (f : List AV) (H : List AObj) (K : AV → Prop), rop (.lenS x) f H K = (lenSP (ev f x) K)) ∧
  (∀ (x y : IA) (f : List AV) (H : List AObj) (K : AV → Prop), rop (.max x y) f H K = (maxP (ev f x) (ev f y) K)) ∧
  (∀ (x y : IA) (f : List AV) (H : List AObj) (K : AV → Prop), rop (.min x y) f H K = (minP (ev f x) (ev f y) K)) ∧
  (∀ (n : Nat) (x : IA) (lo hi : Option IA) (f : List AV) (H : List AObj) (K : AV → Prop), rop (.slc n x lo hi) f H K = (slcP H n (ev f x) (lo.map (ev f)) (hi.map (ev f)) K)) ∧
  (∀ (x : IA) (lo hi : Option IA) (f : List AV) (H : List AObj) (K : AV → Prop), rop (.slcS x lo hi) f H K = (slcSP (ev f x) (lo.map (ev f)) (hi.map (ev f)) K)) ∧
  (∀ (x : IA) (i : Nat) (f : List AV) (H : List AObj) (K : AV → Prop), rop (.ext x i) f H K = (extP (ev f x) i K)) ∧
  (∀ (zero : List AV) (parts : List (Nat × Nat × IA)) (f : List AV) (H : List AObj) (K : AV → Prop), rop (.build zero parts) f H K = ((fillOk H zero.length (evP f parts) ∧ K (.agg (fillP zero (evP f parts)))))) ∧
  (∀ (f0 : FuncId) (cap : List IA) (f : List AV) (H : List AObj) (K : AV → Prop), rop (.mkfn f0 cap) f H K = (K (.fn f0 (cap.map (ev f))))) ∧
  (∀ (x : IA) (f : List AV) (H : List AObj) (K : AV → Prop), rop (.b2s x) f H K = (b2sP H (ev f x) K)) ∧
  (∀ (n : Bool) (x : IA) (f : List AV) (H : List AObj) (K : AV → Prop), rop (.eqin n x) f H K = (eqinP n (ev f x) K)) ∧
  (∀ (zero : AV) (x k : IA) (f : List AV) (H : List AObj) (K : AV → Prop), rop (.lkup zero x k) f H K = (lkupP H zero (ev f x) (ev f k) K)) ∧
  (∀ (C : Ctx) (op : BinOp) (x y : IA) (f : List AV) (K : AV → Prop), fop C (.bin op x y) f K = (FrzL [ev f x, ev f y] ∧ binP op (ev f x) (ev f y) K)) ∧
  (∀ (C : Ctx) (n : Bool) (x y : IA) (f : List AV) (K : AV → Prop), fop C (.eqb n x y) f K = (FrzL [ev f x, ev f y] ∧ eqbP n (ev f x) (ev f y) K)) ∧
  (∀ (C : Ctx) (n : Bool) (x : IA) (f : List AV) (K : AV → Prop), fop C (.eqpn n x) f K = (FrzL [ev f x] ∧ eqpnP [] n (ev f x) K)) ∧
  (∀ (C : Ctx) (n : Bool) (x : IA) (f : List AV) (K : AV → Prop), fop C (.eqsn n x) f K = (FrzL [ev f x] ∧ eqsnP [] n (ev f x) K)) ∧
  (∀ (C : Ctx) (x : IA) (f : List AV) (K : AV → Prop), fop C (.not x) f K = (FrzL [ev f x] ∧ notP (ev f x) K)) ∧
  (∀ (C : Ctx) (x : IA) (f : List AV) (K : AV → Prop), fop C (.neg x) f K = (FrzL [ev f x] ∧ negP (ev f x) K)) ∧
  (∀ (C : Ctx) (k : IntKind) (x : IA) (f : List AV) (K : AV → Prop), fop C (.conv k x) f K = (FrzL [ev f x] ∧ convP k (ev f x) K)) ∧
  (∀ (C : Ctx) (x : IA) (f : List AV) (K : AV → Prop), fop C (.nilck x) f K = (FrzL [ev f x] ∧ nilckP [] (ev f x) K)) ∧
  (∀ (C : Ctx) (n : Nat) (x : IA) (f : List AV) (K : AV → Prop), fop C (.fld n x) f K = (FrzL [ev f x] ∧ fldP [] n (ev f x) K)) ∧
  (∀ (C : Ctx) (n : Nat) (x i : IA) (f : List AV) (K : AV → Prop), fop C (.idxA n x i) f K = (FrzL [ev f x, ev f i] ∧ idxAP [] n (ev f x) (ev f i) K)) ∧
  (∀ (C : Ctx) (m n : Nat) (x i : IA) (f : List AV) (K : AV → Prop), fop C (.idxP m n x i) f K = (FrzL [ev f x, ev f i] ∧ idxPP [] m n (ev f x) (ev f i) K)) ∧
  (∀ (C : Ctx) (x i : IA) (f : List AV) (K : AV → Prop), fop C (.idxS x i) f K = (FrzL [ev f x, ev f i] ∧ idxSP (ev f x) (ev f i) K)) ∧
  (∀ (C : Ctx) (n : Option Nat) (x : IA) (f : List AV) (K : AV → Prop), fop C (.load n x) f K = (FrzL [ev f x] ∧ loadP [] n (ev f x) K)) ∧
  (∀ (C : Ctx) (x : IA) (f : List AV) (K : AV → Prop), fop C (.len x) f K = (FrzL [ev f x] ∧ lenQ [] (ev f x) K)) ∧
  (∀ (C : Ctx) (x : IA) (f : List AV) (K : AV → Prop), fop C (.lenS x) f K = (FrzL [ev f x] ∧ lenSP (ev f x) K)) ∧
  (∀ (C : Ctx) (x y : IA) (f : List AV) (K : AV → Prop), fop C (.max x y) f K = (FrzL [ev f x, ev f y] ∧ maxP (ev f x) (ev f y) K)) ∧
  (∀ (C : Ctx) (x y : IA) (f : List AV) (K : AV → Prop), fop C (.min x y) f K = (FrzL [ev f x, ev f y] ∧ minP (ev f x) (ev f y) K)) ∧
  (∀ (C : Ctx) (n : Nat) (x : IA) (lo hi : Option IA) (f : List AV) (K : AV → Prop), fop C (.slc n x lo hi) f K = (FrzL [ev f x] ∧ slcP [] n (ev f x) (lo.map (ev f)) (hi.map (ev f)) K)) ∧
  (∀ (C : Ctx) (x : IA) (lo hi : Option IA) (f : List AV) (K : AV → Prop), fop C (.slcS x lo hi) f K = (FrzL [ev f x] ∧ slcSP (ev f x) (lo.map (ev f)) (hi.map (ev f)) K)) ∧
  (∀ (C : Ctx) (x : IA) (i : Nat) (f : List AV) (K : AV → Prop), fop C (.ext x i) f K = (FrzL [ev f x] ∧ extP (ev f x) i K)) ∧
  (∀ (C : Ctx) (zero : List AV) (parts : List (Nat × Nat × IA)) (f : List AV) (K : AV → Prop), fop C (.build zero parts) f K = (FrzL (zero ++ (evP f parts).map fun p => p.2.2) ∧ (fillOk [] zero.length (evP f parts) ∧ K (.agg (fillP zero (evP f parts)))))) ∧
  (∀ (C : Ctx) (x : IA) (f : List AV) (K : AV → Prop), fop C (.b2s x) f K = (FrzL [ev f x] ∧ b2sP [] (ev f x) K)) ∧
  (∀ (C : Ctx) (n : Bool) (x : IA) (f : List AV) (K : AV → Prop), fop C (.eqin n x) f K = (FrzL [ev f x] ∧ eqinP n (ev f x) K)) ∧
  (∀ (C : Ctx) (x : IA) (f : List AV) (K : AV → Prop), fop C (.mov x) f K = (okC x ∧ K (ev f x))) ∧
  (∀ (C : Ctx) (c a b : IA) (f : List AV) (K : AV → Prop), fop C (.pick c a b) f K = ((okC a ∧ okC b) ∧ pickP (ev f c) (ev f a) (ev f b) K)) ∧
  (∀ (C : Ctx) (t sz len : Nat) (zero : List AV) (parts : List (Nat × Nat × IA)) (f : List AV) (K : AV → Prop), fop C (.bslice t sz len zero parts) f K = ((FrzL zero ∧ FrzL ((evP f parts).map fun p => p.2.2)) ∧ fillOk [] (len * sz) (evP f parts) ∧ K (.sl len (fillP (reps len zero) (evP f parts))))) ∧
  (∀ (C : Ctx) (g : IA) (args : List IA) (f : List AV) (K : AV → Prop), fop C (.callv g args) f K = fcallvP C (ev f g) (args.map (ev f)) K) ∧
  (∀ (i : Nat), okC (.t i) = True) ∧
  (∀ (x : AV), okC (.v x) = Frz x) ∧
  (∀ (C : Ctx) (n : Nat) (x v : IA) (f : List AV) (H : List AObj) (K : AV → Option Nat → List AObj → Prop), wop C (.store n x v) f H K = (storeP H n (ev f x) (ev f v) fun H => K (.tup []) none H)) ∧
  (∀ (C : Ctx) (t : TypeId) (zero : List AV) (f : List AV) (H : List AObj) (K : AV → Option Nat → List AObj → Prop), wop C (.alloc t zero) f H K = K (.own H.length 0) none (H ++ [.arr t zero.length false zero])) ∧
  (∀ (C : Ctx) (t sz : Nat) (x : IA) (f : List AV) (H : List AObj) (K : AV → Option Nat → List AObj → Prop), wop C (.box t sz x) f H K = (((cellsOf (ev f x)).length = sz ∧ 0 < sz ∧ OneL H (cellsOf (ev f x))) ∧ K (.own H.length 0) none (H ++ [.arr t sz false (cellsOf (ev f x))]))) ∧
  (∀ (C : Ctx) (t sz bytes : Nat) (zero : List AV) (l c : IA) (f : List AV) (H : List AObj) (K : AV → Option Nat → List AObj → Prop), wop C (.mk t sz bytes zero l c) f H K = wmkP H t sz bytes zero (ev f l) (ev f c) K) ∧
  (∀ (C : Ctx) (t sz bytes : Nat) (b x : IA) (f : List AV) (H : List AObj) (K : AV → Option Nat → List AObj → Prop), wop C (.app t sz bytes b x) f H K = wappP C H t sz bytes (ev f b) (ev f x) K) ∧
  (∀ (C : Ctx) (g : FuncId) (args : List IA) (f : List AV) (H : List AObj) (K : AV → Option Nat → List AObj → Prop), wop C (.call g args) f H K = (C.call g (args.map (ev f)) H fun x H => K x none H)) ∧
  (∀ (C : Ctx) (x : IA) (s : St) (K : AV → St → Prop), aop C (.mov x) s K = K (ev s.f x) s) ∧
  (∀ (C : Ctx) (c a b : IA) (s : St) (K : AV → St → Prop), aop C (.pick c a b) s K = pickP (ev s.f c) (ev s.f a) (ev s.f b) (K · s)) ∧
  (∀ (C : Ctx) (op : BinOp) (x y : IA) (s : St) (K : AV → St → Prop), aop C (.bin op x y) s K = binP op (ev s.f x) (ev s.f y) (K · s)) ∧
  (∀ (C : Ctx) (n : Bool) (x y : IA) (s : St) (K : AV → St → Prop), aop C (.eqb n x y) s K = eqbP n (ev s.f x) (ev s.f y) (K · s)) ∧
  (∀ (C : Ctx) (n : Bool) (x : IA) (s : St) (K : AV → St → Prop), aop C (.eqpn n x) s K = eqpnP s.H n (ev s.f x) (K · s)) ∧
  (∀ (C : Ctx) (n : Bool) (x : IA) (s : St) (K : AV → St → Prop), aop C (.eqsn n x) s K = eqsnP s.H n (ev s.f x) (K · s)) ∧
  (∀ (C : Ctx) (x : IA) (s : St) (K : AV → St → Prop), aop C (.not x) s K = notP (ev s.f x) (K · s)) ∧
  (∀ (C : Ctx) (x : IA) (s : St) (K : AV → St → Prop), aop C (.neg x) s K = negP (ev s.f x) (K · s)) ∧
  (∀ (C : Ctx) (k : IntKind) (x : IA) (s : St) (K : AV → St → Prop), aop C (.conv k x) s K = convP k (ev s.f x) (K · s)) ∧
  (∀ (C : Ctx) (x : IA) (s : St) (K : AV → St → Prop), aop C (.nilck x) s K = nilckP s.H (ev s.f x) (K · s)) ∧
  (∀ (C : Ctx) (n : Nat) (x : IA) (s : St) (K : AV → St → Prop), aop C (.fld n x) s K = fldP s.H n (ev s.f x) (K · s)) ∧
  (∀ (C : Ctx) (n : Nat) (x i : IA) (s : St) (K : AV → St → Prop), aop C (.idxA n x i) s K = idxAP s.H n (ev s.f x) (ev s.f i) (K · s)) ∧
  (∀ (C : Ctx) (m n : Nat) (x i : IA) (s : St) (K : AV → St → Prop), aop C (.idxP m n x i) s K = idxPP s.H m n (ev s.f x) (ev s.f i) (K · s)) ∧
  (∀ (C : Ctx) (x i : IA) (s : St) (K : AV → St → Prop), aop C (.idxS x i) s K = idxSP (ev s.f x) (ev s.f i) (K · s)) ∧
  (∀ (C : Ctx) (n : Option Nat) (x : IA) (s : St) (K : AV → St → Prop), aop C (.load n x) s K = loadP s.H n (ev s.f x) (K · s)) ∧
  (∀ (C : Ctx) (n : Nat) (x v : IA) (s : St) (K : AV → St → Prop), aop C (.store n x v) s K = storeP s.H n (ev s.f x) (ev s.f v) fun H => K (.tup []) ⟨s.f, H⟩) ∧
  (∀ (C : Ctx) (x : IA) (s : St) (K : AV → St → Prop), aop C (.len x) s K = lenP s.H (ev s.f x) (K · s)) ∧
  (∀ (C : Ctx) (x : IA) (s : St) (K : AV → St → Prop), aop C (.lenS x) s K = lenSP (ev s.f x) (K · s)) ∧
  (∀ (C : Ctx) (x y : IA) (s : St) (K : AV → St → Prop), aop C (.max x y) s K = maxP (ev s.f x) (ev s.f y) (K · s)) ∧
  (∀ (C : Ctx) (x y : IA) (s : St) (K : AV → St → Prop), aop C (.min x y) s K = minP (ev s.f x) (ev s.f y) (K · s)) ∧
  (∀ (C : Ctx) (n : Nat) (x : IA) (lo hi : Option IA) (s : St) (K : AV → St → Prop), aop C (.slc n x lo hi) s K = slcP s.H n (ev s.f x) (lo.map (ev s.f)) (hi.map (ev s.f)) (K · s)) ∧
  (∀ (C : Ctx) (x : IA) (lo hi : Option IA) (s : St) (K : AV → St → Prop), aop C (.slcS x lo hi) s K = slcSP (ev s.f x) (lo.map (ev s.f)) (hi.map (ev s.f)) (K · s)) ∧
  (∀ (C : Ctx) (x : IA) (i : Nat) (s : St) (K : AV → St → Prop), aop C (.ext x i) s K = extP (ev s.f x) i (K · s)) ∧
  (∀ (C : Ctx) (t : TypeId) (zero : List AV) (s : St) (K : AV → St → Prop), aop C (.alloc t zero) s K = K (.own s.H.length 0) ⟨s.f, s.H ++ [.arr t zero.length false zero]⟩) ∧
  (∀ (C : Ctx) (t : TypeId) (sz : Nat) (x : IA) (s : St) (K : AV → St → Prop), aop C (.box t sz x) s K = (((cellsOf (ev s.f x)).length = sz ∧ 0 < sz ∧ OneL s.H (cellsOf (ev s.f x))) ∧ K (.own s.H.length 0) ⟨s.f, s.H ++ [.arr t sz false (cellsOf (ev s.f x))]⟩)) ∧
  (∀ (C : Ctx) (zero : List AV) (parts : List (Nat × Nat × IA)) (s : St) (K : AV → St → Prop), aop C (.build zero parts) s K = (fillOk s.H zero.length (evP s.f parts) ∧ K (.agg (fillP zero (evP s.f parts))) s)) ∧
  (∀ (C : Ctx) (t : TypeId) (sz len : Nat) (zero : List AV) (parts : List (Nat × Nat × IA)) (s : St) (K : AV → St → Prop), aop C (.bslice t sz len zero parts) s K = (fillOk s.H (len * sz) (evP s.f parts) ∧ K (.osl s.H.length 0 len) ⟨s.f, s.H ++ [.arr t sz false (fillP (reps len zero) (evP s.f parts))]⟩)) ∧
  (∀ (C : Ctx) (t : TypeId) (sz bytes : Nat) (zero : List AV) (l c : IA) (s : St) (K : AV → St → Prop), aop C (.mk t sz bytes zero l c) s K = mkP s t sz bytes zero (ev s.f l) (ev s.f c) K) ∧
  (∀ (C : Ctx) (t : TypeId) (sz bytes : Nat) (b x : IA) (s : St) (K : AV → St → Prop), aop C (.app t sz bytes b x) s K = appP C.n0 s t sz bytes (ev s.f b) (ev s.f x) K) ∧
  (∀ (C : Ctx) (g : IA) (args : List IA) (s : St) (K : AV → St → Prop), aop C (.callv g args) s K = callvP C (ev s.f g) (args.map (ev s.f)) s K) ∧
  (∀ (C : Ctx) (f : FuncId) (cap : List IA) (s : St) (K : AV → St → Prop), aop C (.mkfn f cap) s K = K (.fn f (cap.map (ev s.f))) s) ∧
  (∀ (C : Ctx) (x : IA) (s : St) (K : AV → St → Prop), aop C (.b2s x) s K = b2sP s.H (ev s.f x) (K · s)) ∧
  (∀ (C : Ctx) (n : Bool) (x : IA) (s : St) (K : AV → St → Prop), aop C (.eqin n x) s K = eqinP n (ev s.f x) (K · s)) ∧
  (∀ (C : Ctx) (k : IntKind) (s : St) (K : AV → St → Prop), aop C (.mkmap k) s K = K (.mref s.H.length) ⟨s.f, s.H ++ [.mp k []]⟩) ∧
  (∀ (C : Ctx) (zero : AV) (x k : IA) (s : St) (K : AV → St → Prop), aop C (.lkup zero x k) s K = lkupP s.H zero (ev s.f x) (ev s.f k) (K · s)) ∧
  (∀ (C : Ctx) (x k v : IA) (s : St) (K : AV → St → Prop), aop C (.mapup x k v) s K = mapupP s.H (ev s.f x) (ev s.f k) (ev s.f v) fun H => K (.tup []) ⟨s.f, H⟩) ∧
  (∀ (C : Ctx) (K : Ex → St → Prop) (s : St), awp C .skip K s = K .normal s) ∧
  (∀ (C : Ctx) (ops : List IStep) (K : Ex → St → Prop) (s : St), awp C (.reg ops) K s = aops C (K .normal) ops s) ∧
  (∀ (C : Ctx) (a b : IC) (K : Ex → St → Prop) (s : St), awp C (.seq a b) K s = awp C a (exSeq (awp C b K) K) s) ∧
  (∀ (C : Ctx) (c : IA) (a b : IC) (K : Ex → St → Prop) (s : St), awp C (.cond c a b) K s = condP (ev s.f c) (awp C a K s) (awp C b K s)) ∧
  (∀ (C : Ctx) (i : Nat) (b : IC) (K : Ex → St → Prop) (s : St), awp C (.block i b) K s = awp C b (exBlock i K) s) ∧
  (∀ (C : Ctx) (i : Nat) (K : Ex → St → Prop) (s : St), awp C (.exit i) K s = K (.exit i) s) ∧
  (∀ (C : Ctx) (K : Ex → St → Prop) (s : St), awp C .ret K s = K .ret s) ∧
  (∀ (N : St → Prop) (K : Ex → St → Prop) (s : St), exSeq N K .normal s = N s) ∧
  (∀ (N : St → Prop) (K : Ex → St → Prop) (i : Nat) (s : St), exSeq N K (.exit i) s = K (.exit i) s) ∧
  (∀ (N : St → Prop) (K : Ex → St → Prop) (s : St), exSeq N K .ret s = K .ret s) ∧
  (∀ (i : Nat) (K : Ex → St → Prop) (s : St), exBlock i K .normal s = K .normal s) ∧
  (∀ (i j : Nat) (K : Ex → St → Prop) (s : St), exBlock i K (.exit j) s = if j = i then K .normal s else K (.exit j) s) ∧
  (∀ (i : Nat) (K : Ex → St → Prop) (s : St), exBlock i K .ret s = K .ret s) ∧
  (∀ (C : Ctx) (g : FuncId) (args : List IA) (f : List AV) (K : AV → Prop), fop C (.call g args) f K = FCallF C g (args.map (ev f)) K .mk) ∧
  (∀ (C : Ctx) (f : FuncId) (args : List IA) (s : St) (K : AV → St → Prop), aop C (.call f args) s K = ACallF C f (args.map (ev s.f)) s K .mk) :=
  ⟨by intros; first | rfl | simp only [w_nil],
   by intros; first | rfl | simp only [w_cons],
   by intros; first | rfl | simp only [w_consG],
   by intros; first | rfl | simp only [w_put0],
   by intros; first | rfl | simp only [w_put1],
   by intros; first | rfl | simp only [w_evt],
   by intros; first | rfl | simp only [w_evv],
   by intros; first | rfl | simp only [w_regD],
   by intros; first | rfl | simp only [w_dnil],
   by intros; first | rfl | simp only [w_d0],
   by intros; first | rfl | simp only [w_d0G],
   by intros; first | rfl | simp only [w_d1],
   by intros; first | rfl | simp only [w_d1G],
   by intros; first | rfl | simp only [w_d2],
   by intros; first | rfl | simp only [w_d2G],
   by intros; first | rfl | simp only [w_d3],
   by intros; first | rfl | simp only [w_d3G],
   by intros; first | rfl | simp only [w_killF0],
   by intros; first | rfl | simp only [w_killF1],
   by intros; first | rfl | simp only [w_r_mov],
   by intros; first | rfl | simp only [w_r_pick],
   by intros; first | rfl | simp only [w_r_bin],
   by intros; first | rfl | simp only [w_r_eqb],
   by intros; first | rfl | simp only [w_r_eqpn],
   by intros; first | rfl | simp only [w_r_eqsn],
   by intros; first | rfl | simp only [w_r_not],
   by intros; first | rfl | simp only [w_r_neg],
   by intros; first | rfl | simp only [w_r_conv],
   by intros; first | rfl | simp only [w_r_nilck],
   by intros; first | rfl | simp only [w_r_fld],
   by intros; first | rfl | simp only [w_r_idxA],
   by intros; first | rfl | simp only [w_r_idxP],
   by intros; first | rfl | simp only [w_r_idxS],
   by intros; first | rfl | simp only [w_r_load],
   by intros; first | rfl | simp only [w_r_len],
   by intros; first | rfl | simp only [w_r_lenS],
   by intros; first | rfl | simp only [w_r_max],
   by intros; first | rfl | simp only [w_r_min],
   by intros; first | rfl | simp only [w_r_slc],
   by intros; first | rfl | simp only [w_r_slcS],
   by intros; first | rfl | simp only [w_r_ext],
   by intros; first | rfl | simp only [w_r_build],
   by intros; first | rfl | simp only [w_r_mkfn],
   by intros; first | rfl | simp only [w_r_b2s],
   by intros; first | rfl | simp only [w_r_eqin],
   by intros; first | rfl | simp only [w_r_lkup],
   by intros; first | rfl | simp only [w_f_bin],
   by intros; first | rfl | simp only [w_f_eqb],
   by intros; first | rfl | simp only [w_f_eqpn],
   by intros; first | rfl | simp only [w_f_eqsn],
   by intros; first | rfl | simp only [w_f_not],
   by intros; first | rfl | simp only [w_f_neg],
   by intros; first | rfl | simp only [w_f_conv],
   by intros; first | rfl | simp only [w_f_nilck],
   by intros; first | rfl | simp only [w_f_fld],
   by intros; first | rfl | simp only [w_f_idxA],
   by intros; first | rfl | simp only [w_f_idxP],
   by intros; first | rfl | simp only [w_f_idxS],
   by intros; first | rfl | simp only [w_f_load],
   by intros; first | rfl | simp only [w_f_len],
   by intros; first | rfl | simp only [w_f_lenS],
   by intros; first | rfl | simp only [w_f_max],
   by intros; first | rfl | simp only [w_f_min],
   by intros; first | rfl | simp only [w_f_slc],
   by intros; first | rfl | simp only [w_f_slcS],
   by intros; first | rfl | simp only [w_f_ext],
   by intros; first | rfl | simp only [w_f_build],
   by intros; first | rfl | simp only [w_f_b2s],
   by intros; first | rfl | simp only [w_f_eqin],
   by intros; first | rfl | simp only [w_f_mov],
   by intros; first | rfl | simp only [w_f_pick],
   by intros; first | rfl | simp only [w_f_bslice],
   by intros; first | rfl | simp only [w_f_callv],
   by intros; first | rfl | simp only [w_okt],
   by intros; first | rfl | simp only [w_okv],
   by intros; first | rfl | simp only [w_w_store],
   by intros; first | rfl | simp only [w_w_alloc],
   by intros; first | rfl | simp only [w_w_box],
   by intros; first | rfl | simp only [w_w_mk],
   by intros; first | rfl | simp only [w_w_app],
   by intros; first | rfl | simp only [w_w_call],
   by intros; first | rfl | simp only [w_mov],
   by intros; first | rfl | simp only [w_pick],
   by intros; first | rfl | simp only [w_bin],
   by intros; first | rfl | simp only [w_eqb],
   by intros; first | rfl | simp only [w_eqpn],
   by intros; first | rfl | simp only [w_eqsn],
   by intros; first | rfl | simp only [w_not],
   by intros; first | rfl | simp only [w_neg],
   by intros; first | rfl | simp only [w_conv],
   by intros; first | rfl | simp only [w_nilck],
   by intros; first | rfl | simp only [w_fld],
   by intros; first | rfl | simp only [w_idxA],
   by intros; first | rfl | simp only [w_idxP],
   by intros; first | rfl | simp only [w_idxS],
   by intros; first | rfl | simp only [w_load],
   by intros; first | rfl | simp only [w_store],
   by intros; first | rfl | simp only [w_len],
   by intros; first | rfl | simp only [w_lenS],
   by intros; first | rfl | simp only [w_max],
   by intros; first | rfl | simp only [w_min],
   by intros; first | rfl | simp only [w_slc],
   by intros; first | rfl | simp only [w_slcS],
   by intros; first | rfl | simp only [w_ext],
   by intros; first | rfl | simp only [w_alloc],
   by intros; first | rfl | simp only [w_box],
   by intros; first | rfl | simp only [w_build],
   by intros; first | rfl | simp only [w_bslice],
   by intros; first | rfl | simp only [w_mk],
   by intros; first | rfl | simp only [w_app],
   by intros; first | rfl | simp only [w_callv],
   by intros; first | rfl | simp only [w_mkfn],
   by intros; first | rfl | simp only [w_b2s],
   by intros; first | rfl | simp only [w_eqin],
   by intros; first | rfl | simp only [w_mkmap],
   by intros; first | rfl | simp only [w_lkup],
   by intros; first | rfl | simp only [w_mapup],
   by intros; first | rfl | simp only [w_skip],
   by intros; first | rfl | simp only [w_reg],
   by intros; first | rfl | simp only [w_seq],
   by intros; first | rfl | simp only [w_cond],
   by intros; first | rfl | simp only [w_block],
   by intros; first | rfl | simp only [w_exit],
   by intros; first | rfl | simp only [w_ret],
   by intros; first | rfl | simp only [w_exSeqN],
   by intros; first | rfl | simp only [w_exSeqE],
   by intros; first | rfl | simp only [w_exSeqR],
   by intros; first | rfl | simp only [w_exBlockN],
   by intros; first | rfl | simp only [w_exBlockE],
   by intros; first | rfl | simp only [w_exBlockR],
   by intros; first | rfl | simp only [v_fcall],
   by intros; first | rfl | simp only [v_call]⟩
theorem avmD :
  (∀ (k : IntKind) (a b : Int) (K : AV → Prop), binP .add (.int k a) (.int k b) K = K (.int k (k.wrap (a + b)))) ∧
  (∀ (k : IntKind) (a b : Int) (K : AV → Prop), binP .sub (.int k a) (.int k b) K = K (.int k (k.wrap (a - b)))) ∧
  (∀ (k : IntKind) (a b : Int) (K : AV → Prop), binP .mul (.int k a) (.int k b) K = K (.int k (k.wrap (a * b)))) ∧
  (∀ (k : IntKind) (a b : Int) (K : AV → Prop), binP .and (.int k a) (.int k b) K = K (.int k (k.wrap (BitVec.ofInt k.bits a &&& BitVec.ofInt k.bits b).toNat))) ∧
  (∀ (k : IntKind) (a b : Int) (K : AV → Prop), binP .or (.int k a) (.int k b) K = K (.int k (k.wrap (BitVec.ofInt k.bits a ||| BitVec.ofInt k.bits b).toNat))) ∧
  (∀ (k : IntKind) (a b : Int) (K : AV → Prop), binP .xor (.int k a) (.int k b) K = K (.int k (k.wrap (BitVec.ofInt k.bits a ^^^ BitVec.ofInt k.bits b).toNat))) ∧
  (∀ (k : IntKind) (a b : Int) (K : AV → Prop), binP .quo (.int k a) (.int k b) K = (b ≠ 0 ∧ K (.int k (k.wrap (a.tdiv b))))) ∧
  (∀ (k : IntKind) (a b : Int) (K : AV → Prop), binP .rem (.int k a) (.int k b) K = (b ≠ 0 ∧ K (.int k (a.tmod b)))) ∧
  (∀ (k : IntKind) (a b : Int) (K : AV → Prop), binP .eql (.int k a) (.int k b) K = K (.bool (decide (a = b)))) ∧
  (∀ (k : IntKind) (a b : Int) (K : AV → Prop), binP .neq (.int k a) (.int k b) K = K (.bool (decide (a ≠ b)))) ∧
  (∀ (k : IntKind) (a b : Int) (K : AV → Prop), binP .lss (.int k a) (.int k b) K = K (.bool (decide (a < b)))) ∧
  (∀ (k : IntKind) (a b : Int) (K : AV → Prop), binP .leq (.int k a) (.int k b) K = K (.bool (decide (a ≤ b)))) ∧
  (∀ (k : IntKind) (a b : Int) (K : AV → Prop), binP .gtr (.int k a) (.int k b) K = K (.bool (decide (b < a)))) ∧
  (∀ (k : IntKind) (a b : Int) (K : AV → Prop), binP .geq (.int k a) (.int k b) K = K (.bool (decide (b ≤ a)))) ∧
  (∀ (k k' : IntKind) (a b : Int) (K : AV → Prop), binP .shl (.int k a) (.int k' b) K = (0 ≤ b ∧ K (.int k (k.wrap (a * 2 ^ (min b.toNat k.bits)))))) ∧
  (∀ (k k' : IntKind) (a b : Int) (K : AV → Prop), binP .shr (.int k a) (.int k' b) K = (0 ≤ b ∧ K (.int k (a.fdiv (2 ^ (min b.toNat k.bits)))))) ∧
  (∀ (a b : List UInt8) (K : AV → Prop), binP .add (.str a) (.str b) K = (a.length + b.length ≤ 9223372036854775807 ∧ K (.str (a ++ b)))) ∧
  (∀ (a b : List UInt8) (K : AV → Prop), binP .eql (.str a) (.str b) K = K (.bool (a == b))) ∧
  (∀ (a b : List UInt8) (K : AV → Prop), binP .neq (.str a) (.str b) K = K (.bool (!(a == b)))) ∧
  (∀ (n a b : Bool) (K : AV → Prop), eqbP n (.bool a) (.bool b) K = K (.bool ((a == b) != n))) ∧
  (∀ (H : List AObj) (n : Bool) (K : AV → Prop), eqpnP H n .nilp K = K (.bool (!n))) ∧
  (∀ (H : List AObj) (n : Bool) (cs : List AV) (o : Nat) (K : AV → Prop), eqpnP H n (.ptr cs o) K = K (.bool n)) ∧
  (∀ (H : List AObj) (n : Bool) (i o : Nat) (K : AV → Prop), eqpnP H n (.own i o) K = liveP (H.getD i .dead) (K (.bool n))) ∧
  (∀ (H : List AObj) (n : Bool) (K : AV → Prop), eqsnP H n .nils K = K (.bool (!n))) ∧
  (∀ (H : List AObj) (n : Bool) (len : Nat) (cs : List AV) (K : AV → Prop), eqsnP H n (.sl len cs) K = (0 < len ∧ K (.bool n))) ∧
  (∀ (b : Bool) (K : AV → Prop), notP (.bool b) K = K (.bool (!b))) ∧
  (∀ (k : IntKind) (n : Int) (K : AV → Prop), negP (.int k n) K = K (.int k (k.wrap (0 - n)))) ∧
  (∀ (k k' : IntKind) (n : Int) (K : AV → Prop), convP k (.int k' n) K = K (.int k (k.wrap n))) ∧
  (∀ (a b : AV) (K : AV → Prop), pickP (.bool true) a b K = K a) ∧
  (∀ (a b : AV) (K : AV → Prop), pickP (.bool false) a b K = K b) ∧
  (∀ (t : TypeId) (es : Nat) (l : Bool) (cs : List AV) (K : Prop), liveP (.arr t es l cs) K = K) ∧
  (∀ (H : List AObj) (cs : List AV) (o : Nat) (K : AV → Prop), nilckP H (.ptr cs o) K = K (.ptr cs o)) ∧
  (∀ (H : List AObj) (i o : Nat) (K : AV → Prop), nilckP H (.own i o) K = liveP (H.getD i .dead) (K (.own i o))) ∧
  (∀ (H : List AObj) (n : Nat) (cs : List AV) (o : Nat) (K : AV → Prop), fldP H n (.ptr cs o) K = K (.ptr cs (o + n))) ∧
  (∀ (H : List AObj) (n : Nat) (i o : Nat) (K : AV → Prop), fldP H n (.own i o) K = liveP (H.getD i .dead) (K (.own i (o + n)))) ∧
  (∀ (H : List AObj) (sz len : Nat) (cs : List AV) (k : IntKind) (n : Int) (K : AV → Prop), idxAP H sz (.sl len cs) (.int k n) K = ((0 ≤ n ∧ n < len) ∧ K (.ptr cs (n.toNat * sz)))) ∧
  (∀ (H : List AObj) (sz id off len : Nat) (k : IntKind) (n : Int) (K : AV → Prop), idxAP H sz (.osl id off len) (.int k n) K = liveP (H.getD id .dead) ((0 ≤ n ∧ n < len) ∧ K (.own id (off + n.toNat * sz)))) ∧
  (∀ (H : List AObj) (m sz : Nat) (cs : List AV) (o : Nat) (k : IntKind) (n : Int) (K : AV → Prop), idxPP H m sz (.ptr cs o) (.int k n) K = ((0 ≤ n ∧ n < m) ∧ K (.ptr cs (o + n.toNat * sz)))) ∧
  (∀ (H : List AObj) (m sz id off : Nat) (k : IntKind) (n : Int) (K : AV → Prop), idxPP H m sz (.own id off) (.int k n) K = liveP (H.getD id .dead) ((0 ≤ n ∧ n < m) ∧ K (.own id (off + n.toNat * sz)))) ∧
  (∀ (s : List UInt8) (k : IntKind) (n : Int) (K : AV → Prop), idxSP (.str s) (.int k n) K = ((0 ≤ n ∧ n < s.length) ∧ K (.int .u8 (s.getD n.toNat 0).toNat))) ∧
  (∀ (cs : List AV) (o : Nat) (K : AV → Prop), loadC none cs o K = (o < cs.length ∧ K (cs.getD o .junk))) ∧
  (∀ (m : Nat) (cs : List AV) (o : Nat) (K : AV → Prop), loadC (some m) cs o K = (o + m ≤ cs.length ∧ K (.agg ((cs.drop o).take m)))) ∧
  (∀ (q : Option Nat) (t es : Nat) (l : Bool) (cs : List AV) (o : Nat) (K : AV → Prop), loadO q (.arr t es l cs) o K = loadC q cs o K) ∧
  (∀ (H : List AObj) (q : Option Nat) (cs : List AV) (o : Nat) (K : AV → Prop), loadP H q (.ptr cs o) K = loadC q cs o K) ∧
  (∀ (H : List AObj) (q : Option Nat) (i o : Nat) (K : AV → Prop), loadP H q (.own i o) K = loadO q (H.getD i .dead) o K) ∧
  (∀ (cs : List AV), cellsOf (.agg cs) = cs) ∧
  (∀ (k : IntKind) (n : Int), cellsOf (.int k n) = [.int k n]) ∧
  (∀ (b : Bool), cellsOf (.bool b) = [.bool b]) ∧
  (∀ (s : List UInt8), cellsOf (.str s) = [.str s]) ∧
  (cellsOf (.nilp) = [.nilp]) ∧
  (∀ (cs : List AV) (o : Nat), cellsOf (.ptr cs o) = [.ptr cs o]) ∧
  (cellsOf (.nils) = [.nils]) ∧
  (∀ (n : Nat) (cs : List AV), cellsOf (.sl n cs) = [.sl n cs]) ∧
  (∀ (i o : Nat), cellsOf (.own i o) = [.own i o]) ∧
  (∀ (i o n : Nat), cellsOf (.osl i o n) = [.osl i o n]) ∧
  (∀ (f : FuncId) (cs : List AV), cellsOf (.fn f cs) = [.fn f cs]) ∧
  (∀ (cs : List AV) (o : Nat), putAt cs o [] = cs) ∧
  (∀ (cs : List AV) (o : Nat) (x : AV) (xs : List AV), putAt cs o (x :: xs) = putAt (cs.set o x) (o + 1) xs) ∧
  (∀ (H : List AObj) (id t es : Nat) (cs : List AV) (o sz : Nat) (v : AV) (K : List AObj → Prop), storeO H id (.arr t es false cs) o sz v K = (((cellsOf v).length = sz ∧ 0 < sz ∧ o + sz ≤ cs.length ∧ OneL H (cellsOf v)) ∧ K (H.set id (.arr t es false (putAt cs o (cellsOf v)))))) ∧
  (∀ (H : List AObj) (sz id o : Nat) (v : AV) (K : List AObj → Prop), storeP H sz (.own id o) v K = storeO H id (H.getD id .dead) o sz v K) ∧
  (∀ (H : List AObj) (K : AV → Prop), lenP H .nils K = K (.int .i64 0)) ∧
  (∀ (H : List AObj) (len : Nat) (cs : List AV) (K : AV → Prop), lenP H (.sl len cs) K = (len ≤ 9223372036854775807 → K (.int .i64 len))) ∧
  (∀ (H : List AObj) (id off len : Nat) (K : AV → Prop), lenP H (.osl id off len) K = liveP (H.getD id .dead) (len ≤ 9223372036854775807 → K (.int .i64 len))) ∧
  (∀ (s : List UInt8) (K : AV → Prop), lenSP (.str s) K = K (.int .i64 s.length)) ∧
  (∀ (H : List AObj) (K : AV → Prop), lenQ H .nils K = K (.int .i64 0)) ∧
  (∀ (H : List AObj) (len : Nat) (cs : List AV) (K : AV → Prop), lenQ H (.sl len cs) K = (len ≤ 9223372036854775807 ∧ K (.int .i64 len))) ∧
  (∀ (H : List AObj) (id off len : Nat) (K : AV → Prop), lenQ H (.osl id off len) K = liveP (H.getD id .dead) (len ≤ 9223372036854775807 ∧ K (.int .i64 len))) ∧
  (∀ (H : List AObj) (K : AV → Prop), b2sP H .nils K = K (.str [])) ∧
  (∀ (H : List AObj) (len : Nat) (cs : List AV) (K : AV → Prop), b2sP H (.sl len cs) K = b2sC len cs K) ∧
  (∀ (H : List AObj) (id off len : Nat) (K : AV → Prop), b2sP H (.osl id off len) K = b2sO (H.getD id .dead) off len K) ∧
  (∀ (t es : Nat) (l : Bool) (cs : List AV) (off len : Nat) (K : AV → Prop), b2sO (.arr t es l cs) off len K = (es = 1 ∧ b2sC len ((cs.drop off).take len) K)) ∧
  (∀ (n : Bool) (K : AV → Prop), eqinP n (.raw .nilIface) K = K (.bool (!n))) ∧
  (∀ (n : Bool) (t : TypeId) (v : Value) (K : AV → Prop), eqinP n (.raw (.iface t v)) K = K (.bool n)) ∧
  (∀ (H : List AObj) (zero : AV) (id : Nat) (k : IntKind) (n : Int) (K : AV → Prop), lkupP H zero (.mref id) (.int k n) K = lkupO (H.getD id .dead) zero k n K) ∧
  (∀ (es : List (Int × AV)) (zero : AV) (k k' : IntKind) (n : Int) (K : AV → Prop), lkupO (.mp k' es) zero k n K = (k = k' ∧ K ((mget es n).getD zero))) ∧
  (∀ (H : List AObj) (id : Nat) (k : IntKind) (n : Int) (v : AV) (K : List AObj → Prop), mapupP H (.mref id) (.int k n) v K = mapupO H id (H.getD id .dead) k n v K) ∧
  (∀ (H : List AObj) (id : Nat) (es : List (Int × AV)) (k k' : IntKind) (n : Int) (v : AV) (K : List AObj → Prop), mapupO H id (.mp k' es) k n v K = ((k = k' ∧ Frz v) ∧ K (H.set id (.mp k (mset es n v))))) ∧
  (∀ (C : Ctx) (f : FuncId) (cap args : List AV) (K : AV → Prop), fcallvP C (.fn f cap) args K = ((C.ent f ∧ FrzL args ∧ FrzL cap) ∧ ∃ v, C.pc f (args ++ cap) v ∧ K v)) ∧
  (∀ (C : Ctx) (H : List AObj) (t sz bytes : Nat) (b x : AV) (K : AV → Option Nat → List AObj → Prop), wappP C H t sz bytes b x K = srcP H sz x fun m src => wappB C H t sz bytes b m src K) ∧
  (∀ (C : Ctx) (H : List AObj) (t sz bytes m : Nat) (src : List AV) (K : AV → Option Nat → List AObj → Prop), wappB C H t sz bytes .nils m src K = ((m * bytes ≤ 140737488355328 ∧ OneL H src) ∧ K (.osl H.length 0 m) none (H ++ [.arr t sz false src]))) ∧
  (∀ (C : Ctx) (H : List AObj) (t sz bytes id off len m : Nat) (src : List AV) (K : AV → Option Nat → List AObj → Prop), wappB C H t sz bytes (.osl id off len) m src K = wappO C H t sz bytes id off len (H.getD id .dead) m src K) ∧
  (∀ (C : Ctx) (H : List AObj) (t sz bytes id off len t' es : Nat) (l : Bool) (cs : List AV) (m : Nat) (src : List AV) (K : AV → Option Nat → List AObj → Prop), wappO C H t sz bytes id off len (.arr t' es l cs) m src K = (((C.n0 ≤ id ∧ t' = t ∧ es = sz ∧ off = 0 ∧ cs.length = len * sz ∧ OneL H src ∧ (l = true → FrzL src)) ∧ (len + m) * bytes ≤ 140737488355328) ∧ K (.osl id 0 (len + m)) (some id) ((H.map (killO id)).set id (.arr t sz l (killL id (cs ++ src)))))) ∧
  (∀ (H : List AObj) (t sz bytes : Nat) (zero : List AV) (k k' : IntKind) (nl nc : Int) (K : AV → Option Nat → List AObj → Prop), wmkP H t sz bytes zero (.int k nl) (.int k' nc) K = ((0 ≤ nl ∧ nl ≤ nc ∧ nc * bytes ≤ 140737488355328) ∧ K (.osl H.length 0 nl.toNat) none (H ++ [.arr t sz false (reps nl.toNat zero)]))) ∧
  (∀ (k k' : IntKind) (a b : Int) (K : AV → Prop), maxP (.int k a) (.int k' b) K = K (.int k (if b > a then b else a))) ∧
  (∀ (k k' : IntKind) (a b : Int) (K : AV → Prop), minP (.int k a) (.int k' b) K = K (.int k (if b < a then b else a))) ∧
  (∀ (d : Int) (K : Int → Prop), bdP d none K = K d) ∧
  (∀ (d : Int) (k : IntKind) (n : Int) (K : Int → Prop), bdP d (some (.int k n)) K = K n) ∧
  (∀ (t es : Nat) (l0 : Bool) (cs : List AV) (sz id off len : Nat) (l h : Int) (K : AV → Prop), slcO (.arr t es l0 cs) sz id off len l h K = ((es = sz ∧ 0 ≤ l ∧ l ≤ h ∧ h ≤ len) ∧ (l = h → K (.sl 0 [])) ∧ (l < h → K (.osl id (off + l.toNat * sz) (h - l).toNat)))) ∧
  (∀ (H : List AObj) (sz : Nat) (lo hi : Option AV) (K : AV → Prop), slcP H sz .nils lo hi K = bdP 0 lo fun l => bdP 0 hi fun h => (l = 0 ∧ h = 0) ∧ K .nils) ∧
  (∀ (H : List AObj) (sz len : Nat) (cs : List AV) (lo hi : Option AV) (K : AV → Prop), slcP H sz (.sl len cs) lo hi K = bdP 0 lo fun l => bdP len hi fun h => (0 ≤ l ∧ l ≤ h ∧ h ≤ len ∧ cs.length = len * sz) ∧ K (.sl (h - l).toNat ((cs.drop (l.toNat * sz)).take ((h - l).toNat * sz)))) ∧
  (∀ (H : List AObj) (sz id off len : Nat) (lo hi : Option AV) (K : AV → Prop), slcP H sz (.osl id off len) lo hi K = bdP 0 lo fun l => bdP len hi fun h => slcO (H.getD id .dead) sz id off len l h K) ∧
  (∀ (s : List UInt8) (lo hi : Option AV) (K : AV → Prop), slcSP (.str s) lo hi K = bdP 0 lo fun l => bdP s.length hi fun h => (0 ≤ l ∧ l ≤ h ∧ h ≤ s.length) ∧ K (.str ((s.drop l.toNat).take (h - l).toNat))) ∧
  (∀ (vs : List AV) (i : Nat) (K : AV → Prop), extP (.tup vs) i K = (i < vs.length ∧ K (vs.getD i .junk))) ∧
  (∀ (cs : List AV), fillP cs [] = cs) ∧
  (∀ (cs : List AV) (o z : Nat) (x : AV) (ps : List (Nat × Nat × AV)), fillP cs ((o, z, x) :: ps) = fillP (putAt cs o (cellsOf x)) ps) ∧
  (∀ (H : List AObj) (n : Nat), fillOk H n [] = True) ∧
  (∀ (H : List AObj) (n o sz : Nat) (x : AV) (ps : List (Nat × Nat × AV)), fillOk H n ((o, sz, x) :: ps) = (((cellsOf x).length = sz ∧ 0 < sz ∧ o + sz ≤ n ∧ OneL H (cellsOf x)) ∧ fillOk H n ps)) ∧
  (∀ (f : List AV), evP f [] = []) ∧
  (∀ (f : List AV) (o z : Nat) (x : IA) (ps : List (Nat × Nat × IA)), evP f ((o, z, x) :: ps) = (o, z, ev f x) :: evP f ps) ∧
  (∀ (sz t es : Nat) (l : Bool) (cs : List AV) (off len : Nat) (K : Nat → List AV → Prop), srcO sz (.arr t es l cs) off len K = (off + len * sz ≤ cs.length ∧ K len ((cs.drop off).take (len * sz)))) ∧
  (∀ (H : List AObj) (sz : Nat) (K : Nat → List AV → Prop), srcP H sz .nils K = K 0 []) ∧
  (∀ (H : List AObj) (sz len : Nat) (cs : List AV) (K : Nat → List AV → Prop), srcP H sz (.sl len cs) K = (cs.length = len * sz ∧ K len cs)) ∧
  (∀ (H : List AObj) (sz id off len : Nat) (K : Nat → List AV → Prop), srcP H sz (.osl id off len) K = srcO sz (H.getD id .dead) off len K) ∧
  (∀ (n0 : Nat) (s : St) (t sz bytes id off len t' es : Nat) (l : Bool) (cs : List AV) (m : Nat) (src : List AV) (K : AV → St → Prop), appO n0 s t sz bytes id off len (.arr t' es l cs) m src K = (((n0 ≤ id ∧ t' = t ∧ es = sz ∧ off = 0 ∧ cs.length = len * sz ∧ OneL s.H src ∧ (l = true → FrzL src)) ∧ (len + m) * bytes ≤ 140737488355328) ∧ K (.osl id 0 (len + m)) ⟨killL id s.f, (s.H.map (killO id)).set id (.arr t sz l (killL id (cs ++ src)))⟩)) ∧
  (∀ (n0 : Nat) (s : St) (t sz bytes m : Nat) (src : List AV) (K : AV → St → Prop), appB n0 s t sz bytes .nils m src K = ((m * bytes ≤ 140737488355328 ∧ OneL s.H src) ∧ K (.osl s.H.length 0 m) ⟨s.f, s.H ++ [.arr t sz false src]⟩)) ∧
  (∀ (n0 : Nat) (s : St) (t sz bytes id off len m : Nat) (src : List AV) (K : AV → St → Prop), appB n0 s t sz bytes (.osl id off len) m src K = appO n0 s t sz bytes id off len (s.H.getD id .dead) m src K) ∧
  (∀ (n0 : Nat) (s : St) (t sz bytes : Nat) (b x : AV) (K : AV → St → Prop), appP n0 s t sz bytes b x K = srcP s.H sz x fun m src => appB n0 s t sz bytes b m src K) ∧
  (∀ (s : St) (t sz bytes : Nat) (zero : List AV) (k k' : IntKind) (nl nc : Int) (K : AV → St → Prop), mkP s t sz bytes zero (.int k nl) (.int k' nc) K = ((0 ≤ nl ∧ nl ≤ nc ∧ nc * bytes ≤ 140737488355328) ∧ K (.osl s.H.length 0 nl.toNat) ⟨s.f, s.H ++ [.arr t sz false (reps nl.toNat zero)]⟩)) ∧
  (∀ (t : Bool) (A B : Prop), condP (.bool t) A B = ifB t A B) ∧
  (∀ (b t : Bool) (A B : Prop), wantB b (.bool t) A B = ifB (t == b) A B) ∧
  (∀ (b : Bool) (A B : Prop), wantB b (.tup []) A B = B) ∧
  (∀ (A B : Prop), ifB true A B = A) ∧
  (∀ (A B : Prop), ifB false A B = B) ∧
  (∀ (t : Bool), (t == true) = t) ∧
  (∀ (t : Bool), (t == false) = !t) ∧
  (∀ (C : Ctx) (f : FuncId) (cap args : List AV) (s : St) (K : AV → St → Prop), callvP C (.fn f cap) args s K = (C.ent f ∧ ACallF C f (args ++ cap) s K .mk)) :=
  ⟨by intros; first | rfl | simp only [c_add],
   by intros; first | rfl | simp only [c_sub],
   by intros; first | rfl | simp only [c_mul],
   by intros; first | rfl | simp only [c_and],
   by intros; first | rfl | simp only [c_or],
   by intros; first | rfl | simp only [c_xor],
   by intros; first | rfl | simp only [c_quo],
   by intros; first | rfl | simp only [c_rem],
   by intros; first | rfl | simp only [c_eql],
   by intros; first | rfl | simp only [c_neq],
   by intros; first | rfl | simp only [c_lss],
   by intros; first | rfl | simp only [c_leq],
   by intros; first | rfl | simp only [c_gtr],
   by intros; first | rfl | simp only [c_geq],
   by intros; first | rfl | simp only [c_shl],
   by intros; first | rfl | simp only [c_shr],
   by intros; first | rfl | simp only [c_adds],
   by intros; first | rfl | simp only [c_eqls],
   by intros; first | rfl | simp only [c_neqs],
   by intros; first | rfl | simp only [c_eqb],
   by intros; first | rfl | simp only [c_eqpn0],
   by intros; first | rfl | simp only [c_eqpn1],
   by intros; first | rfl | simp only [c_eqpn2],
   by intros; first | rfl | simp only [c_eqsn0],
   by intros; first | rfl | simp only [c_eqsn1],
   by intros; first | rfl | simp only [c_not],
   by intros; first | rfl | simp only [c_neg],
   by intros; first | rfl | simp only [c_conv],
   by intros; first | rfl | simp only [c_pickT],
   by intros; first | rfl | simp only [c_pickF],
   by intros; first | rfl | simp only [c_live],
   by intros; first | rfl | simp only [c_nilck0],
   by intros; first | rfl | simp only [c_nilck1],
   by intros; first | rfl | simp only [c_fld0],
   by intros; first | rfl | simp only [c_fld1],
   by intros; first | rfl | simp only [c_idxA0],
   by intros; first | rfl | simp only [c_idxA1],
   by intros; first | rfl | simp only [c_idxP0],
   by intros; first | rfl | simp only [c_idxP1],
   by intros; first | rfl | simp only [c_idxS],
   by intros; first | rfl | simp only [c_load0],
   by intros; first | rfl | simp only [c_load1],
   by intros; first | rfl | simp only [c_loadO],
   by intros; first | rfl | simp only [c_loadP0],
   by intros; first | rfl | simp only [c_loadP1],
   by intros; first | rfl | simp only [c_cells_agg],
   by intros; first | rfl | simp only [c_cells_int],
   by intros; first | rfl | simp only [c_cells_bool],
   by intros; first | rfl | simp only [c_cells_str],
   by intros; first | rfl | simp only [c_cells_nilp],
   by intros; first | rfl | simp only [c_cells_ptr],
   by intros; first | rfl | simp only [c_cells_nils],
   by intros; first | rfl | simp only [c_cells_sl],
   by intros; first | rfl | simp only [c_cells_own],
   by intros; first | rfl | simp only [c_cells_osl],
   by intros; first | rfl | simp only [c_cells_fn],
   by intros; first | rfl | simp only [c_putAt0],
   by intros; first | rfl | simp only [c_putAt1],
   by intros; first | rfl | simp only [c_storeO],
   by intros; first | rfl | simp only [c_storeP],
   by intros; first | rfl | simp only [c_len0],
   by intros; first | rfl | simp only [c_len1],
   by intros; first | rfl | simp only [c_len2],
   by intros; first | rfl | simp only [c_lenS],
   by intros; first | rfl | simp only [c_lenQ0],
   by intros; first | rfl | simp only [c_lenQ1],
   by intros; first | rfl | simp only [c_lenQ2],
   by intros; first | rfl | simp only [c_b2s0],
   by intros; first | rfl | simp only [c_b2s1],
   by intros; first | rfl | simp only [c_b2s2],
   by intros; first | rfl | simp only [c_b2sO],
   by intros; first | rfl | simp only [c_eqin0],
   by intros; first | rfl | simp only [c_eqin1],
   by intros; first | rfl | simp only [c_lkup],
   by intros; first | rfl | simp only [c_lkupO],
   by intros; first | rfl | simp only [c_mapup],
   by intros; first | rfl | simp only [c_mapupO],
   by intros; first | rfl | simp only [c_fcallv],
   by intros; first | rfl | simp only [c_wappP],
   by intros; first | rfl | simp only [c_wapp0],
   by intros; first | rfl | simp only [c_wapp1],
   by intros; first | rfl | simp only [c_wappO],
   by intros; first | rfl | simp only [c_wmk],
   by intros; first | rfl | simp only [c_max],
   by intros; first | rfl | simp only [c_min],
   by intros; first | rfl | simp only [c_bd0],
   by intros; first | rfl | simp only [c_bd1],
   by intros; first | rfl | simp only [c_slcO],
   by intros; first | rfl | simp only [c_slc0],
   by intros; first | rfl | simp only [c_slc1],
   by intros; first | rfl | simp only [c_slc2],
   by intros; first | rfl | simp only [c_slcS],
   by intros; first | rfl | simp only [c_ext],
   by intros; first | rfl | simp only [c_fill0],
   by intros; first | rfl | simp only [c_fill1],
   by intros; first | rfl | simp only [c_fillOk0],
   by intros; first | rfl | simp only [c_fillOk1],
   by intros; first | rfl | simp only [c_evP0],
   by intros; first | rfl | simp only [c_evP1],
   by intros; first | rfl | simp only [c_srcO],
   by intros; first | rfl | simp only [c_src0],
   by intros; first | rfl | simp only [c_src1],
   by intros; first | rfl | simp only [c_src2],
   by intros; first | rfl | simp only [c_appO],
   by intros; first | rfl | simp only [c_app0],
   by intros; first | rfl | simp only [c_app1],
   by intros; first | rfl | simp only [c_appP],
   by intros; first | rfl | simp only [c_mk],
   by intros; first | rfl | simp only [c_cond],
   by intros; first | rfl | simp only [c_want],
   by intros; first | rfl | simp only [c_want0],
   by intros; first | rfl | simp only [c_ifT],
   by intros; first | rfl | simp only [c_ifF],
   by intros; first | rfl | simp only [c_beqT],
   by intros; first | rfl | simp only [c_beqF],
   by intros; first | rfl | simp only [v_callv]⟩
end Go.Avm
/- Words for contracts: exact functions on trees; lists of words; what a word's bounds make of a wrap. -/
set_option linter.unusedSimpArgs false
set_option linter.unusedVariables false
namespace Go.Avm
open Go Va
variable {P : Program} {G : Glob}

/-- Exact, and told of trees. -/
def PX (P : Program) (G : Glob) (f : FuncId) (args : List AV) (v : AV) : Prop := FrzL args ∧ PE P G f args v
theorem PX.call {n0 : Nat} {f : FuncId} {args : List AV} {v : AV} (h : PX P G f args v) {s : St} {K : AV → St → Prop} (k : K v s) {tg : Tag K} : ACallF (ctx P G n0) f args s K tg :=
  PC.call h.2.2 h.1 fun x _ e => by subst e; exact k
theorem PX.fcall {n0 : Nat} {f : FuncId} {args : List AV} {v : AV} (h : PX P G f args v) {K : AV → Prop} (k : K v) {tg : Tag K} : FCallF (ctx P G n0) f args K tg :=
  ⟨h.1, v, h.2, k⟩
/-- A function's exact contract out of a walk. -/
theorem PX_of_awp {f : FuncId} {F : IF} (hF : lowF P f = some F) (hm : P.follows .mixedOrders = true) {args : List AV} {v : AV} (hz : FrzL args) (hv : Frz v)
    (h : awp (ctx P G 0) F.body (exRet (ctx P G 0) F.res fun x _ => x = v) ⟨initF args F.n, []⟩) : PX P G f args v :=
  ⟨hz, hv, (AC_of_awp hF rfl hm h).mono fun x H' e => by subst e; exact ⟨hv, rfl⟩⟩

/-- What is told may be told with less. -/
def Wk (x y : AV) : Prop := ∀ φ bl v, Rep φ bl x v → Rep φ bl y v
theorem Wk.refl (x : AV) : Wk x x := fun _ _ _ h => h
theorem Wk.nils : Wk .nils (.sl 0 []) := fun φ bl v h => by simp only [Rep] at h ⊢; exact .inl ⟨h, by simp, by simp⟩
def WkL : List AV → List AV → Prop
  | [], ys => ys = []
  | x :: xs, ys => ∃ y ys', ys = y :: ys' ∧ Wk x y ∧ WkL xs ys'
theorem WkL.nil : WkL [] [] := rfl
theorem WkL.cons {x y : AV} {xs ys : List AV} (h : Wk x y) (k : WkL xs ys) : WkL (x :: xs) (y :: ys) := ⟨y, ys, rfl, h, k⟩
theorem WkL.refl : ∀ l : List AV, WkL l l
  | [] => rfl
  | x :: xs => .cons (.refl x) (WkL.refl xs)
theorem WkL.rep : ∀ {xs ys : List AV}, WkL xs ys → ∀ {φ : Phi} {bl : Nat → BL} {vs : List Value}, RepL φ bl xs vs → RepL φ bl ys vs
  | [], _, h, _, _, _, hr => by simp only [WkL] at h; subst h; exact hr
  | x :: xs, _, h, _, _, _, hr => by
    simp only [WkL] at h
    obtain ⟨y, ys', rfl, h1, h2⟩ := h
    simp only [RepL] at hr ⊢
    obtain ⟨u, us, e, h3, h4⟩ := hr
    exact ⟨u, us, e, h1 _ _ _ h3, h2.rep h4⟩
theorem RepRow.wk : ∀ {xs ys : List AV}, WkL xs ys → ∀ {φ : Phi} {b o : Nat}, RepRow φ xs b o → RepRow φ ys b o
  | [], _, h, _, _, _, hr => by simp only [WkL] at h; subst h; exact hr
  | x :: xs, _, h, _, _, _, hr => by
    simp only [WkL] at h
    obtain ⟨y, ys', rfl, h1, h2⟩ := h
    simp only [RepRow] at hr ⊢
    obtain ⟨⟨u, e, h3⟩, h4⟩ := hr
    exact ⟨⟨u, e, h1 _ _ _ h3⟩, RepRow.wk h2 h4⟩
theorem Wk.ptr {xs ys : List AV} (h : WkL xs ys) (o : Nat) : Wk (.ptr xs o) (.ptr ys o) := fun φ bl v hr => by
  simp only [Rep] at hr ⊢
  obtain ⟨b, q, e, hr⟩ := hr
  exact ⟨b, q, e, RepRow.wk h hr⟩
theorem WkL.length : ∀ {xs ys : List AV}, WkL xs ys → xs.length = ys.length
  | [], _, h => by simp only [WkL] at h; subst h; rfl
  | x :: xs, _, h => by
    simp only [WkL] at h
    obtain ⟨y, ys', rfl, _, h2⟩ := h
    simp [h2.length]
theorem Wk.sl {xs ys : List AV} (h : WkL xs ys) (n : Nat) : Wk (.sl n xs) (.sl n ys) := fun φ bl v hr => by
  simp only [Rep] at hr ⊢
  rcases hr with ⟨h1, h2, h3⟩ | ⟨b, o, cap, h1, h2, h3, h4⟩
  · refine .inl ⟨h1, h2, ?_⟩
    subst h3
    simp only [WkL] at h
    exact h
  · exact .inr ⟨b, o, cap, h1, h2, h3, RepRow.wk h h4⟩
theorem Wk.tup {xs ys : List AV} (h : WkL xs ys) : Wk (.tup xs) (.tup ys) := fun φ bl v hr => by
  simp only [Rep] at hr ⊢
  obtain ⟨vs, e, hr⟩ := hr
  exact ⟨vs, e, h.rep hr⟩
theorem Wk.agg {xs ys : List AV} (h : WkL xs ys) : Wk (.agg xs) (.agg ys) := fun φ bl v hr => by
  simp only [Rep] at hr ⊢
  obtain ⟨vs, e, hr⟩ := hr
  exact ⟨vs, e, h.rep hr⟩
theorem PX.wk_ret {f : FuncId} {args : List AV} {v v' : AV} (h : PX P G f args v) (hw : Wk v v') (hz : Frz v') : PX P G f args v' :=
  ⟨h.1, hz, fun φ bl w vs hi hr => (h.2.2 φ bl w vs hi hr).mono fun e w' ⟨u, φ', bl', x, H', e1, ⟨_, e2⟩, hi', hx, hf⟩ => by
    subst e2
    exact ⟨u, φ', bl', v', H', e1, ⟨hz, rfl⟩, hi', hw _ _ _ hx, hf⟩⟩
theorem PX.wk_args {f : FuncId} {args args' : List AV} {v : AV} (h : PX P G f args v) (hw : WkL args' args) (hz : FrzL args') : PX P G f args' v :=
  ⟨hz, h.2.1, fun φ bl w vs hi hr => h.2.2 φ bl w vs hi (hw.rep hr)⟩
/-- A slot is told with less. -/
theorem Gh.wk {n0 : Nat} {f f' : List AV} {H : List AObj} (h : WkL f f') : Gh G n0 ⟨f, H⟩ ⟨f', H⟩ := fun φ bl vs w hI hr => ⟨φ, bl, hI, h.rep hr, Adv.refl n0 φ bl w⟩

/-! ### Rows of words -/
def row (k : IntKind) (l : List Nat) : List AV := l.map fun (d : Nat) => AV.int k (d : Int)
theorem row_length (k : IntKind) (l : List Nat) : (row k l).length = l.length := by simp [row]
theorem row_getD (k : IntKind) {l : List Nat} {i : Nat} (h : i < l.length) : (row k l).getD i .junk = .int k ((l.getD i 0 : Nat) : Int) := by
  simp [row, List.getD_eq_getElem?_getD, List.getElem?_eq_getElem h]
theorem row_set (k : IntKind) (l : List Nat) (i x : Nat) : (row k l).set i (.int k (x : Int)) = row k (l.set i x) := by simp [row, List.map_set]
theorem row_take (k : IntKind) (l : List Nat) (n : Nat) : (row k l).take n = row k (l.take n) := by simp [row, List.map_take]
theorem row_drop (k : IntKind) (l : List Nat) (n : Nat) : (row k l).drop n = row k (l.drop n) := by simp [row, List.map_drop]
theorem row_append (k : IntKind) (l m : List Nat) : row k l ++ row k m = row k (l ++ m) := by simp [row]
theorem row_rep (k : IntKind) (n m : Nat) : (List.replicate n [AV.int k (m : Int)]).flatten = row k (List.replicate n m) := by
  induction n with
  | zero => rfl
  | succ n ih => simp [List.replicate_succ, ih]; simp [row]
theorem row_reps (k : IntKind) (n m : Nat) : reps n [AV.int k (m : Int)] = row k (List.replicate n m) := row_rep k n m
theorem row_frz (k : IntKind) (l : List Nat) : FrzL (row k l) := FrzL.iff.2 fun x hx => by
  simp only [row, List.mem_map] at hx
  obtain ⟨d, _, rfl⟩ := hx
  simp only [Frz]
theorem row_one (H : List AObj) (k : IntKind) (l : List Nat) : OneL H (row k l) := fun x hx => by
  simp only [row, List.mem_map] at hx
  obtain ⟨d, _, rfl⟩ := hx
  simp only [OneC]
theorem row_killL (i : Nat) (k : IntKind) (l : List Nat) : killL i (row k l) = row k l := by
  induction l with
  | nil => rfl
  | cons d l ih => simp only [row, List.map_cons, killL, kill]; exact congrArg _ ih
theorem row_nil (k : IntKind) : row k [] = [] := rfl
theorem row_cons (k : IntKind) (d : Nat) (l : List Nat) : row k (d :: l) = .int k (d : Int) :: row k l := rfl
/-- A slice of words. -/
def slV (k : IntKind) (l : List Nat) : AV := .sl l.length (row k l)
theorem frzL_nil : FrzL [] = True := by simp only [FrzL]
theorem frzL_cons (c : AV) (cs : List AV) : FrzL (c :: cs) = (Frz c ∧ FrzL cs) := by simp only [FrzL]
theorem frz_int (k : IntKind) (n : Int) : Frz (.int k n) = True := by simp only [Frz]
theorem frz_bool (b : Bool) : Frz (.bool b) = True := by simp only [Frz]
theorem frz_str (s : List UInt8) : Frz (.str s) = True := by simp only [Frz]
theorem frz_nilp : Frz .nilp = True := by simp only [Frz]
theorem frz_nils : Frz .nils = True := by simp only [Frz]
theorem frz_raw (v : Value) : Frz (.raw v) = True := by simp only [Frz]
theorem frz_ptr (cs : List AV) (o : Nat) : Frz (.ptr cs o) = FrzL cs := by simp only [Frz]
theorem frz_sl (n : Nat) (cs : List AV) : Frz (.sl n cs) = FrzL cs := by simp only [Frz]
theorem frz_agg (cs : List AV) : Frz (.agg cs) = FrzL cs := by simp only [Frz]
theorem frz_tup (cs : List AV) : Frz (.tup cs) = FrzL cs := by simp only [Frz]
theorem frz_fn (f : FuncId) (cs : List AV) : Frz (.fn f cs) = FrzL cs := by simp only [Frz]
theorem frz_row (k : IntKind) (l : List Nat) : FrzL (row k l) = True := by simp [row_frz]
theorem frz_slV (k : IntKind) (l : List Nat) : Frz (slV k l) = True := by simp [slV, Frz, row_frz]
theorem avmF : (FrzL [] = True) ∧ (∀ c cs, FrzL (c :: cs) = (Frz c ∧ FrzL cs)) ∧ (∀ k n, Frz (.int k n) = True) ∧ (∀ b, Frz (.bool b) = True) ∧ (∀ s, Frz (.str s) = True) ∧ (Frz .nilp = True) ∧ (Frz .nils = True) ∧
    (∀ v, Frz (.raw v) = True) ∧ (∀ cs o, Frz (.ptr cs o) = FrzL cs) ∧ (∀ n cs, Frz (.sl n cs) = FrzL cs) ∧ (∀ cs, Frz (.agg cs) = FrzL cs) ∧ (∀ cs, Frz (.tup cs) = FrzL cs) ∧ (∀ f cs, Frz (.fn f cs) = FrzL cs) ∧
    (∀ k l, FrzL (row k l) = True) ∧ (∀ k l, Frz (slV k l) = True) :=
  ⟨frzL_nil, frzL_cons, frz_int, frz_bool, frz_str, frz_nilp, frz_nils, frz_raw, frz_ptr, frz_sl, frz_agg, frz_tup, frz_fn, frz_row, frz_slV⟩

/-! ### Wraps -/
theorem wrap_u (k : IntKind) (hk : k.signed = false) (n : Int) : k.wrap n = n % (2 ^ k.bits : Int) := by simp [IntKind.wrap, hk]
theorem wu64 (n : Nat) : IntKind.u64.wrap (n : Int) = ((n % 18446744073709551616 : Nat) : Int) := by
  rw [wrap_u _ rfl]; simp [IntKind.bits]
theorem wu32 (n : Nat) : IntKind.u32.wrap (n : Int) = ((n % 4294967296 : Nat) : Int) := by
  rw [wrap_u _ rfl]; simp [IntKind.bits]
theorem wu8 (n : Nat) : IntKind.u8.wrap (n : Int) = ((n % 256 : Nat) : Int) := by
  rw [wrap_u _ rfl]; simp [IntKind.bits]
theorem wu64_in {n : Int} (h0 : 0 ≤ n) (h1 : n < 18446744073709551616) : IntKind.u64.wrap n = n := by
  rw [wrap_u _ rfl]; simp [IntKind.bits]; omega
theorem wu32_in {n : Int} (h0 : 0 ≤ n) (h1 : n < 4294967296) : IntKind.u32.wrap n = n := by
  rw [wrap_u _ rfl]; simp [IntKind.bits]; omega
theorem wu32_mod (n : Int) : IntKind.u32.wrap n = n % 4294967296 := by
  rw [wrap_u _ rfl]; simp [IntKind.bits]
theorem wu64_mod (n : Int) : IntKind.u64.wrap n = n % 18446744073709551616 := by
  rw [wrap_u _ rfl]; simp [IntKind.bits]
theorem wu8_mod (n : Int) : IntKind.u8.wrap n = n % 256 := by
  rw [wrap_u _ rfl]; simp [IntKind.bits]
theorem wi64_in {n : Int} (h0 : -9223372036854775808 ≤ n) (h1 : n ≤ 9223372036854775807) : IntKind.i64.wrap n = n := by
  simp only [IntKind.wrap, IntKind.signed, IntKind.bits, Bool.true_and]
  simp
  split <;> omega
theorem fdiv_pow (a : Int) (k : Nat) : a.fdiv (2 ^ k) = a / 2 ^ k := by
  rw [Int.fdiv_eq_ediv_of_nonneg]; exact Int.le_of_lt (Int.pow_pos (by decide))
theorem wi64 {n : Nat} (h : n ≤ 9223372036854775807) : IntKind.i64.wrap (n : Int) = (n : Int) := wi64_in (by omega) (by omega)
theorem csub {a b : Nat} (h : b ≤ a) : (a : Int) - (b : Int) = ((a - b : Nat) : Int) := by omega
theorem bv_and (k a b : Nat) : (BitVec.ofInt k (a : Int) &&& BitVec.ofInt k (b : Int)).toNat = (a % 2 ^ k) &&& (b % 2 ^ k) := by
  rw [BitVec.toNat_and, BitVec.ofInt_natCast, BitVec.ofInt_natCast, BitVec.toNat_ofNat, BitVec.toNat_ofNat]
theorem bv_or (k a b : Nat) : (BitVec.ofInt k (a : Int) ||| BitVec.ofInt k (b : Int)).toNat = (a % 2 ^ k) ||| (b % 2 ^ k) := by
  rw [BitVec.toNat_or, BitVec.ofInt_natCast, BitVec.ofInt_natCast, BitVec.toNat_ofNat, BitVec.toNat_ofNat]
theorem m64 {n : Nat} (h : n < 18446744073709551616) : n % 18446744073709551616 = n := Nat.mod_eq_of_lt h
theorem m32 {n : Nat} (h : n < 4294967296) : n % 4294967296 = n := Nat.mod_eq_of_lt h
theorem band_mask (n : Nat) : (n % 18446744073709551616) &&& 4294967295 = n % 4294967296 := by
  have := Nat.and_two_pow_sub_one_eq_mod (n % 18446744073709551616) 32
  simp only [Nat.reducePow, Nat.reduceSub] at this
  rw [this]; omega
theorem bor_shift {a b : Nat} (hb : b < 4294967296) : (a * 4294967296 % 18446744073709551616) ||| b = a * 4294967296 % 18446744073709551616 + b := by
  have e : a * 4294967296 % 18446744073709551616 = (a % 4294967296) * 4294967296 := by omega
  rw [e]
  have := Nat.shiftLeft_add_eq_or_of_lt (i := 32) (b := b) (by simpa using hb) (a % 4294967296)
  rw [Nat.shiftLeft_eq] at this
  simp only [Nat.reducePow] at this
  exact this.symm
/-- Words within words. -/
theorem avmM : (∀ n : Nat, (n % 18446744073709551616) &&& 4294967295 = n % 4294967296) ∧ (∀ n : Nat, n % 18446744073709551616 % 18446744073709551616 = n % 18446744073709551616) ∧
    (∀ n : Nat, n % 4294967296 % 18446744073709551616 = n % 4294967296) ∧ (∀ n : Nat, n % 4294967296 % 4294967296 = n % 4294967296) ∧ (∀ n : Nat, n % 18446744073709551616 % 4294967296 = n % 4294967296) :=
  ⟨band_mask, fun n => by omega, fun n => by omega, fun n => by omega, fun n => by omega⟩
/-- Numbers that are not below 0 are reckoned with as such. -/
theorem avmN : (∀ a b : Nat, (a : Int) + (b : Int) = ((a + b : Nat) : Int)) ∧ (∀ a b : Nat, (a : Int) * (b : Int) = ((a * b : Nat) : Int)) ∧
    (∀ a k : Nat, (a : Int) * 2 ^ k = ((a * 2 ^ k : Nat) : Int)) ∧ (∀ a k : Nat, (a : Int).fdiv (2 ^ k) = ((a / 2 ^ k : Nat) : Int)) ∧
    (∀ a b : Nat, (a : Int).tdiv (b : Int) = ((a / b : Nat) : Int)) ∧ (∀ a b : Nat, (a : Int).tmod (b : Int) = ((a % b : Nat) : Int)) ∧
    (∀ n : Nat, IntKind.u64.wrap (n : Int) = ((n % 18446744073709551616 : Nat) : Int)) ∧ (∀ n : Nat, IntKind.u32.wrap (n : Int) = ((n % 4294967296 : Nat) : Int)) ∧ (∀ n : Nat, IntKind.u8.wrap (n : Int) = ((n % 256 : Nat) : Int)) ∧
    (∀ a b : Nat, ((a : Int) < (b : Int)) = (a < b)) ∧ (∀ a b : Nat, ((a : Int) ≤ (b : Int)) = (a ≤ b)) ∧ (∀ a b : Nat, ((a : Int) = (b : Int)) = (a = b)) ∧ (∀ a b : Nat, ((a : Int) ≠ (b : Int)) = (a ≠ b)) ∧
    (∀ k a b : Nat, (BitVec.ofInt k (a : Int) &&& BitVec.ofInt k (b : Int)).toNat = (a % 2 ^ k) &&& (b % 2 ^ k)) ∧ (∀ k a b : Nat, (BitVec.ofInt k (a : Int) ||| BitVec.ofInt k (b : Int)).toNat = (a % 2 ^ k) ||| (b % 2 ^ k)) ∧
    (∀ a b : Nat, (if a < b then ((b : Nat) : Int) else (a : Int)) = ((max a b : Nat) : Int)) ∧ (∀ a b : Nat, (if b < a then ((b : Nat) : Int) else (a : Int)) = ((min a b : Nat) : Int)) ∧
    (IntKind.bits .u64 = 64) ∧ (IntKind.bits .u32 = 32) ∧ (IntKind.bits .i64 = 64) ∧ (IntKind.bits .u8 = 8) ∧ (∀ n : Nat, ((n : Nat) : Int).toNat = n) ∧ (∀ n : Nat, (0 ≤ (n : Int)) = True) ∧ (∀ n : Nat, (n ≠ n) = False) ∧ (∀ n : Nat, (n = n) = True) := by
  refine ⟨fun _ _ => rfl, fun _ _ => rfl, fun a k => by simp, fun a k => by rw [fdiv_pow]; simp, fun a b => by rw [Int.ofNat_tdiv], fun a b => by rw [Int.ofNat_tmod], wu64, wu32, wu8, fun a b => by simp, fun a b => by simp, fun a b => propext ⟨fun h => by omega, fun h => by omega⟩, fun a b => propext ⟨fun h => by omega, fun h => by omega⟩, bv_and, bv_or,
    fun a b => ?_, fun a b => ?_, rfl, rfl, rfl, rfl, Int.toNat_natCast, fun n => by simp, fun n => by simp, fun n => by simp⟩
  · split <;> congr 1 <;> omega
  · split <;> congr 1 <;> omega
end Go.Avm
/- Steps of walks: loops, returns, calls; lists of slots. -/
set_option linter.unusedSimpArgs false
set_option linter.unusedVariables false
namespace Go.Avm
open Go Va
variable {P : Program} {G : Glob}

theorem thawL_append (i es : Nat) (cs : List AV) (a b : List AV) : thawL i es cs (a ++ b) = thawL i es cs a ++ thawL i es cs b := by
  induction a with
  | nil => rfl
  | cons x a ih => simp only [List.cons_append, thawL, ih]
theorem thaw_frz' {i es : Nat} {cs : List AV} {x : AV} (h : Frz x) : thaw i es cs x = x := thaw_frz x h

/-- What holds at a loop's head: the state is told by an index, which meets its condition. -/
def LI {α : Type} (st : α → St) (inv : α → Prop) (ms : α → Nat) : Nat → St → Prop := fun n s => ∃ a, n = ms a ∧ s = st a ∧ inv a
/-- What a round owes at its end. -/
def LN (P : Program) (G : Glob) (n0 : Nat) {α : Type} (st : α → St) (inv : α → Prop) (ms : α → Nat) (n : Nat) : St → Prop :=
  fun s' => ∃ s1 m, (ctx P G n0).gh s' s1 ∧ m < n ∧ LI st inv ms m s1
/-- A loop over states that are told by an index. -/
theorem loop_of {n0 : Nat} {α : Type} {b : IC} {K : Ex → St → Prop} {s : St} (st : α → St) (inv : α → Prop) (ms : α → Nat) (a0 : α) (live : List Nat)
    (h0 : (⟨keepF live 0 s.f, s.H⟩ : St) = st a0) (hi : inv a0)
    (step : ∀ a, inv a → awp (ctx P G n0) b (exSeq (LN P G n0 st inv ms (ms a)) K) (st a)) :
    awp (ctx P G n0) (.loop b) K s := by
  refine ⟨LI st inv ms, ms a0, st a0, ?_, ⟨a0, rfl, rfl, hi⟩, ?_⟩
  · rw [← h0]; exact Gh.keep s live
  · rintro n s ⟨a, rfl, rfl, ha⟩
    exact step a ha
/-- Where the memory is told anew ahead of the loop. -/
theorem loop_gh {n0 : Nat} {α : Type} {b : IC} {K : Ex → St → Prop} {s : St} (st : α → St) (inv : α → Prop) (ms : α → Nat) (a0 : α)
    (h0 : Gh G n0 s (st a0)) (hi : inv a0)
    (step : ∀ a, inv a → awp (ctx P G n0) b (exSeq (LN P G n0 st inv ms (ms a)) K) (st a)) :
    awp (ctx P G n0) (.loop b) K s := by
  refine ⟨LI st inv ms, ms a0, st a0, h0, ⟨a0, rfl, rfl, hi⟩, ?_⟩
  · rintro n s ⟨a, rfl, rfl, ha⟩
    exact step a ha
theorem LN.next {n0 : Nat} {α : Type} {st : α → St} {inv : α → Prop} {ms : α → Nat} {n : Nat} {s : St} (a : α) (live : List Nat) (hi : inv a) (hm : ms a < n) (h : (⟨keepF live 0 s.f, s.H⟩ : St) = st a) : LN P G n0 st inv ms n s :=
  ⟨st a, ms a, by rw [← h]; exact Gh.keep s live, hm, a, rfl, rfl, hi⟩
theorem LN.gh {n0 : Nat} {α : Type} {st : α → St} {inv : α → Prop} {ms : α → Nat} {n : Nat} {s : St} (a : α) (hi : inv a) (hm : ms a < n) (h : Gh G n0 s (st a)) : LN P G n0 st inv ms n s :=
  ⟨st a, ms a, h, hm, a, rfl, rfl, hi⟩

/-! ### The end -/
theorem ret_now {n0 : Nat} {rs : List IR} {R : AV → List AObj → Prop} {s : St} (h : resP s rs fun xs => R (tupOf xs) s.H) : exRet (ctx P G n0) rs R .ret s := ⟨s, Gh.refl _ _ _, h⟩
theorem ret_end {n0 : Nat} {rs : List IR} {R : AV → List AObj → Prop} {s : St} (h : resP s rs fun xs => R (tupOf xs) s.H) : exRet (ctx P G n0) rs R .normal s := ⟨s, Gh.refl _ _ _, h⟩
theorem ret_gh {n0 : Nat} {rs : List IR} {R : AV → List AObj → Prop} {s : St} (s' : St) (hg : Gh G n0 s s') (h : exRet (ctx P G n0) rs R .ret s') : exRet (ctx P G n0) rs R .ret s := by
  obtain ⟨s2, h1, h2⟩ := h
  exact ⟨s2, Gh.trans hg h1, h2⟩
/-- An object becomes a tree ahead of the end. -/
theorem ret_fz {n0 : Nat} {rs : List IR} {R : AV → List AObj → Prop} {f : List AV} {H : List AObj} (i : Nat) {t : TypeId} {es : Nat} {l : Bool} {cs : List AV} (hi : H[i]? = some (.arr t es l cs)) (hz : FrzL cs)
    (h : exRet (ctx P G n0) rs R .ret ⟨thawL i es cs f, (H.map (thawO i es cs)).set i .dead⟩) : exRet (ctx P G n0) rs R .ret ⟨f, H⟩ :=
  ret_gh _ (Gh.freeze (s := ⟨f, H⟩) hi hz) h

/-! ### Calls -/
/-- An object becomes a tree ahead of a call. -/
theorem ACall.fz {n0 : Nat} {f : FuncId} {args : List AV} {fr : List AV} {H : List AObj} {K : AV → St → Prop} (i : Nat) {t : TypeId} {es : Nat} {l : Bool} {cs : List AV} (hi : H[i]? = some (.arr t es l cs)) (hz : FrzL cs)
    {tg : Tag K} (h : ACallF (ctx P G n0) f (thawL i es cs args) ⟨thawL i es cs fr, (H.map (thawO i es cs)).set i .dead⟩ K tg) : ACallF (ctx P G n0) f args ⟨fr, H⟩ K tg := by
  refine ACall.gh (s' := ⟨thawL i es cs fr, (H.map (thawO i es cs)).set i .dead⟩) (thawL_length _ _ _ _) ?_ h
  have := Gh.freeze (G := G) (n0 := n0) (s := ⟨fr ++ args, H⟩) hi hz
  simpa only [thawL_append] using this
/-- The last object, that is dead, falls away ahead of a round's end. -/
theorem LN.via {n0 : Nat} {α : Type} {st : α → St} {inv : α → Prop} {ms : α → Nat} {n : Nat} {s : St} (s' : St) (h : Gh G n0 s s') (k : LN P G n0 st inv ms n s') : LN P G n0 st inv ms n s := by
  obtain ⟨s1, m, h1, h2, h3⟩ := k
  exact ⟨s1, m, Gh.trans h h1, h2, h3⟩

/-! ### Lists of slots, reckoned -/
theorem avmL : (∀ (a d : AV) (l : List AV), (a :: l).getD 0 d = a) ∧ (∀ (a d : AV) (l : List AV) (n : Nat), (a :: l).getD (n + 1) d = l.getD n d) ∧
    (∀ (a b : AV) (l : List AV), (a :: l).set 0 b = b :: l) ∧ (∀ (a b : AV) (l : List AV) (n : Nat), (a :: l).set (n + 1) b = a :: l.set n b) ∧
    (∀ (g : IA → AV), List.map g [] = []) ∧ (∀ (g : IA → AV) (a : IA) (l : List IA), List.map g (a :: l) = g a :: List.map g l) ∧
    (∀ (g : IA → AV), Option.map g none = none) ∧ (∀ (g : IA → AV) (a : IA), Option.map g (some a) = some (g a)) ∧
    (∀ (a d : AObj) (l : List AObj), (a :: l).getD 0 d = a) ∧ (∀ (a d : AObj) (l : List AObj) (n : Nat), (a :: l).getD (n + 1) d = l.getD n d) ∧
    (∀ (a b : AObj) (l : List AObj), (a :: l).set 0 b = b :: l) ∧ (∀ (a b : AObj) (l : List AObj) (n : Nat), (a :: l).set (n + 1) b = a :: l.set n b) ∧
    (∀ (l : List AObj), [] ++ l = l) ∧ (∀ (a : AObj) (l m : List AObj), (a :: l) ++ m = a :: (l ++ m)) ∧
    (([] : List AObj).length = 0) ∧ (∀ (a : AObj) (l : List AObj), (a :: l).length = l.length + 1) ∧
    (([] : List AV).length = 0) ∧ (∀ (a : AV) (l : List AV), (a :: l).length = l.length + 1) ∧
    (∀ (l : List AV), [] ++ l = l) ∧ (∀ (a : AV) (l m : List AV), (a :: l) ++ m = a :: (l ++ m)) := by
  refine ⟨fun _ _ _ => rfl, fun _ _ _ _ => rfl, fun _ _ _ => rfl, fun _ _ _ _ => rfl, fun _ => rfl, fun _ _ _ => rfl, fun _ => rfl, fun _ _ => rfl, fun _ _ _ => rfl, fun _ _ _ _ => rfl, fun _ _ _ => rfl, fun _ _ _ _ => rfl, fun _ => rfl, fun _ _ _ => rfl, rfl, fun _ _ => rfl, rfl, fun _ _ => rfl, fun _ => rfl, fun _ _ _ => rfl⟩
/-- What fills one cell; small sums. -/
theorem avmO : (∀ H, OneL H [] = True) ∧ (∀ H x l, OneL H (x :: l) = (OneC H x ∧ OneL H l)) ∧ (∀ H k n, OneC H (.int k n) = True) ∧ (∀ H b, OneC H (.bool b) = True) ∧ (∀ H s, OneC H (.str s) = True) ∧ (∀ H, OneC H .nilp = True) ∧
    (∀ H cs o, OneC H (.ptr cs o) = True) ∧ (∀ H, OneC H .nils = True) ∧ (∀ H n cs, OneC H (.sl n cs) = True) ∧ (∀ H k l, OneC H (slV k l) = True) ∧ (∀ H k l, OneL H (row k l) = True) ∧ (∀ H i o, OneC H (.own i o) = liveP (H.getD i .dead) True) ∧ (∀ H i o n, OneC H (.osl i o n) = liveP (H.getD i .dead) True) ∧
    (∀ n : Nat, n * 1 = n) ∧ (∀ n : Nat, 1 * n = n) ∧ (∀ n : Nat, 0 + n = n) ∧ (∀ n : Nat, n + 0 = n) ∧ (∀ n : Int, n - 0 = n) ∧ (∀ n : Nat, ((n : Nat) : Int).toNat = n) ∧ (Int.toNat 0 = 0) ∧ (∀ l : List AV, l.drop 0 = l) ∧
    (∀ p : Prop, (True ∧ p) = p) ∧ (∀ p : Prop, (p ∧ True) = p) ∧ ((!true) = false) ∧ ((!false) = true) ∧ ((true == true) = true) ∧ ((false == true) = false) ∧ ((true == false) = false) ∧ ((false == false) = true) ∧ ((true != true) = false) ∧ ((false != true) = true) ∧ ((true != false) = true) ∧ ((false != false) = false) ∧
    (∀ b : Bool, (b == true) = b) ∧ (∀ b : Bool, (b == false) = !b) ∧ (∀ b : Bool, (b != false) = b) ∧ (∀ b : Bool, (b != true) = !b) ∧ (∀ p : Prop, (0 < 1 ∧ p) = p) ∧ (∀ k l, cellsOf (slV k l) = [slV k l]) ∧ (∀ n : Nat, (0 ≤ (n : Int)) = True) ∧ (∀ n : Int, (n ≤ n) = True) ∧ (∀ n : Nat, (n ≤ n) = True) ∧ (∀ k l, (row k l).length = l.length) ∧ (∀ k l n, (row k l).take n = row k (l.take n)) ∧ (∀ k l n, (row k l).drop n = row k (l.drop n)) ∧ (∀ k l m, row k l ++ row k m = row k (l ++ m)) ∧ (∀ (k : IntKind) (l : List Nat) (i x : Nat), (row k l).set i (.int k (x : Int)) = row k (l.set i x)) ∧
    (∀ i k l, killL i (row k l) = row k l) ∧ (∀ n : Nat, (0 ≤ n) = True) ∧ (∀ n : Nat, n - 0 = n) ∧ (∀ n : Nat, ((n : Int) ≠ 0) = (n ≠ 0)) ∧ (∀ n : Nat, (n + 1 ≠ 0) = True) ∧ (∀ n : Int, 0 - n = -n) := by
  refine ⟨fun H => ?_, fun H x l => ?_, fun _ _ _ => rfl, fun _ _ => rfl, fun _ _ => rfl, fun _ => rfl, fun _ _ _ => rfl, fun _ => rfl, fun _ _ _ => rfl, fun _ _ _ => rfl, fun H k l => ?_, fun _ _ _ => rfl, fun _ _ _ _ => rfl, Nat.mul_one, Nat.one_mul, Nat.zero_add, Nat.add_zero, Int.sub_zero, Int.toNat_natCast, rfl, fun _ => rfl,
    fun p => by simp, fun p => by simp, rfl, rfl, rfl, rfl, rfl, rfl, rfl, rfl, rfl, rfl, by decide, by decide, by decide, by decide, fun p => by simp, fun _ _ => rfl, fun n => by simp, fun n => by simp, fun n => by simp, row_length, row_take, row_drop, row_append, row_set, row_killL, fun n => by simp, fun _ => rfl, fun n => propext ⟨fun h => by omega, fun h => by omega⟩, fun n => by simp, Int.zero_sub⟩
  · simp [OneL]
  · simp [OneL]
  · simp [row_one]
/-- Results. -/
theorem avmR : (∀ (s : St) (K : List AV → Prop), resP s [] K = K []) ∧ (∀ (f : List AV) (H : List AObj) (i : Nat) (rs : List IR) (K : List AV → Prop), resP ⟨f, H⟩ (.t i :: rs) K = resP ⟨f, H⟩ rs fun xs => K (f.getD i .junk :: xs)) ∧
    (∀ (f : List AV) (H : List AObj) (i : Nat) (n : Option Nat) (rs : List IR) (K : List AV → Prop), resP ⟨f, H⟩ (.c i n :: rs) K = loadP H n (f.getD i .junk) fun x => resP ⟨f, H⟩ rs fun xs => K (x :: xs)) ∧
    (∀ x, tupOf [x] = x) ∧ (tupOf [] = .tup []) ∧ (∀ x y l, tupOf (x :: y :: l) = .tup (x :: y :: l)) :=
  ⟨fun _ _ => rfl, fun _ _ _ _ _ => rfl, fun _ _ _ _ _ _ => rfl, fun _ => rfl, rfl, fun _ _ _ => rfl⟩
/-- What freezing makes of slots. -/
theorem avmT : (∀ i es cs, thawL i es cs [] = []) ∧ (∀ i es cs c l, thawL i es cs (c :: l) = thaw i es cs c :: thawL i es cs l) ∧
    (∀ i es cs k n, thaw i es cs (.int k n) = .int k n) ∧ (∀ i es cs b, thaw i es cs (.bool b) = .bool b) ∧ (∀ i es cs b, thaw i es cs (.str b) = .str b) ∧ (∀ i es cs, thaw i es cs .nilp = .nilp) ∧
    (∀ i es cs l o, thaw i es cs (.ptr l o) = .ptr l o) ∧ (∀ i es cs, thaw i es cs .nils = .nils) ∧ (∀ i es cs l o, thaw i es cs (.sl l o) = .sl l o) ∧ (∀ i es cs v, thaw i es cs (.raw v) = .raw v) ∧ (∀ i es cs, thaw i es cs .junk = .junk) ∧
    (∀ i es cs l, thaw i es cs (.agg l) = .agg (thawL i es cs l)) ∧ (∀ i es cs l, thaw i es cs (.tup l) = .tup (thawL i es cs l)) ∧ (∀ i es cs f l, thaw i es cs (.fn f l) = .fn f (thawL i es cs l)) ∧
    (∀ i es cs o, thaw i es cs (.own i o) = .ptr cs o) ∧ (∀ i es cs o n, thaw i es cs (.osl i o n) = if o + n * es ≤ cs.length then .sl n ((cs.drop o).take (n * es)) else .junk) ∧
    (∀ i j es cs o, j ≠ i → thaw i es cs (.own j o) = .own j o) ∧ (∀ i j es cs o n, j ≠ i → thaw i es cs (.osl j o n) = .osl j o n) ∧
    (∀ i es cs k l, thaw i es cs (slV k l) = slV k l) ∧
    (∀ i es cs t e l c, thawO i es cs (.arr t e l c) = .arr t e l (thawL i es cs c)) ∧ (∀ i es cs, thawO i es cs .dead = .dead) ∧ (∀ i es cs k m, thawO i es cs (.mp k m) = .mp k m) ∧
    (∀ i es cs k l, thawL i es cs (row k l) = row k l) ∧
    (∀ (g : AObj → AObj), List.map g [] = []) ∧ (∀ (g : AObj → AObj) (a : AObj) (l : List AObj), List.map g (a :: l) = g a :: List.map g l) := by
  refine ⟨fun _ _ _ => rfl, fun _ _ _ _ _ => rfl, fun _ _ _ _ _ => rfl, fun _ _ _ _ => rfl, fun _ _ _ _ => rfl, fun _ _ _ => rfl, fun _ _ _ _ _ => rfl, fun _ _ _ => rfl, fun _ _ _ _ _ => rfl, fun _ _ _ _ => rfl, fun _ _ _ => rfl, fun _ _ _ _ => rfl, fun _ _ _ _ => rfl, fun _ _ _ _ _ => rfl,
    fun _ _ _ _ => by simp [thaw], fun _ _ _ _ _ => by simp [thaw], fun i j _ _ _ h => by simp [thaw, h], fun i j _ _ _ _ h => by simp [thaw, h], fun _ _ _ _ _ => rfl, fun _ _ _ _ _ _ _ => rfl, fun _ _ _ => rfl, fun _ _ _ _ _ => rfl, fun _ _ _ k l => thawL_frz _ (row_frz k l), fun _ => rfl, fun _ _ _ => rfl⟩
/-- Slots far up. -/
theorem avm8 : (∀ (a0 a1 a2 a3 a4 a5 a6 a7 d : AV) (l : List AV) (n : Nat), (a0 :: a1 :: a2 :: a3 :: a4 :: a5 :: a6 :: a7 :: l).getD (n + 8) d = l.getD n d) ∧
    (∀ (a0 a1 a2 a3 a4 a5 a6 a7 b : AV) (l : List AV) (n : Nat), (a0 :: a1 :: a2 :: a3 :: a4 :: a5 :: a6 :: a7 :: l).set (n + 8) b = a0 :: a1 :: a2 :: a3 :: a4 :: a5 :: a6 :: a7 :: l.set n b) :=
  ⟨fun _ _ _ _ _ _ _ _ _ _ _ => rfl, fun _ _ _ _ _ _ _ _ _ _ _ => rfl⟩
end Go.Avm
/- What walks are reckoned by, in two bundles. -/
set_option linter.unusedVariables false
namespace Go.Avm
open Go Va
/-- An unset slot. -/
abbrev J : AV := .junk
/-- To be met on the way down. -/
theorem avp : type_of% (And.intro (@c_ifT) (And.intro (@c_ifF) (And.intro avm8 avmW))) :=
  And.intro (@c_ifT) (And.intro (@c_ifF) (And.intro avm8 avmW))
/-- To be met on the way up. -/
theorem avq : type_of% (And.intro avmD (And.intro avmL (And.intro avmO (And.intro avmR (And.intro avmN (And.intro avmM (And.intro (@wi64) (And.intro (@csub) (And.intro (@row_getD) (And.intro row_reps (And.intro (@decide_true) (And.intro (@decide_false) (And.intro (@true_imp_iff) (And.intro (@Nat.min_eq_left) (And.intro (fun (l : List Nat) => (List.drop_zero : l.drop 0 = l)) (And.intro (fun (l : List UInt8) => (List.drop_zero : l.drop 0 = l)) (fun (l : List AV) => (List.drop_zero : l.drop 0 = l)))))))))))))))))) :=
  And.intro avmD (And.intro avmL (And.intro avmO (And.intro avmR (And.intro avmN (And.intro avmM (And.intro (@wi64) (And.intro (@csub) (And.intro (@row_getD) (And.intro row_reps (And.intro (@decide_true) (And.intro (@decide_false) (And.intro (@true_imp_iff) (And.intro (@Nat.min_eq_left) (And.intro (fun (l : List Nat) => (List.drop_zero : l.drop 0 = l)) (And.intro (fun (l : List UInt8) => (List.drop_zero : l.drop 0 = l)) (fun (l : List AV) => (List.drop_zero : l.drop 0 = l)))))))))))))))))
end Go.Avm
/- How the program's numbers stand as trees. -/
set_option linter.unusedSimpArgs false
set_option linter.unusedVariables false
namespace Go.Avm
open Go Va
/-- A natural number of package nat. -/
def natV (n : Nat) : AV := .ptr [slV .u32 (dig 4294967296 n)] 0
theorem natV_frz (n : Nat) : Frz (natV n) = True := by simp only [natV, avmF, and_true]
/-- A natural number of the reference. -/
def refV (n : Nat) : AV := slV .i64 (dig 10000 n)
theorem refV_frz (n : Nat) : Frz (refV n) = True := by simp only [refV, avmF]
theorem B32 : 1 < 4294967296 := by decide
theorem B10 : 1 < 10000 := by decide
end Go.Avm
/- Own memory that is seen no more falls away; what appending makes of slots. -/
set_option linter.unusedSimpArgs false
set_option linter.unusedVariables false
namespace Go.Avm
open Go Va
variable {P : Program} {G : Glob}
mutual
theorem kill_thaw (i es : Nat) (cs : List AV) : ∀ x : AV, kill i (thaw i es cs x) = thaw i es cs x
  | .own j o => by
    simp only [thaw]
    split
    · rfl
    · next h => simp only [kill, if_neg h]
  | .osl j o n => by
    simp only [thaw]
    split
    · split <;> rfl
    · next h => simp only [kill, if_neg h]
  | .agg l => by simp only [thaw, kill, killL_thaw i es cs l]
  | .tup l => by simp only [thaw, kill, killL_thaw i es cs l]
  | .fn f l => by simp only [thaw, kill, killL_thaw i es cs l]
  | .int _ _ => rfl
  | .bool _ => rfl
  | .str _ => rfl
  | .nilp => rfl
  | .ptr _ _ => rfl
  | .nils => rfl
  | .sl _ _ => rfl
  | .raw _ => rfl
  | .mref j => by
    simp only [thaw]
    split
    · rfl
    · next h => simp only [kill, if_neg h]
  | .junk => rfl
theorem killL_thaw (i es : Nat) (cs : List AV) : ∀ l : List AV, killL i (thawL i es cs l) = thawL i es cs l
  | [] => rfl
  | c :: l => by simp only [thawL, killL, kill_thaw i es cs c, killL_thaw i es cs l]
end
theorem killO_thawO (i es : Nat) (cs : List AV) (o : AObj) : killO i (thawO i es cs o) = thawO i es cs o := by
  cases o with
  | arr t e l c => simp only [thawO, killO, killL_thaw]
  | mp k m => rfl
  | dead => rfl
/-- The last object becomes a tree and falls away. -/
theorem Gh.fzc {n0 : Nat} {f : List AV} {H : List AObj} {i : Nat} {t : TypeId} {es : Nat} {l : Bool} {cs : List AV} (hi : i = H.length) (hn : n0 ≤ i) (hz : FrzL cs) :
    Gh G n0 ⟨f, H ++ [.arr t es l cs]⟩ ⟨thawL i es cs f, H.map (thawO i es cs)⟩ := by
  subst hi
  have h1 := Gh.freeze (G := G) (n0 := n0) (s := ⟨f, H ++ [.arr t es l cs]⟩) (i := H.length) (t := t) (lent := l) (es := es) (cs := cs) (by simp) hz
  have h2 : ((H ++ [AObj.arr t es l cs]).map (thawO H.length es cs)).set H.length .dead = H.map (thawO H.length es cs) ++ [.dead] := by
    rw [List.map_append, List.set_append_right _ _ (by simp)]
    simp
  simp only [h2] at h1
  have h3 := Gh.cut (G := G) (n0 := n0) (f := thawL H.length es cs f) (H := H.map (thawO H.length es cs)) (i := H.length) (by simp) hn
  rw [killL_thaw, List.map_map] at h3
  have h4 : H.map (killO H.length ∘ thawO H.length es cs) = H.map (thawO H.length es cs) := List.map_congr_left fun o _ => killO_thawO _ _ _ o
  rw [h4] at h3
  exact Gh.trans h1 h3
mutual
theorem kill_kill (i : Nat) : ∀ x : AV, kill i (kill i x) = kill i x
  | .own j o => by
    simp only [kill]
    split
    · rfl
    · next h => simp only [kill, if_neg h]
  | .osl j o n => by
    simp only [kill]
    split
    · rfl
    · next h => simp only [kill, if_neg h]
  | .agg l => by simp only [kill, killL_killL i l]
  | .tup l => by simp only [kill, killL_killL i l]
  | .fn f l => by simp only [kill, killL_killL i l]
  | .int _ _ => rfl
  | .bool _ => rfl
  | .str _ => rfl
  | .nilp => rfl
  | .ptr _ _ => rfl
  | .nils => rfl
  | .sl _ _ => rfl
  | .raw _ => rfl
  | .mref j => by
    simp only [kill]
    split
    · rfl
    · next h => simp only [kill, if_neg h]
  | .junk => rfl
theorem killL_killL (i : Nat) : ∀ l : List AV, killL i (killL i l) = killL i l
  | [] => rfl
  | c :: l => by simp only [killL, kill_kill i c, killL_killL i l]
end
/-- The last object is seen no more. -/
theorem Gh.drop {n0 : Nat} {f : List AV} {H : List AObj} {i : Nat} {o : AObj} (hi : i = H.length) (hn : n0 ≤ i) :
    Gh G n0 ⟨f, H ++ [o]⟩ ⟨killL i f, H.map (killO i)⟩ := by
  subst hi
  have h1 := Gh.dead (G := G) (n0 := n0) (s := ⟨f, H ++ [o]⟩) (i := H.length) (o := o) (by simp)
  have h2 : ((H ++ [o]).map (killO H.length)).set H.length .dead = H.map (killO H.length) ++ [.dead] := by
    rw [List.map_append, List.set_append_right _ _ (by simp)]
    simp
  simp only [h2] at h1
  have h3 := Gh.cut (G := G) (n0 := n0) (f := killL H.length f) (H := H.map (killO H.length)) (i := H.length) (by simp) hn
  rw [killL_killL, List.map_map] at h3
  have h4 : H.map (killO H.length ∘ killO H.length) = H.map (killO H.length) := List.map_congr_left fun o _ => by
    cases o with
    | arr t e l c => simp only [Function.comp, killO, killL_killL]
    | mp k m => rfl
    | dead => rfl
  rw [h4] at h3
  exact Gh.trans h1 h3
/-- An own slice becomes a tree ahead of a call, and falls away. -/
theorem ACall.fzc {n0 : Nat} {f : FuncId} {args : List AV} {fr : List AV} {H H0 : List AObj} {K : AV → St → Prop} (i : Nat) {t : TypeId} {es : Nat} {l : Bool} {cs : List AV} (hH : H = H0 ++ [.arr t es l cs]) (hi : i = H0.length) (hn : n0 ≤ i) (hz : FrzL cs)
    {tg : Tag K} (h : ACallF (ctx P G n0) f (thawL i es cs args) ⟨thawL i es cs fr, H0.map (thawO i es cs)⟩ K tg) : ACallF (ctx P G n0) f args ⟨fr, H⟩ K tg := by
  subst hH
  refine ACall.gh (s' := ⟨thawL i es cs fr, H0.map (thawO i es cs)⟩) (thawL_length _ _ _ _) ?_ h
  have := Gh.fzc (G := G) (n0 := n0) (f := fr ++ args) (H := H0) (t := t) (es := es) (l := l) hi hn hz
  simpa only [thawL_append] using this
/-- The last object is seen no more at a round's end. -/
theorem LN.drop {n0 : Nat} {α : Type} {st : α → St} {inv : α → Prop} {ms : α → Nat} {n : Nat} {f : List AV} {H0 : List AObj} {o : AObj} (i : Nat) (hi : i = H0.length) (hn : n0 ≤ i)
    (k : LN P G n0 st inv ms n ⟨killL i f, H0.map (killO i)⟩) : LN P G n0 st inv ms n ⟨f, H0 ++ [o]⟩ := LN.via _ (Gh.drop hi hn) k
/-- The last object becomes a tree at a round's end. -/
theorem LN.fzc {n0 : Nat} {α : Type} {st : α → St} {inv : α → Prop} {ms : α → Nat} {n : Nat} {f : List AV} {H0 : List AObj} {t : TypeId} {es : Nat} {l : Bool} {cs : List AV} (i : Nat) (hi : i = H0.length) (hn : n0 ≤ i) (hz : FrzL cs)
    (k : LN P G n0 st inv ms n ⟨thawL i es cs f, H0.map (thawO i es cs)⟩) : LN P G n0 st inv ms n ⟨f, H0 ++ [.arr t es l cs]⟩ := LN.via _ (Gh.fzc hi hn hz) k
/-- A nil slice is told as an empty one. -/
theorem wk_frame_nils {f g : List AV} : WkL (f ++ .nils :: g) (f ++ .sl 0 [] :: g) := by
  induction f with
  | nil => exact .cons Wk.nils (WkL.refl _)
  | cons x f ih => exact .cons (Wk.refl x) ih
/-- What killing makes of slots. -/
theorem avmK : (∀ i, killL i [] = []) ∧ (∀ i c l, killL i (c :: l) = kill i c :: killL i l) ∧ (∀ i k n, kill i (.int k n) = .int k n) ∧ (∀ i b, kill i (.bool b) = .bool b) ∧ (∀ i b, kill i (.str b) = .str b) ∧ (∀ i, kill i .nilp = .nilp) ∧
    (∀ i l o, kill i (.ptr l o) = .ptr l o) ∧ (∀ i, kill i .nils = .nils) ∧ (∀ i n l, kill i (.sl n l) = .sl n l) ∧ (∀ i v, kill i (.raw v) = .raw v) ∧ (∀ i, kill i .junk = .junk) ∧ (∀ i l, kill i (.agg l) = .agg (killL i l)) ∧ (∀ i l, kill i (.tup l) = .tup (killL i l)) ∧
    (∀ i f l, kill i (.fn f l) = .fn f (killL i l)) ∧ (∀ i o, kill i (.own i o) = .junk) ∧ (∀ i o n, kill i (.osl i o n) = .junk) ∧ (∀ i j o, j ≠ i → kill i (.own j o) = .own j o) ∧ (∀ i j o n, j ≠ i → kill i (.osl j o n) = .osl j o n) ∧
    (∀ i k l, kill i (slV k l) = slV k l) ∧ (∀ i n, kill i (natV n) = natV n) ∧ (∀ i n, kill i (refV n) = refV n) ∧ (∀ i t e l c, killO i (.arr t e l c) = .arr t e l (killL i c)) ∧ (∀ i, killO i .dead = .dead) ∧ (∀ i k l, killL i (row k l) = row k l) ∧
    (∀ (g : AObj → AObj), List.map g [] = []) ∧ (∀ (g : AObj → AObj) (a : AObj) (l : List AObj), List.map g (a :: l) = g a :: List.map g l) ∧ (∀ i es cs n, thaw i es cs (natV n) = natV n) ∧ (∀ i es cs n, thaw i es cs (refV n) = refV n) := by
  refine ⟨fun _ => rfl, fun _ _ _ => rfl, fun _ _ _ => rfl, fun _ _ => rfl, fun _ _ => rfl, fun _ => rfl, fun _ _ _ => rfl, fun _ => rfl, fun _ _ _ => rfl, fun _ _ => rfl, fun _ => rfl, fun _ _ => rfl, fun _ _ => rfl, fun _ _ _ => rfl, fun _ _ => by simp [kill], fun _ _ _ => by simp [kill], fun i j _ h => by simp [kill, h], fun i j _ _ h => by simp [kill, h],
    fun _ _ _ => rfl, fun _ _ => rfl, fun _ _ => rfl, fun _ _ _ _ _ => rfl, fun _ => rfl, row_killL, fun _ => rfl, fun _ _ _ => rfl, fun _ _ _ _ => rfl, fun _ _ _ _ => rfl⟩
/-- A call that writes, at a call. -/
theorem AC.callF {n0 : Nat} {f : FuncId} {args : List AV} {s : St} {R : AV → List AObj → Prop} (h : AC P G f args s.H R) {K : AV → St → Prop} (k : ∀ x H', R x H' → K x ⟨s.f, H'⟩) {tg : Tag K} : ACallF (ctx P G n0) f args s K tg := AC.call h k
end Go.Avm
/- A piece of code behind its first pieces. -/
namespace Go.Avm
/-- What stands behind the first n pieces. -/
def peel : Nat → IC → IC
  | 0, c => c
  | n + 1, .seq _ b => peel n b
  | _ + 1, c => c
/-- What stands ahead. -/
def lft : IC → IC
  | .seq a _ => a
  | c => c
end Go.Avm
