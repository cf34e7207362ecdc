/- Joined texts. -/
import Derived.Test.YtdhhdjnhjlomkaaGreatDoorFD
import Derived.Lib.SlTrimSet
import Derived.Lib.IndexAny
import Derived.Lib.ParseIntB
import Derived.Lib.Repeat
import Derived.Lib.IndexMore
import Derived.Lib.AtoiAll
import Derived.Lib.ItoaNum
/- What Go's library functions that are met here compute, on lists of bytes. -/
namespace Go.Avm
open Go

def memU (x : UInt8) : List UInt8 → Bool
  | [] => false
  | y :: l => match Nat.beq x.toNat y.toNat with
    | true => true
    | false => memU x l
def trimL (cs : List UInt8) : List UInt8 → List UInt8
  | [] => []
  | x :: l => match memU x cs with
    | true => trimL cs l
    | false => x :: l
def trimB (s cs : List UInt8) : List UInt8 := trimL cs (trimL cs s.reverse).reverse
def isDig (x : UInt8) : Bool := Nat.ble 48 x.toNat && Nat.ble x.toNat 57
def allDig : List UInt8 → Bool
  | [] => true
  | x :: l => match isDig x with
    | true => allDig l
    | false => false
def decVal : List UInt8 → Nat → Nat
  | [], n => n
  | x :: l, n => decVal l (n * 10 + (x.toNat - 48))
def decText : Nat → Nat → List UInt8 → List UInt8
  | 0, _, acc => acc
  | k + 1, n, acc => match Nat.blt n 10 with
    | true => UInt8.ofNat (48 + n) :: acc
    | false => decText k (n / 10) (UInt8.ofNat (48 + n % 10) :: acc)
def repB (s : List UInt8) : Nat → List UInt8
  | 0 => []
  | n + 1 => s ++ repB s n
def isPre : List UInt8 → List UInt8 → Bool
  | [], _ => true
  | _ :: _, [] => false
  | x :: p, y :: s => match Nat.beq x.toNat y.toNat with
    | true => isPre p s
    | false => false
def cutAt (sep : List UInt8) : List UInt8 → List UInt8 → Option (List UInt8 × List UInt8)
  | [], _ => none
  | x :: s, acc => match isPre sep (x :: s) with
    | true => some (acc.reverse, (x :: s).drop sep.length)
    | false => cutAt sep s (x :: acc)
def anyAt (cs : List UInt8) : List UInt8 → Nat → Option Nat
  | [], _ => none
  | x :: s, i => match memU x cs with
    | true => some i
    | false => anyAt cs s (i + 1)
def nilErr : AV := .raw .nilIface
end Go.Avm
/- The small text functions by which the kernel reckons are the library's. -/
set_option linter.unusedSimpArgs false
set_option linter.unusedVariables false
namespace Go.Avm
theorem memU_eq (x : UInt8) : ∀ l : List UInt8, memU x l = l.contains x
  | [] => rfl
  | y :: l => by
    rw [List.contains_cons, memU]
    cases h : Nat.beq x.toNat y.toNat with
    | true =>
      have : x = y := UInt8.toNat_inj.1 (Nat.eq_of_beq_eq_true h)
      simp [this]
    | false =>
      have : x ≠ y := fun e => by rw [e, Nat.beq_refl] at h; cases h
      simp [this, memU_eq x l]
theorem trimL_eq (cs : List UInt8) : ∀ l : List UInt8, trimL cs l = Lib.trimLeftS l cs
  | [] => rfl
  | x :: l => by
    have ih := trimL_eq cs l
    unfold Lib.trimLeftS at ih ⊢
    rw [trimL, memU_eq, List.dropWhile_cons]
    cases h : cs.contains x with
    | true => simp only [if_true]; exact ih
    | false => simp
theorem trimB_eq (s cs : List UInt8) : trimB s cs = Lib.trimS s cs := by
  unfold trimB Lib.trimS Lib.trimRightS
  rw [trimL_eq, trimL_eq]
  rfl
theorem decText_eq : ∀ (k n : Nat) (acc : List UInt8), n < 10 ^ k → 0 < k → decText k n acc = Lib.decDigits n ++ acc
  | 0, _, _, _, h => by omega
  | k + 1, n, acc, hn, _ => by
    rw [decText, Lib.decDigits]
    cases h : Nat.blt n 10 with
    | true =>
      have h' : n < 10 := by have : n ≤ 9 := by simpa [Nat.blt] using h
                             omega
      simp [h']
    | false =>
      have h' : ¬ n < 10 := fun h' => by
        have : Nat.blt n 10 = true := by simp [Nat.blt]; omega
        rw [this] at h; cases h
      simp only [h', dite_false]
      have hk : 0 < k := by
        rcases Nat.eq_zero_or_pos k with rfl | hk
        · simp at hn; omega
        · exact hk
      rw [decText_eq k (n / 10) _ (by rw [Nat.pow_succ] at hn; omega) hk]
      simp
theorem decVal_ge : ∀ (s : List UInt8) (n : Nat), n ≤ decVal s n
  | [], n => Nat.le_refl _
  | x :: l, n => by
    rw [decVal]
    have := decVal_ge l (n * 10 + (x.toNat - 48))
    omega
theorem allDig_cons {x : UInt8} {l : List UInt8} (h : allDig (x :: l) = true) : (48 ≤ x.toNat ∧ x.toNat ≤ 57) ∧ allDig l = true := by
  rw [allDig] at h
  cases e : isDig x with
  | true =>
    rw [e] at h
    simp [isDig] at e
    exact ⟨e, h⟩
  | false => rw [e] at h; cases h
theorem parseM_eq (M : Nat) (hM : M < 1844674407370955162) : ∀ (s : List UInt8) (acc : Nat), allDig s = true → decVal s acc ≤ M → Lib.parseUintM M acc s = .ok (decVal s acc)
  | [], acc, _, _ => rfl
  | x :: l, acc, hd, hv => by
    obtain ⟨h1, h2⟩ := allDig_cons hd
    rw [decVal] at hv ⊢
    have := decVal_ge l (acc * 10 + (x.toNat - 48))
    rw [Lib.parseUintM, if_pos h1, if_neg (by omega), if_neg (by omega)]
    exact parseM_eq M hM l _ h2 hv
theorem parseB_eq {s : List UInt8} (hs : s ≠ []) (hd : allDig s = true) (hv : decVal s 0 ≤ 4294967295) : Lib.parseUintB 32 s = .ok (decVal s 0) := by
  rw [Lib.parseUintB, if_neg hs]
  exact parseM_eq _ (by decide) s 0 hd hv
theorem repB_eq (s : List UInt8) : ∀ n, repB s n = Lib.repeatL s n
  | 0 => rfl
  | n + 1 => by rw [repB, Lib.repeatL, repB_eq s n]
theorem isPre_eq : ∀ (p s : List UInt8), isPre p s = p.isPrefixOf s
  | [], _ => by simp [isPre]
  | _ :: _, [] => rfl
  | x :: p, y :: s => by
    rw [isPre, List.isPrefixOf]
    cases h : Nat.beq x.toNat y.toNat with
    | true =>
      have : x = y := UInt8.toNat_inj.1 (Nat.eq_of_beq_eq_true h)
      simp [this, isPre_eq p s]
    | false =>
      have : x ≠ y := fun e => by rw [e, Nat.beq_refl] at h; cases h
      simp [this]
theorem cutAt_eq (sep : List UInt8) (hsep : sep ≠ []) : ∀ (s acc : List UInt8), cutAt sep s acc = if 0 ≤ Lib.index s sep then some (acc.reverse ++ s.take (Lib.index s sep).toNat, s.drop ((Lib.index s sep).toNat + sep.length)) else none
  | [], acc => by
    have : sep.isEmpty = false := by cases sep with
      | nil => exact absurd rfl hsep
      | cons _ _ => rfl
    simp [cutAt, Lib.index, this]
  | x :: s, acc => by
    have ih := cutAt_eq sep hsep s (x :: acc)
    have hge := Lib.index_ge s sep
    rw [cutAt, Lib.index, isPre_eq]
    cases h : sep.isPrefixOf (x :: s) with
    | true => simp
    | false =>
      simp only [Bool.false_eq_true, if_false]
      rw [ih]
      by_cases e : Lib.index s sep = -1
      · simp [e]
      · have e' : (Lib.index s sep == -1) = false := by simpa using e
        have h0 : 0 ≤ Lib.index s sep := by omega
        have h1 : (Lib.index s sep + 1).toNat = (Lib.index s sep).toNat + 1 := by omega
        simp only [e', Bool.false_eq_true, if_false, if_pos h0, if_pos (show 0 ≤ Lib.index s sep + 1 by omega), h1]
        simp [Nat.add_right_comm]
theorem anyAt_eq (cs : List UInt8) : ∀ (s : List UInt8) (i : Nat), anyAt cs s i = if 0 ≤ Lib.indexAny s cs then some (i + (Lib.indexAny s cs).toNat) else none
  | [], i => by simp [anyAt, Lib.indexAny]
  | x :: s, i => by
    have ih := anyAt_eq cs s (i + 1)
    have hge := Lib.indexAny_ge cs s
    rw [anyAt, Lib.indexAny, memU_eq]
    cases h : cs.contains x with
    | true => simp
    | false =>
      simp only [Bool.false_eq_true, if_false]
      rw [ih]
      by_cases e : Lib.indexAny s cs = -1
      · simp [e]
      · have e' : (Lib.indexAny s cs == -1) = false := by simpa using e
        have h0 : 0 ≤ Lib.indexAny s cs := by omega
        simp only [e', Bool.false_eq_true, if_false, if_pos h0, if_pos (show 0 ≤ Lib.indexAny s cs + 1 by omega)]
        congr 1; omega
theorem parse10_eq : ∀ (s : List UInt8) (acc : Nat), allDig s = true → decVal s acc < 1844674407370955162 → Lib.parseUint10 acc s = .ok (decVal s acc)
  | [], acc, _, _ => rfl
  | x :: l, acc, hd, hv => by
    obtain ⟨h1, h2⟩ := allDig_cons hd
    rw [decVal] at hv ⊢
    have := decVal_ge l (acc * 10 + (x.toNat - 48))
    rw [Lib.parseUint10]
    simp only [h1, and_self, if_true]
    rw [if_neg (by omega)]
    first | exact parse10_eq l _ h2 hv | (rw [if_neg (by omega)]; exact parse10_eq l _ h2 hv)
theorem atoi_eq {s : List UInt8} (hs : s ≠ []) (hd : allDig s = true) (hv : decVal s 0 < 1844674407370955162) : Lib.atoiAll s = .ok ((decVal s 0 : Nat) : Int) := by
  cases s with
  | nil => exact absurd rfl hs
  | cons c r =>
    obtain ⟨h1, h2⟩ := allDig_cons hd
    have n43 : ¬ (c.toNat = 43 ∨ c.toNat = 45) := by omega
    have n45 : ¬ c.toNat = 45 := by omega
    have n43' : ¬ c.toNat = 43 := by omega
    unfold Lib.atoiAll Lib.parseMag
    simp only [n43', n45, or_self, if_false, not_false_eq_true, true_and, false_and, reduceCtorEq]
    rw [parse10_eq _ _ hd hv]
    simp only
    rw [if_neg (by omega)]
end Go.Avm
