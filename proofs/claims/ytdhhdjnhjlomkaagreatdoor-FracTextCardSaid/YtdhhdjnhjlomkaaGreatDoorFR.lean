/- Joined texts. -/
import Derived.Test.YtdhhdjnhjlomkaaGreatDoorBA
import Derived.Test.YtdhhdjnhjlomkaaGreatDoorFE
import Derived.Test.YtdhhdjnhjlomkaaGreatDoorFN
import Derived.Test.YtdhhdjnhjlomkaaGreatDoorNB
import Derived.Test.YtdhhdjnhjlomkaaGreatDoorTX
/- Numbers with a sign, as words. -/
set_option linter.unusedSimpArgs false
set_option linter.unusedVariables false
set_option maxRecDepth 100000
set_option maxHeartbeats 4000000
open Go Go.Avm
namespace Va
attribute [local irreducible] ACallF FCallF
variable {G : Glob}
theorem wu64_neg {u : Nat} (h0 : 0 < u) (h : u ≤ 18446744073709551616) : IntKind.u64.wrap (-(u : Int)) = ((18446744073709551616 - u : Nat) : Int) := by
  simp only [IntKind.wrap, IntKind.signed, IntKind.bits, Bool.false_and]
  simp
  omega
theorem wu64_pos {u : Nat} (h : u < 18446744073709551616) : IntKind.u64.wrap (u : Int) = (u : Int) := by
  simp only [IntKind.wrap, IntKind.signed, IntKind.bits, Bool.false_and]
  simp
  omega
theorem bits_Abs_px (x : Int) (hx : -9223372036854775808 ≤ x ∧ x ≤ 9223372036854775807) : PX P G n_bits_Abs [.int .i64 x] (.int .u64 ((x.natAbs : Nat) : Int)) := by
  refine PX_of_awp low_bits_Abs fol (by simp only [avmF, and_true]) (by simp only [avmF]) ?_
  by_cases h : x < 0
  · obtain ⟨u, rfl⟩ : ∃ u : Nat, x = -(u : Int) := ⟨x.natAbs, by omega⟩
    have w1 := wu64_neg (u := u) (by omega) (by omega)
    have w2 : IntKind.u64.wrap (-((18446744073709551616 - u : Nat) : Int)) = (u : Int) := by
      rw [wu64_neg (by omega) (by omega)]; omega
    have h' : -(u : Int) < ((0 : Nat) : Int) := h
    simp only [ir_bits_Abs, sX, mX, initF, List.replicate, Nat.reduceAdd, Nat.reduceSub, iv, avmL]
    simp (maxSteps := 2000000) only [↓avp, ↓avmD, avq, ↓reduceIte, Nat.reduceAdd, Nat.reduceMul, Nat.reduceSub, Nat.reduceLT, Nat.reduceLeDiff, Nat.reduceEqDiff, Nat.reducePow, Nat.reduceMod, h, h', w1, w2]
    refine ret_now ?_
    simp (maxSteps := 2000000) only [↓avp, ↓avmD, avq, ↓reduceIte, Nat.reduceAdd, Nat.reduceMul, Nat.reduceSub, Nat.reduceLT, Nat.reduceLeDiff, Nat.reduceEqDiff, Nat.reducePow, Nat.reduceMod, Int.natAbs_neg, Int.natAbs_natCast]
  · obtain ⟨u, rfl⟩ : ∃ u : Nat, x = (u : Int) := ⟨x.natAbs, by omega⟩
    have w1 := wu64_pos (u := u) (by omega)
    have w2 : u % 18446744073709551616 = u := Nat.mod_eq_of_lt (by omega)
    have n0 : ¬ u < 0 := by omega
    simp only [ir_bits_Abs, sX, mX, initF, List.replicate, Nat.reduceAdd, Nat.reduceSub, iv, avmL]
    simp (maxSteps := 2000000) only [↓avp, ↓avmD, avq, ↓reduceIte, Nat.reduceAdd, Nat.reduceMul, Nat.reduceSub, Nat.reduceLT, Nat.reduceLeDiff, Nat.reduceEqDiff, Nat.reducePow, Nat.reduceMod, w1, w2, n0]
    refine ret_now ?_
    simp (maxSteps := 2000000) only [↓avp, ↓avmD, avq, ↓reduceIte, Nat.reduceAdd, Nat.reduceMul, Nat.reduceSub, Nat.reduceLT, Nat.reduceLeDiff, Nat.reduceEqDiff, Nat.reducePow, Nat.reduceMod, w1, w2, Int.natAbs_natCast]
end Va
/- The program's fractions. -/
set_option linter.unusedSimpArgs false
set_option linter.unusedVariables false
set_option maxRecDepth 100000
set_option maxHeartbeats 8000000
open Go Go.Avm
namespace Va
attribute [local irreducible] ACallF FCallF
variable {G : Glob}
/-- A fraction of package frac. -/
def fracV (q : Rat) : AV := .ptr [.bool (decide (q.num < 0)), natV q.num.natAbs, natV q.den] 0
theorem fracV_frz (q : Rat) : Frz (fracV q) = True := by simp only [fracV, natV, avmF, and_true]
theorem natV_frzL (n : Nat) (l : List AV) : FrzL (natV n :: l) = FrzL l := by simp only [natV, avmF, true_and]
theorem avmQ : (∀ q, Frz (fracV q) = True) ∧ (∀ n, Frz (natV n) = True) ∧ (∀ H q, OneC H (fracV q) = True) ∧ (∀ H n, OneC H (natV n) = True) ∧ (∀ q, cellsOf (fracV q) = [fracV q]) ∧ (∀ n, cellsOf (natV n) = [natV n]) ∧ (∀ i es cs n, thaw i es cs (natV n) = natV n) ∧ (∀ i es cs q, thaw i es cs (fracV q) = fracV q) ∧ (∀ i q, kill i (fracV q) = fracV q) ∧ (∀ i n, kill i (natV n) = natV n) :=
  ⟨fracV_frz, natV_frz, fun _ _ => rfl, fun _ _ => rfl, fun _ => rfl, fun _ => rfl, fun _ _ _ _ => rfl, fun _ _ _ _ => rfl, fun _ _ => rfl, fun _ _ => rfl⟩
theorem avmV : (∀ H n k (K : AV → Prop), eqpnP H n (natV k) K = K (.bool n)) ∧ (∀ H n q (K : AV → Prop), eqpnP H n (fracV q) K = K (.bool n)) ∧ (∀ H k (K : AV → Prop), nilckP H (natV k) K = K (natV k)) ∧ (∀ H q (K : AV → Prop), nilckP H (fracV q) K = K (fracV q)) :=
  ⟨fun _ _ _ _ => rfl, fun _ _ _ _ => rfl, fun _ _ _ => rfl, fun _ _ _ => rfl⟩
theorem dl_zero_iff (n : Nat) : (dl 2 n = 0) = (n = 0) := propext (dl_eq_zero (by decide))
theorem frac_zero_px (n : Nat) (hn : dl 4294967296 n ≤ 1000000000) : PX P G n_frac_zero [natV n] (.bool (decide (n = 0))) := by
  refine PX_of_awp low_frac_zero fol (by simp only [avmF, avmQ, and_true]) (by simp only [avmF]) ?_
  have B := nat_Bits_px (G := G) n hn
  simp only [ir_frac_zero, sX, mX, initF, List.replicate, Nat.reduceAdd, Nat.reduceSub, iv, avmL]
  simp (maxSteps := 2000000) only [↓avp, ↓avmD, avq, ↓reduceIte, Nat.reduceAdd, Nat.reduceMul, Nat.reduceSub, Nat.reduceLT, Nat.reduceLeDiff, Nat.reduceEqDiff, Nat.reducePow, Nat.reduceMod]
  refine B.call ?_
  simp (maxSteps := 2000000) only [↓avp, ↓avmD, avq, ↓reduceIte, Nat.reduceAdd, Nat.reduceMul, Nat.reduceSub, Nat.reduceLT, Nat.reduceLeDiff, Nat.reduceEqDiff, Nat.reducePow, Nat.reduceMod, dl_zero_iff]
  refine ret_now ?_
  simp (maxSteps := 2000000) only [↓avp, ↓avmD, avq, ↓reduceIte, Nat.reduceAdd, Nat.reduceMul, Nat.reduceSub, Nat.reduceLT, Nat.reduceLeDiff, Nat.reduceEqDiff, Nat.reducePow, Nat.reduceMod]
theorem frac_zero_nil : PX P G n_frac_zero [.nilp] (.bool true) := by
  refine PX_of_awp low_frac_zero fol (by simp only [avmF, avmQ, and_true]) (by simp only [avmF]) ?_
  simp only [ir_frac_zero, sX, mX, initF, List.replicate, Nat.reduceAdd, Nat.reduceSub, iv, avmL]
  simp (maxSteps := 2000000) only [↓avp, ↓avmD, avq, ↓reduceIte, Nat.reduceAdd, Nat.reduceMul, Nat.reduceSub, Nat.reduceLT, Nat.reduceLeDiff, Nat.reduceEqDiff, Nat.reducePow, Nat.reduceMod]
  refine nat_Bits_nil.call ?_
  simp (maxSteps := 2000000) only [↓avp, ↓avmD, avq, ↓reduceIte, Nat.reduceAdd, Nat.reduceMul, Nat.reduceSub, Nat.reduceLT, Nat.reduceLeDiff, Nat.reduceEqDiff, Nat.reducePow, Nat.reduceMod]
  refine ret_now ?_
  simp (maxSteps := 2000000) only [↓avp, ↓avmD, avq, ↓reduceIte, Nat.reduceAdd, Nat.reduceMul, Nat.reduceSub, Nat.reduceLT, Nat.reduceLeDiff, Nat.reduceEqDiff, Nat.reducePow, Nat.reduceMod]
theorem frac_Parts_px (q : Rat) : PX P G n_frac_Frac_Parts [fracV q] (.tup [.bool (decide (q.num < 0)), natV q.num.natAbs, natV q.den]) := by
  refine PX_of_awp low_frac_Frac_Parts fol (by simp only [avmF, avmQ, and_true]) (by simp only [avmF, avmQ, and_true]) ?_
  have n1 : (!true) = false := rfl
  simp only [ir_frac_Frac_Parts, sX, mX, initF, List.replicate, Nat.reduceAdd, Nat.reduceSub, iv, avmL, fracV, natV]
  simp (maxSteps := 2000000) only [↓avp, ↓avmD, avq, ↓reduceIte, Nat.reduceAdd, Nat.reduceMul, Nat.reduceSub, Nat.reduceLT, Nat.reduceLeDiff, Nat.reduceEqDiff, Nat.reducePow, Nat.reduceMod, avmF, and_true]
  refine ret_now ?_
  simp (maxSteps := 2000000) only [↓avp, ↓avmD, avq, ↓reduceIte, Nat.reduceAdd, Nat.reduceMul, Nat.reduceSub, Nat.reduceLT, Nat.reduceLeDiff, Nat.reduceEqDiff, Nat.reducePow, Nat.reduceMod, natV]
theorem frac_Parts_nil : PX P G n_frac_Frac_Parts [.nilp] (.tup [.bool false, natV 0, natV 1]) := by
  refine PX_of_awp low_frac_Frac_Parts fol (by simp only [avmF, avmQ, and_true]) (by simp only [avmF, avmQ, and_true]) ?_
  have n1 : (!true) = false := rfl
  have n2 : (!false) = true := rfl
  simp only [ir_frac_Frac_Parts, sX, mX, initF, List.replicate, Nat.reduceAdd, Nat.reduceSub, iv, avmL]
  simp (maxSteps := 2000000) only [↓avp, ↓avmD, avq, ↓reduceIte, Nat.reduceAdd, Nat.reduceMul, Nat.reduceSub, Nat.reduceLT, Nat.reduceLeDiff, Nat.reduceEqDiff, Nat.reducePow, Nat.reduceMod, n2]
  repeat ((first | refine (nat_Of_px 0 (by decide)).call ?_ | refine (nat_Of_px 1 (by decide)).call ?_); simp (maxSteps := 2000000) only [↓avp, ↓avmD, avq, ↓reduceIte, Nat.reduceAdd, Nat.reduceMul, Nat.reduceSub, Nat.reduceLT, Nat.reduceLeDiff, Nat.reduceEqDiff, Nat.reducePow, Nat.reduceMod])
  refine ret_now ?_
  simp (maxSteps := 2000000) only [↓avp, ↓avmD, avq, ↓reduceIte, Nat.reduceAdd, Nat.reduceMul, Nat.reduceSub, Nat.reduceLT, Nat.reduceLeDiff, Nat.reduceEqDiff, Nat.reducePow, Nat.reduceMod]
theorem frac_New_no (b : Bool) (n : Nat) : PX P G n_frac_New [.bool b, natV n, natV 0] (.tup [.nilp, .bool false]) := by
  refine PX_of_awp low_frac_New fol (by simp only [avmF, avmQ, and_true]) (by simp only [avmF, avmQ, and_true]) ?_
  have Z := frac_zero_px (G := G) 0 (by rw [dl_zero]; decide)
  simp only [ir_frac_New, sX, mX, initF, List.replicate, Nat.reduceAdd, Nat.reduceSub, iv, avmL]
  simp (maxSteps := 2000000) only [↓avp, ↓avmD, avq, ↓reduceIte, Nat.reduceAdd, Nat.reduceMul, Nat.reduceSub, Nat.reduceLT, Nat.reduceLeDiff, Nat.reduceEqDiff, Nat.reducePow, Nat.reduceMod]
  refine Z.call ?_
  simp (maxSteps := 2000000) only [↓avp, ↓avmD, avq, ↓reduceIte, Nat.reduceAdd, Nat.reduceMul, Nat.reduceSub, Nat.reduceLT, Nat.reduceLeDiff, Nat.reduceEqDiff, Nat.reducePow, Nat.reduceMod]
  refine ret_now ?_
  simp (maxSteps := 2000000) only [↓avp, ↓avmD, avq, ↓reduceIte, Nat.reduceAdd, Nat.reduceMul, Nat.reduceSub, Nat.reduceLT, Nat.reduceLeDiff, Nat.reduceEqDiff, Nat.reducePow, Nat.reduceMod]
theorem frac_New_px (b : Bool) (n d : Nat) (hd : d ≠ 0) (hn1 : dl 4294967296 n ≤ 900000000) (hd1 : dl 4294967296 d ≤ 900000000) : PX P G n_frac_New [.bool b, natV n, natV d] (.tup [fracV (mkRat (sgn b n) d), .bool true]) := by
  refine PX_of_awp low_frac_New fol (by simp only [avmF, avmQ, and_true]) (by simp only [avmF, avmQ, and_true]) ?_
  have Z := frac_zero_px (G := G) d (by omega)
  rw [decide_eq_false hd] at Z
  have Gc := nat_Gcd_px (G := G) n d hn1 hd1
  have hg0 : 0 < Nat.gcd n d := Nat.gcd_pos_of_pos_right _ (Nat.pos_of_ne_zero hd)
  have hgl : Nat.gcd n d ≤ d := Nat.le_of_dvd (Nat.pos_of_ne_zero hd) (Nat.gcd_dvd_right n d)
  have hgd := Nat.le_trans (dl_mono (B := 4294967296) (by decide) hgl) hd1
  have hnum := mk_neg b n hd
  have habs := mk_abs b n hd
  have hden := mk_den b n hd
  obtain ⟨g, hg⟩ : ∃ g, g = Nat.gcd n d := ⟨_, rfl⟩
  rw [← hg] at Gc hg0 hgl hgd habs hden
  have O1 := nat_Of_px (G := G) 1 (by decide)
  have d1 : dl 4294967296 1 ≤ 1 := (dl_le_iff (by decide)).2 (by decide)
  have C := nat_Cmp_px (G := G) g 1 (by omega) (by omega)
  have D1 := nat_Div_px (G := G) n g hg0 (by omega) (by omega)
  have D2 := nat_Div_px (G := G) d g hg0 (by omega) (by omega)
  have hnd : dl 4294967296 (n / g) ≤ 900000000 := Nat.le_trans (dl_mono (by decide) (Nat.div_le_self _ _)) hn1
  have Z2 := frac_zero_px (G := G) (n / g) (by omega)
  have e0 : decide (n / g = 0) = decide (n = 0) := by
    rw [decide_eq_decide]
    have hdv : g ∣ n := by rw [hg]; exact Nat.gcd_dvd_left n d
    constructor
    · intro h
      obtain ⟨k, rfl⟩ := hdv
      rw [Nat.mul_div_cancel_left _ hg0] at h
      rw [h, Nat.mul_zero]
    · rintro rfl; exact Nat.zero_div _
  rw [e0] at Z2
  have hR : fracV (mkRat (sgn b n) d) = .ptr [.bool (b && decide (n ≠ 0)), natV (n / g), natV (d / g)] 0 := by rw [fracV, hnum, habs, hden]
  rw [hR]
  have eb : decide (n ≠ 0) = !decide (n = 0) := by by_cases h : n = 0 <;> simp [h]
  have n1 : (!true) = false := rfl
  have n2 : (!false) = true := rfl
  by_cases h1 : g = 1
  · have c1 : (cmpI g 1 ≠ ((0 : Nat) : Int)) = False := by simp [cmpI, h1]
    rw [h1, Nat.div_one] at Z2
    rw [h1, Nat.div_one, Nat.div_one]
    rw [h1] at c1 C Gc
    cases b with
    | true =>
      simp only [ir_frac_New, sX, mX, initF, List.replicate, Nat.reduceAdd, Nat.reduceSub, iv, avmL]
      simp (maxSteps := 2000000) only [↓avp, ↓avmD, avq, ↓reduceIte, Nat.reduceAdd, Nat.reduceMul, Nat.reduceSub, Nat.reduceLT, Nat.reduceLeDiff, Nat.reduceEqDiff, Nat.reducePow, Nat.reduceMod]
      repeat ((first | refine Z.call ?_ | refine Gc.call ?_ | refine O1.call ?_ | refine C.call ?_ | refine Z2.call ?_); simp (maxSteps := 2000000) only [↓avp, ↓avmD, avq, ↓reduceIte, Nat.reduceAdd, Nat.reduceMul, Nat.reduceSub, Nat.reduceLT, Nat.reduceLeDiff, Nat.reduceEqDiff, Nat.reducePow, Nat.reduceMod, c1, avmV, avmQ])
      refine ret_fz 0 (by rfl) (by simp only [avmF, avmQ, and_true]) ?_
      simp (maxSteps := 2000000) only [↓avp, ↓avmD, avq, ↓reduceIte, Nat.reduceAdd, Nat.reduceMul, Nat.reduceSub, Nat.reduceLT, Nat.reduceLeDiff, Nat.reduceEqDiff, Nat.reducePow, Nat.reduceMod, avmT, avmQ]
      refine ret_now ?_
      simp (maxSteps := 2000000) only [↓avp, ↓avmD, avq, ↓reduceIte, Nat.reduceAdd, Nat.reduceMul, Nat.reduceSub, Nat.reduceLT, Nat.reduceLeDiff, Nat.reduceEqDiff, Nat.reducePow, Nat.reduceMod, eb, Bool.true_and, Bool.false_and]
    | false =>
      simp only [ir_frac_New, sX, mX, initF, List.replicate, Nat.reduceAdd, Nat.reduceSub, iv, avmL]
      simp (maxSteps := 2000000) only [↓avp, ↓avmD, avq, ↓reduceIte, Nat.reduceAdd, Nat.reduceMul, Nat.reduceSub, Nat.reduceLT, Nat.reduceLeDiff, Nat.reduceEqDiff, Nat.reducePow, Nat.reduceMod]
      repeat ((first | refine Z.call ?_ | refine Gc.call ?_ | refine O1.call ?_ | refine C.call ?_); simp (maxSteps := 2000000) only [↓avp, ↓avmD, avq, ↓reduceIte, Nat.reduceAdd, Nat.reduceMul, Nat.reduceSub, Nat.reduceLT, Nat.reduceLeDiff, Nat.reduceEqDiff, Nat.reducePow, Nat.reduceMod, c1, avmV])
      simp (maxSteps := 2000000) only [↓avp, ↓avmD, avq, ↓reduceIte, Nat.reduceAdd, Nat.reduceMul, Nat.reduceSub, Nat.reduceLT, Nat.reduceLeDiff, Nat.reduceEqDiff, Nat.reducePow, Nat.reduceMod, avmQ]
      refine ret_fz 0 (by rfl) (by simp only [avmF, avmQ, and_true]) ?_
      simp (maxSteps := 2000000) only [↓avp, ↓avmD, avq, ↓reduceIte, Nat.reduceAdd, Nat.reduceMul, Nat.reduceSub, Nat.reduceLT, Nat.reduceLeDiff, Nat.reduceEqDiff, Nat.reducePow, Nat.reduceMod, avmT, avmQ]
      refine ret_now ?_
      simp (maxSteps := 2000000) only [↓avp, ↓avmD, avq, ↓reduceIte, Nat.reduceAdd, Nat.reduceMul, Nat.reduceSub, Nat.reduceLT, Nat.reduceLeDiff, Nat.reduceEqDiff, Nat.reducePow, Nat.reduceMod, eb, Bool.true_and, Bool.false_and]
  · have c1 : (cmpI g 1 ≠ ((0 : Nat) : Int)) = True := by
      unfold cmpI
      rw [if_neg (by omega), if_pos (by omega)]
      simp
    cases b with
    | true =>
      simp only [ir_frac_New, sX, mX, initF, List.replicate, Nat.reduceAdd, Nat.reduceSub, iv, avmL]
      simp (maxSteps := 2000000) only [↓avp, ↓avmD, avq, ↓reduceIte, Nat.reduceAdd, Nat.reduceMul, Nat.reduceSub, Nat.reduceLT, Nat.reduceLeDiff, Nat.reduceEqDiff, Nat.reducePow, Nat.reduceMod]
      repeat ((first | refine Z.call ?_ | refine Gc.call ?_ | refine O1.call ?_ | refine C.call ?_ | refine D1.call ?_ | refine D2.call ?_ | refine Z2.call ?_); simp (maxSteps := 2000000) only [↓avp, ↓avmD, avq, ↓reduceIte, Nat.reduceAdd, Nat.reduceMul, Nat.reduceSub, Nat.reduceLT, Nat.reduceLeDiff, Nat.reduceEqDiff, Nat.reducePow, Nat.reduceMod, c1, avmV, avmQ])
      refine ret_fz 0 (by rfl) (by simp only [avmF, avmQ, and_true]) ?_
      simp (maxSteps := 2000000) only [↓avp, ↓avmD, avq, ↓reduceIte, Nat.reduceAdd, Nat.reduceMul, Nat.reduceSub, Nat.reduceLT, Nat.reduceLeDiff, Nat.reduceEqDiff, Nat.reducePow, Nat.reduceMod, avmT, avmQ]
      refine ret_now ?_
      simp (maxSteps := 2000000) only [↓avp, ↓avmD, avq, ↓reduceIte, Nat.reduceAdd, Nat.reduceMul, Nat.reduceSub, Nat.reduceLT, Nat.reduceLeDiff, Nat.reduceEqDiff, Nat.reducePow, Nat.reduceMod, eb, Bool.true_and, Bool.false_and]
    | false =>
      simp only [ir_frac_New, sX, mX, initF, List.replicate, Nat.reduceAdd, Nat.reduceSub, iv, avmL]
      simp (maxSteps := 2000000) only [↓avp, ↓avmD, avq, ↓reduceIte, Nat.reduceAdd, Nat.reduceMul, Nat.reduceSub, Nat.reduceLT, Nat.reduceLeDiff, Nat.reduceEqDiff, Nat.reducePow, Nat.reduceMod]
      repeat ((first | refine Z.call ?_ | refine Gc.call ?_ | refine O1.call ?_ | refine C.call ?_ | refine D1.call ?_ | refine D2.call ?_); simp (maxSteps := 2000000) only [↓avp, ↓avmD, avq, ↓reduceIte, Nat.reduceAdd, Nat.reduceMul, Nat.reduceSub, Nat.reduceLT, Nat.reduceLeDiff, Nat.reduceEqDiff, Nat.reducePow, Nat.reduceMod, c1, avmV])
      simp (maxSteps := 2000000) only [↓avp, ↓avmD, avq, ↓reduceIte, Nat.reduceAdd, Nat.reduceMul, Nat.reduceSub, Nat.reduceLT, Nat.reduceLeDiff, Nat.reduceEqDiff, Nat.reducePow, Nat.reduceMod, avmQ]
      refine ret_fz 0 (by rfl) (by simp only [avmF, avmQ, and_true]) ?_
      simp (maxSteps := 2000000) only [↓avp, ↓avmD, avq, ↓reduceIte, Nat.reduceAdd, Nat.reduceMul, Nat.reduceSub, Nat.reduceLT, Nat.reduceLeDiff, Nat.reduceEqDiff, Nat.reducePow, Nat.reduceMod, avmT, avmQ]
      refine ret_now ?_
      simp (maxSteps := 2000000) only [↓avp, ↓avmD, avq, ↓reduceIte, Nat.reduceAdd, Nat.reduceMul, Nat.reduceSub, Nat.reduceLT, Nat.reduceLeDiff, Nat.reduceEqDiff, Nat.reducePow, Nat.reduceMod, eb, Bool.true_and, Bool.false_and]
theorem frac_sure_px (b : Bool) (n d : Nat) (hd : d ≠ 0) (hn1 : dl 4294967296 n ≤ 900000000) (hd1 : dl 4294967296 d ≤ 900000000) : PX P G n_frac_sure [.bool b, natV n, natV d] (fracV (mkRat (sgn b n) d)) := by
  refine PX_of_awp low_frac_sure fol (by simp only [avmF, avmQ, and_true]) (by simp only [avmF, avmQ, and_true]) ?_
  have N := frac_New_px (G := G) b n d hd hn1 hd1
  simp only [ir_frac_sure, sX, mX, initF, List.replicate, Nat.reduceAdd, Nat.reduceSub, iv, avmL]
  simp (maxSteps := 2000000) only [↓avp, ↓avmD, avq, ↓reduceIte, Nat.reduceAdd, Nat.reduceMul, Nat.reduceSub, Nat.reduceLT, Nat.reduceLeDiff, Nat.reduceEqDiff, Nat.reducePow, Nat.reduceMod]
  refine N.call ?_
  simp (maxSteps := 2000000) only [↓avp, ↓avmD, avq, ↓reduceIte, Nat.reduceAdd, Nat.reduceMul, Nat.reduceSub, Nat.reduceLT, Nat.reduceLeDiff, Nat.reduceEqDiff, Nat.reducePow, Nat.reduceMod]
  refine ret_now ?_
  simp (maxSteps := 2000000) only [↓avp, ↓avmD, avq, ↓reduceIte, Nat.reduceAdd, Nat.reduceMul, Nat.reduceSub, Nat.reduceLT, Nat.reduceLeDiff, Nat.reduceEqDiff, Nat.reducePow, Nat.reduceMod]
theorem frac_Of_px (x : Int) (hx : -9223372036854775808 ≤ x ∧ x ≤ 9223372036854775807) : PX P G n_frac_Of [.int .i64 x] (fracV (x : Rat)) := by
  refine PX_of_awp low_frac_Of fol (by simp only [avmF, avmQ, and_true]) (by simp only [avmF, avmQ, and_true]) ?_
  have A := bits_Abs_px (G := G) x hx
  have O := nat_Of_px (G := G) x.natAbs (by omega)
  have O1 := nat_Of_px (G := G) 1 (by decide)
  have e : fracV (x : Rat) = .ptr [.bool (decide (x < ((0 : Nat) : Int))), natV x.natAbs, natV 1] 0 := rfl
  rw [e]
  simp only [ir_frac_Of, sX, mX, initF, List.replicate, Nat.reduceAdd, Nat.reduceSub, iv, avmL]
  simp (maxSteps := 2000000) only [↓avp, ↓avmD, avq, ↓reduceIte, Nat.reduceAdd, Nat.reduceMul, Nat.reduceSub, Nat.reduceLT, Nat.reduceLeDiff, Nat.reduceEqDiff, Nat.reducePow, Nat.reduceMod]
  repeat ((first | refine A.call ?_ | refine O.call ?_ | refine O1.call ?_); simp (maxSteps := 2000000) only [↓avp, ↓avmD, avq, ↓reduceIte, Nat.reduceAdd, Nat.reduceMul, Nat.reduceSub, Nat.reduceLT, Nat.reduceLeDiff, Nat.reduceEqDiff, Nat.reducePow, Nat.reduceMod, avmQ])
  refine ret_fz 0 (by rfl) (by simp only [avmF, avmQ, and_true]) ?_
  simp (maxSteps := 2000000) only [↓avp, ↓avmD, avq, ↓reduceIte, Nat.reduceAdd, Nat.reduceMul, Nat.reduceSub, Nat.reduceLT, Nat.reduceLeDiff, Nat.reduceEqDiff, Nat.reducePow, Nat.reduceMod, avmT, avmQ]
  refine ret_now ?_
  simp (maxSteps := 2000000) only [↓avp, ↓avmD, avq, ↓reduceIte, Nat.reduceAdd, Nat.reduceMul, Nat.reduceSub, Nat.reduceLT, Nat.reduceLeDiff, Nat.reduceEqDiff, Nat.reducePow, Nat.reduceMod]
theorem txt1 : txt 1 = [49] := (txt_one (by decide)).trans rfl
theorem txt_one_iff {n : Nat} : txt n = [49] ↔ n = 1 := ⟨fun h => txt_inj (h.trans txt1.symm), fun h => by rw [h]; exact txt1⟩
theorem txt_len32 {n K : Nat} (h : dl 4294967296 n ≤ K) : (txt n).length ≤ 10 * K + 1 := by
  refine txt_len ?_ (by omega)
  have h1 := (dl_le_iff (by decide)).1 h
  refine Nat.lt_of_lt_of_le h1 ?_
  rw [Nat.pow_succ, Nat.pow_mul]
  refine Nat.le_trans (Nat.pow_le_pow_left (show 4294967296 ≤ 10 ^ 10 by decide) K) ?_
  omega
theorem frac_Text_px (hG : GOK G) (q : Rat) (hq : qb 100000000 q) : PX P G n_frac_Frac_Text [fracV q] (.str (ratTxt q)) := by
  refine PX_of_awp low_frac_Frac_Text fol (by simp only [avmF, avmQ, and_true]) (by simp only [avmF, avmQ, and_true]) ?_
  have Pt := frac_Parts_px (G := G) q
  have T1 := nat_Text_px hG q.num.natAbs hq.1
  have T2 := nat_Text_px hG q.den hq.2
  have l1 := txt_len32 hq.1
  have l2 := txt_len32 hq.2
  have n1 : (!true) = false := rfl
  have n2 : (!false) = true := rfl
  by_cases h1 : q.num < 0
  · rw [decide_eq_true h1] at Pt
    by_cases h2 : q.den = 1
    · have hr : ratTxt q = 45 :: txt q.num.natAbs := by simp [ratTxt, h1, h2]
      have e2 : (txt q.den == [49]) = true := by rw [h2, txt1]; rfl
      have k1 : 1 + (txt q.num.natAbs).length ≤ 9223372036854775807 := by omega
      rw [hr]
      simp only [ir_frac_Frac_Text, sX, mX, initF, List.replicate, Nat.reduceAdd, Nat.reduceSub, iv, avmL]
      simp (maxSteps := 2000000) only [↓avp, ↓avmD, avq, ↓reduceIte, Nat.reduceAdd, Nat.reduceMul, Nat.reduceSub, Nat.reduceLT, Nat.reduceLeDiff, Nat.reduceEqDiff, Nat.reducePow, Nat.reduceMod]
      repeat ((first | refine Pt.call ?_ | refine T1.call ?_ | refine T2.call ?_); simp (maxSteps := 2000000) only [↓avp, ↓avmD, avq, ↓reduceIte, Nat.reduceAdd, Nat.reduceMul, Nat.reduceSub, Nat.reduceLT, Nat.reduceLeDiff, Nat.reduceEqDiff, Nat.reducePow, Nat.reduceMod, List.length_cons, List.length_nil, k1, e2, n1])
      refine ret_now ?_
      simp (maxSteps := 2000000) only [↓avp, ↓avmD, avq, ↓reduceIte, Nat.reduceAdd, Nat.reduceMul, Nat.reduceSub, Nat.reduceLT, Nat.reduceLeDiff, Nat.reduceEqDiff, Nat.reducePow, Nat.reduceMod, List.cons_append, List.nil_append]
    · have hr : ratTxt q = 45 :: txt q.num.natAbs ++ 47 :: txt q.den := by simp [ratTxt, h1, h2]
      have e2 : (txt q.den == [49]) = false := by
        simp only [beq_eq_false_iff_ne, ne_eq, txt_one_iff]; exact h2
      have k1 : 1 + (txt q.num.natAbs).length ≤ 9223372036854775807 := by omega
      have k2 : 1 + (txt q.den).length ≤ 9223372036854775807 := by omega
      have k3 : (txt q.num.natAbs).length + 1 + ((txt q.den).length + 1) ≤ 9223372036854775807 := by omega
      rw [hr]
      simp only [ir_frac_Frac_Text, sX, mX, initF, List.replicate, Nat.reduceAdd, Nat.reduceSub, iv, avmL]
      simp (maxSteps := 2000000) only [↓avp, ↓avmD, avq, ↓reduceIte, Nat.reduceAdd, Nat.reduceMul, Nat.reduceSub, Nat.reduceLT, Nat.reduceLeDiff, Nat.reduceEqDiff, Nat.reducePow, Nat.reduceMod]
      repeat ((first | refine Pt.call ?_ | refine T1.call ?_ | refine T2.call ?_); simp (maxSteps := 2000000) only [↓avp, ↓avmD, avq, ↓reduceIte, Nat.reduceAdd, Nat.reduceMul, Nat.reduceSub, Nat.reduceLT, Nat.reduceLeDiff, Nat.reduceEqDiff, Nat.reducePow, Nat.reduceMod, List.length_cons, List.length_nil, k1, e2, n2, k2, List.cons_append, List.nil_append, k3])
      refine ret_now ?_
      simp (maxSteps := 2000000) only [↓avp, ↓avmD, avq, ↓reduceIte, Nat.reduceAdd, Nat.reduceMul, Nat.reduceSub, Nat.reduceLT, Nat.reduceLeDiff, Nat.reduceEqDiff, Nat.reducePow, Nat.reduceMod, List.cons_append, List.nil_append]
  · rw [decide_eq_false h1] at Pt
    by_cases h2 : q.den = 1
    · have hr : ratTxt q = txt q.num.natAbs := by simp [ratTxt, h1, h2]
      have e2 : (txt q.den == [49]) = true := by rw [h2, txt1]; rfl
      rw [hr]
      simp only [ir_frac_Frac_Text, sX, mX, initF, List.replicate, Nat.reduceAdd, Nat.reduceSub, iv, avmL]
      simp (maxSteps := 2000000) only [↓avp, ↓avmD, avq, ↓reduceIte, Nat.reduceAdd, Nat.reduceMul, Nat.reduceSub, Nat.reduceLT, Nat.reduceLeDiff, Nat.reduceEqDiff, Nat.reducePow, Nat.reduceMod]
      repeat ((first | refine Pt.call ?_ | refine T1.call ?_ | refine T2.call ?_); simp (maxSteps := 2000000) only [↓avp, ↓avmD, avq, ↓reduceIte, Nat.reduceAdd, Nat.reduceMul, Nat.reduceSub, Nat.reduceLT, Nat.reduceLeDiff, Nat.reduceEqDiff, Nat.reducePow, Nat.reduceMod, e2, n1])
      refine ret_now ?_
      simp (maxSteps := 2000000) only [↓avp, ↓avmD, avq, ↓reduceIte, Nat.reduceAdd, Nat.reduceMul, Nat.reduceSub, Nat.reduceLT, Nat.reduceLeDiff, Nat.reduceEqDiff, Nat.reducePow, Nat.reduceMod]
    · have hr : ratTxt q = txt q.num.natAbs ++ 47 :: txt q.den := by simp [ratTxt, h1, h2]
      have e2 : (txt q.den == [49]) = false := by
        simp only [beq_eq_false_iff_ne, ne_eq, txt_one_iff]; exact h2
      have k2 : 1 + (txt q.den).length ≤ 9223372036854775807 := by omega
      have k3 : (txt q.num.natAbs).length + ((txt q.den).length + 1) ≤ 9223372036854775807 := by omega
      rw [hr]
      simp only [ir_frac_Frac_Text, sX, mX, initF, List.replicate, Nat.reduceAdd, Nat.reduceSub, iv, avmL]
      simp (maxSteps := 2000000) only [↓avp, ↓avmD, avq, ↓reduceIte, Nat.reduceAdd, Nat.reduceMul, Nat.reduceSub, Nat.reduceLT, Nat.reduceLeDiff, Nat.reduceEqDiff, Nat.reducePow, Nat.reduceMod]
      repeat ((first | refine Pt.call ?_ | refine T1.call ?_ | refine T2.call ?_); simp (maxSteps := 2000000) only [↓avp, ↓avmD, avq, ↓reduceIte, Nat.reduceAdd, Nat.reduceMul, Nat.reduceSub, Nat.reduceLT, Nat.reduceLeDiff, Nat.reduceEqDiff, Nat.reducePow, Nat.reduceMod, e2, n2, List.length_cons, List.length_nil, k2, List.cons_append, List.nil_append, k3])
      refine ret_now ?_
      simp (maxSteps := 2000000) only [↓avp, ↓avmD, avq, ↓reduceIte, Nat.reduceAdd, Nat.reduceMul, Nat.reduceSub, Nat.reduceLT, Nat.reduceLeDiff, Nat.reduceEqDiff, Nat.reducePow, Nat.reduceMod, List.cons_append, List.nil_append]
end Va
/- The program's fractions: what is reckoned with them. -/
set_option linter.unusedSimpArgs false
set_option linter.unusedVariables false
set_option maxRecDepth 100000
set_option maxHeartbeats 8000000
open Go Go.Avm
namespace Va
attribute [local irreducible] ACallF FCallF
variable {G : Glob}
/-- What is told of a fraction. -/
def partsV (q : Rat) : AV := .tup [.bool (decide (q.num < 0)), natV q.num.natAbs, natV q.den]
/-- It stands for this fraction: nil stands for 0. -/
def FV (G : Glob) (x : AV) (q : Rat) : Prop := PX P G n_frac_Frac_Parts [x] (partsV q)
theorem FV.mk (q : Rat) : FV G (fracV q) q := frac_Parts_px q
theorem FV.nil : FV G .nilp 0 := frac_Parts_nil
theorem FV.frz {x : AV} {q : Rat} (h : FV G x q) : Frz x = True := by have := h.1; simpa only [FrzL, and_true, eq_iff_iff, iff_true] using this
theorem frac_signed_px (p : Bool) (a : Nat) (q : Bool) (b : Nat) (ha : dl 4294967296 a ≤ 1000000000) (hb : dl 4294967296 b ≤ 1000000000) :
    PX P G n_frac_signed [.bool p, natV a, .bool q, natV b] (.tup [.bool (sadd p a q b).1, natV (sadd p a q b).2]) := by
  refine PX_of_awp low_frac_signed fol (by simp only [avmF, avmQ, and_true]) (by simp only [avmF, avmQ, and_true]) ?_
  by_cases h : p = q
  · have e : (p == q) = true := by simp [h]
    have A := nat_Add_px (G := G) a b ha hb
    have hs : sadd p a q b = (p, a + b) := by rw [sadd, if_pos h]
    rw [hs]
    simp only [ir_frac_signed, sX, mX, initF, List.replicate, Nat.reduceAdd, Nat.reduceSub, iv, avmL]
    simp (maxSteps := 2000000) only [↓avp, ↓avmD, avq, ↓reduceIte, Nat.reduceAdd, Nat.reduceMul, Nat.reduceSub, Nat.reduceLT, Nat.reduceLeDiff, Nat.reduceEqDiff, Nat.reducePow, Nat.reduceMod, e]
    refine A.call ?_
    simp (maxSteps := 2000000) only [↓avp, ↓avmD, avq, ↓reduceIte, Nat.reduceAdd, Nat.reduceMul, Nat.reduceSub, Nat.reduceLT, Nat.reduceLeDiff, Nat.reduceEqDiff, Nat.reducePow, Nat.reduceMod]
    refine ret_now ?_
    simp (maxSteps := 2000000) only [↓avp, ↓avmD, avq, ↓reduceIte, Nat.reduceAdd, Nat.reduceMul, Nat.reduceSub, Nat.reduceLT, Nat.reduceLeDiff, Nat.reduceEqDiff, Nat.reducePow, Nat.reduceMod]
  · have e : (p == q) = false := by simpa using h
    by_cases h2 : b ≤ a
    · have L := nat_Less_px (G := G) a b ha hb h2
      have hs : sadd p a q b = (p, a - b) := by rw [sadd, if_neg h, if_pos h2]
      rw [hs]
      simp only [ir_frac_signed, sX, mX, initF, List.replicate, Nat.reduceAdd, Nat.reduceSub, iv, avmL]
      simp (maxSteps := 2000000) only [↓avp, ↓avmD, avq, ↓reduceIte, Nat.reduceAdd, Nat.reduceMul, Nat.reduceSub, Nat.reduceLT, Nat.reduceLeDiff, Nat.reduceEqDiff, Nat.reducePow, Nat.reduceMod, e]
      refine L.call ?_
      simp (maxSteps := 2000000) only [↓avp, ↓avmD, avq, ↓reduceIte, Nat.reduceAdd, Nat.reduceMul, Nat.reduceSub, Nat.reduceLT, Nat.reduceLeDiff, Nat.reduceEqDiff, Nat.reducePow, Nat.reduceMod]
      refine ret_now ?_
      simp (maxSteps := 2000000) only [↓avp, ↓avmD, avq, ↓reduceIte, Nat.reduceAdd, Nat.reduceMul, Nat.reduceSub, Nat.reduceLT, Nat.reduceLeDiff, Nat.reduceEqDiff, Nat.reducePow, Nat.reduceMod]
    · have L1 := nat_Less_no (G := G) a b ha hb (by omega)
      have L2 := nat_Less_px (G := G) b a hb ha (by omega)
      have hs : sadd p a q b = (q, b - a) := by rw [sadd, if_neg h, if_neg h2]
      rw [hs]
      simp only [ir_frac_signed, sX, mX, initF, List.replicate, Nat.reduceAdd, Nat.reduceSub, iv, avmL]
      simp (maxSteps := 2000000) only [↓avp, ↓avmD, avq, ↓reduceIte, Nat.reduceAdd, Nat.reduceMul, Nat.reduceSub, Nat.reduceLT, Nat.reduceLeDiff, Nat.reduceEqDiff, Nat.reducePow, Nat.reduceMod, e]
      repeat ((first | refine L1.call ?_ | refine L2.call ?_); simp (maxSteps := 2000000) only [↓avp, ↓avmD, avq, ↓reduceIte, Nat.reduceAdd, Nat.reduceMul, Nat.reduceSub, Nat.reduceLT, Nat.reduceLeDiff, Nat.reduceEqDiff, Nat.reducePow, Nat.reduceMod])
      refine ret_now ?_
      simp (maxSteps := 2000000) only [↓avp, ↓avmD, avq, ↓reduceIte, Nat.reduceAdd, Nat.reduceMul, Nat.reduceSub, Nat.reduceLT, Nat.reduceLeDiff, Nat.reduceEqDiff, Nat.reducePow, Nat.reduceMod]
theorem frac_Add_gen {x y : AV} {a b : Rat} (hx : FV G x a) (hy : FV G y b) (ha : qb 200000000 a) (hb : qb 200000000 b) : PX P G n_frac_Frac_Add [x, y] (fracV (a + b)) := by
  refine PX_of_awp low_frac_Frac_Add fol (by simp only [avmF, hx.frz, hy.frz, and_true]) (by simp only [avmF, avmQ, and_true]) ?_
  unfold FV partsV at hx hy
  obtain ⟨ha1, ha2⟩ := ha
  obtain ⟨hb1, hb2⟩ := hb
  have Z := frac_zero_px (G := G) a.num.natAbs (by omega)
  by_cases h0 : a.num.natAbs = 0
  · rw [decide_eq_true h0] at Z
    have e : a + b = mkRat (sgn (decide (b.num < 0)) b.num.natAbs) b.den := by
      rw [mk_self, Rat.num_eq_zero.1 (Int.natAbs_eq_zero.1 h0), Rat.zero_add]
    have S := frac_sure_px (G := G) (decide (b.num < 0)) b.num.natAbs b.den b.den_nz (by omega) (by omega)
    rw [← e] at S
    simp only [ir_frac_Frac_Add, sX, mX, initF, List.replicate, Nat.reduceAdd, Nat.reduceSub, iv, avmL]
    simp (maxSteps := 2000000) only [↓avp, ↓avmD, avq, ↓reduceIte, Nat.reduceAdd, Nat.reduceMul, Nat.reduceSub, Nat.reduceLT, Nat.reduceLeDiff, Nat.reduceEqDiff, Nat.reducePow, Nat.reduceMod]
    repeat ((first | refine hx.call ?_ | refine hy.call ?_ | refine Z.call ?_ | refine S.call ?_); simp (maxSteps := 2000000) only [↓avp, ↓avmD, avq, ↓reduceIte, Nat.reduceAdd, Nat.reduceMul, Nat.reduceSub, Nat.reduceLT, Nat.reduceLeDiff, Nat.reduceEqDiff, Nat.reducePow, Nat.reduceMod])
    refine ret_now ?_
    simp (maxSteps := 2000000) only [↓avp, ↓avmD, avq, ↓reduceIte, Nat.reduceAdd, Nat.reduceMul, Nat.reduceSub, Nat.reduceLT, Nat.reduceLeDiff, Nat.reduceEqDiff, Nat.reducePow, Nat.reduceMod]
  rw [decide_eq_false h0] at Z
  have C := nat_Cmp_px (G := G) a.den b.den (by omega) (by omega)
  by_cases h1 : a.den = b.den
  · have c1 : (cmpI a.den b.den = ((0 : Nat) : Int)) = True := by simp [cmpI, h1]
    have Sg := frac_signed_px (G := G) (decide (a.num < 0)) a.num.natAbs (decide (b.num < 0)) b.num.natAbs (by omega) (by omega)
    have hsl := sadd_le (decide (a.num < 0)) a.num.natAbs (decide (b.num < 0)) b.num.natAbs
    have hss := sadd_sgn (decide (a.num < 0)) a.num.natAbs (decide (b.num < 0)) b.num.natAbs
    rw [sgn_num, sgn_num] at hss
    have hdl := Nat.le_trans (dl_mono (B := 4294967296) (by decide) hsl) (dl_add (by decide) _ _)
    obtain ⟨z, hz⟩ : ∃ z, z = sadd (decide (a.num < 0)) a.num.natAbs (decide (b.num < 0)) b.num.natAbs := ⟨_, rfl⟩
    rw [← hz] at Sg hss hdl
    have S := frac_sure_px (G := G) z.1 z.2 a.den a.den_nz (by omega) (by omega)
    have e : a + b = mkRat (sgn z.1 z.2) a.den := by rw [rat_add_same a b h1, hss, h1]
    rw [← e] at S
    simp only [ir_frac_Frac_Add, sX, mX, initF, List.replicate, Nat.reduceAdd, Nat.reduceSub, iv, avmL]
    simp (maxSteps := 2000000) only [↓avp, ↓avmD, avq, ↓reduceIte, Nat.reduceAdd, Nat.reduceMul, Nat.reduceSub, Nat.reduceLT, Nat.reduceLeDiff, Nat.reduceEqDiff, Nat.reducePow, Nat.reduceMod]
    repeat ((first | refine hx.call ?_ | refine hy.call ?_ | refine Z.call ?_ | refine C.call ?_ | refine Sg.call ?_ | refine S.call ?_); simp (maxSteps := 2000000) only [↓avp, ↓avmD, avq, ↓reduceIte, Nat.reduceAdd, Nat.reduceMul, Nat.reduceSub, Nat.reduceLT, Nat.reduceLeDiff, Nat.reduceEqDiff, Nat.reducePow, Nat.reduceMod, c1])
    refine ret_now ?_
    simp (maxSteps := 2000000) only [↓avp, ↓avmD, avq, ↓reduceIte, Nat.reduceAdd, Nat.reduceMul, Nat.reduceSub, Nat.reduceLT, Nat.reduceLeDiff, Nat.reduceEqDiff, Nat.reducePow, Nat.reduceMod]
  · have c1 : (cmpI a.den b.den = ((0 : Nat) : Int)) = False := by
      unfold cmpI
      split
      · simp
      · rw [if_pos (by omega)]; simp
    have d1 := dl_mul (B := 4294967296) (by decide) a.num.natAbs b.den
    have d2 := dl_mul (B := 4294967296) (by decide) b.num.natAbs a.den
    have d3 := dl_mul (B := 4294967296) (by decide) a.den b.den
    have M1 := nat_Mul_px (G := G) a.num.natAbs b.den (by omega) (by omega)
    have M2 := nat_Mul_px (G := G) b.num.natAbs a.den (by omega) (by omega)
    have M3 := nat_Mul_px (G := G) a.den b.den (by omega) (by omega)
    have Sg := frac_signed_px (G := G) (decide (a.num < 0)) (a.num.natAbs * b.den) (decide (b.num < 0)) (b.num.natAbs * a.den) (by omega) (by omega)
    have hsl := sadd_le (decide (a.num < 0)) (a.num.natAbs * b.den) (decide (b.num < 0)) (b.num.natAbs * a.den)
    have hss := sadd_sgn (decide (a.num < 0)) (a.num.natAbs * b.den) (decide (b.num < 0)) (b.num.natAbs * a.den)
    rw [sgn_mulN, sgn_mulN, sgn_num, sgn_num] at hss
    have hdl := Nat.le_trans (dl_mono (B := 4294967296) (by decide) hsl) (dl_add (by decide) _ _)
    obtain ⟨z, hz⟩ : ∃ z, z = sadd (decide (a.num < 0)) (a.num.natAbs * b.den) (decide (b.num < 0)) (b.num.natAbs * a.den) := ⟨_, rfl⟩
    rw [← hz] at Sg hss hdl
    have S := frac_sure_px (G := G) z.1 z.2 (a.den * b.den) (Nat.mul_ne_zero a.den_nz b.den_nz) (by omega) (by omega)
    have e : a + b = mkRat (sgn z.1 z.2) (a.den * b.den) := by rw [Rat.add_def', hss]
    rw [← e] at S
    simp only [ir_frac_Frac_Add, sX, mX, initF, List.replicate, Nat.reduceAdd, Nat.reduceSub, iv, avmL]
    simp (maxSteps := 2000000) only [↓avp, ↓avmD, avq, ↓reduceIte, Nat.reduceAdd, Nat.reduceMul, Nat.reduceSub, Nat.reduceLT, Nat.reduceLeDiff, Nat.reduceEqDiff, Nat.reducePow, Nat.reduceMod]
    repeat ((first | refine hx.call ?_ | refine hy.call ?_ | refine Z.call ?_ | refine C.call ?_ | refine M1.call ?_ | refine M2.call ?_ | refine Sg.call ?_ | refine M3.call ?_ | refine S.call ?_); simp (maxSteps := 2000000) only [↓avp, ↓avmD, avq, ↓reduceIte, Nat.reduceAdd, Nat.reduceMul, Nat.reduceSub, Nat.reduceLT, Nat.reduceLeDiff, Nat.reduceEqDiff, Nat.reducePow, Nat.reduceMod, c1])
    refine ret_now ?_
    simp (maxSteps := 2000000) only [↓avp, ↓avmD, avq, ↓reduceIte, Nat.reduceAdd, Nat.reduceMul, Nat.reduceSub, Nat.reduceLT, Nat.reduceLeDiff, Nat.reduceEqDiff, Nat.reducePow, Nat.reduceMod]
theorem frac_Neg_gen {x : AV} {a : Rat} (hx : FV G x a) (ha : dl 4294967296 a.num.natAbs ≤ 1000000000) : PX P G n_frac_Frac_Neg [x] (fracV (-a)) := by
  refine PX_of_awp low_frac_Frac_Neg fol (by simp only [avmF, hx.frz, and_true]) (by simp only [avmF, avmQ, and_true]) ?_
  unfold FV partsV at hx
  have Z := frac_zero_px (G := G) a.num.natAbs ha
  have n1 : (!true) = false := rfl
  have n2 : (!false) = true := rfl
  have hR : fracV (-a) = .ptr [.bool (!decide (a.num < 0) && !decide (a.num.natAbs = 0)), natV a.num.natAbs, natV a.den] 0 := by
    rw [fracV, Rat.neg_num, Rat.neg_den, Int.natAbs_neg]
    have : decide (-a.num < 0) = (!decide (a.num < 0) && !decide (a.num.natAbs = 0)) := by
      by_cases h1 : a.num < 0
      · have h2 : ¬ -a.num < 0 := by omega
        simp only [h1, h2, decide_true, decide_false, n1, Bool.false_and]
      · by_cases h3 : a.num.natAbs = 0
        · have h2 : ¬ -a.num < 0 := by omega
          simp only [h1, h2, h3, decide_true, decide_false, n1, n2, Bool.true_and]
        · have h2 : -a.num < 0 := by omega
          simp only [h1, h2, h3, decide_true, decide_false, n1, n2, Bool.true_and]
    rw [this]
  rw [hR]
  by_cases h1 : a.num < 0
  · rw [decide_eq_true h1] at hx ⊢
    simp only [ir_frac_Frac_Neg, sX, mX, initF, List.replicate, Nat.reduceAdd, Nat.reduceSub, iv, avmL]
    simp (maxSteps := 2000000) only [↓avp, ↓avmD, avq, ↓reduceIte, Nat.reduceAdd, Nat.reduceMul, Nat.reduceSub, Nat.reduceLT, Nat.reduceLeDiff, Nat.reduceEqDiff, Nat.reducePow, Nat.reduceMod]
    refine hx.call ?_
    simp (maxSteps := 2000000) only [↓avp, ↓avmD, avq, ↓reduceIte, Nat.reduceAdd, Nat.reduceMul, Nat.reduceSub, Nat.reduceLT, Nat.reduceLeDiff, Nat.reduceEqDiff, Nat.reducePow, Nat.reduceMod, n1, avmQ]
    refine ret_fz 0 (by rfl) (by simp only [avmF, avmQ, and_true]) ?_
    simp (maxSteps := 2000000) only [↓avp, ↓avmD, avq, ↓reduceIte, Nat.reduceAdd, Nat.reduceMul, Nat.reduceSub, Nat.reduceLT, Nat.reduceLeDiff, Nat.reduceEqDiff, Nat.reducePow, Nat.reduceMod, avmT, avmQ]
    refine ret_now ?_
    simp (maxSteps := 2000000) only [↓avp, ↓avmD, avq, ↓reduceIte, Nat.reduceAdd, Nat.reduceMul, Nat.reduceSub, Nat.reduceLT, Nat.reduceLeDiff, Nat.reduceEqDiff, Nat.reducePow, Nat.reduceMod, n1, Bool.false_and]
  · rw [decide_eq_false h1] at hx ⊢
    simp only [ir_frac_Frac_Neg, sX, mX, initF, List.replicate, Nat.reduceAdd, Nat.reduceSub, iv, avmL]
    simp (maxSteps := 2000000) only [↓avp, ↓avmD, avq, ↓reduceIte, Nat.reduceAdd, Nat.reduceMul, Nat.reduceSub, Nat.reduceLT, Nat.reduceLeDiff, Nat.reduceEqDiff, Nat.reducePow, Nat.reduceMod]
    repeat ((first | refine hx.call ?_ | refine Z.call ?_); simp (maxSteps := 2000000) only [↓avp, ↓avmD, avq, ↓reduceIte, Nat.reduceAdd, Nat.reduceMul, Nat.reduceSub, Nat.reduceLT, Nat.reduceLeDiff, Nat.reduceEqDiff, Nat.reducePow, Nat.reduceMod, n2, avmQ])
    refine ret_fz 0 (by rfl) (by simp only [avmF, avmQ, and_true]) ?_
    simp (maxSteps := 2000000) only [↓avp, ↓avmD, avq, ↓reduceIte, Nat.reduceAdd, Nat.reduceMul, Nat.reduceSub, Nat.reduceLT, Nat.reduceLeDiff, Nat.reduceEqDiff, Nat.reducePow, Nat.reduceMod, avmT, avmQ]
    refine ret_now ?_
    simp (maxSteps := 2000000) only [↓avp, ↓avmD, avq, ↓reduceIte, Nat.reduceAdd, Nat.reduceMul, Nat.reduceSub, Nat.reduceLT, Nat.reduceLeDiff, Nat.reduceEqDiff, Nat.reducePow, Nat.reduceMod, n2, Bool.true_and]
theorem frac_Sub_gen {x y : AV} {a b : Rat} (hx : FV G x a) (hy : FV G y b) (ha : qb 200000000 a) (hb : qb 200000000 b) : PX P G n_frac_Frac_Sub [x, y] (fracV (a - b)) := by
  refine PX_of_awp low_frac_Frac_Sub fol (by simp only [avmF, hx.frz, hy.frz, and_true]) (by simp only [avmF, avmQ, and_true]) ?_
  have N := frac_Neg_gen hy (by have := hb.1; omega)
  have A := frac_Add_gen hx (FV.mk (G := G) (-b)) ha (qb_neg hb)
  rw [← Rat.sub_eq_add_neg] at A
  simp only [ir_frac_Frac_Sub, sX, mX, initF, List.replicate, Nat.reduceAdd, Nat.reduceSub, iv, avmL]
  simp (maxSteps := 2000000) only [↓avp, ↓avmD, avq, ↓reduceIte, Nat.reduceAdd, Nat.reduceMul, Nat.reduceSub, Nat.reduceLT, Nat.reduceLeDiff, Nat.reduceEqDiff, Nat.reducePow, Nat.reduceMod]
  repeat ((first | refine N.call ?_ | refine A.call ?_); simp (maxSteps := 2000000) only [↓avp, ↓avmD, avq, ↓reduceIte, Nat.reduceAdd, Nat.reduceMul, Nat.reduceSub, Nat.reduceLT, Nat.reduceLeDiff, Nat.reduceEqDiff, Nat.reducePow, Nat.reduceMod])
  refine ret_now ?_
  simp (maxSteps := 2000000) only [↓avp, ↓avmD, avq, ↓reduceIte, Nat.reduceAdd, Nat.reduceMul, Nat.reduceSub, Nat.reduceLT, Nat.reduceLeDiff, Nat.reduceEqDiff, Nat.reducePow, Nat.reduceMod]
theorem frac_Mul_gen {x y : AV} {a b : Rat} (hx : FV G x a) (hy : FV G y b) (ha : qb 200000000 a) (hb : qb 200000000 b) : PX P G n_frac_Frac_Mul [x, y] (fracV (a * b)) := by
  refine PX_of_awp low_frac_Frac_Mul fol (by simp only [avmF, hx.frz, hy.frz, and_true]) (by simp only [avmF, avmQ, and_true]) ?_
  unfold FV partsV at hx hy
  obtain ⟨ha1, ha2⟩ := ha
  obtain ⟨hb1, hb2⟩ := hb
  have d1 := dl_mul (B := 4294967296) (by decide) a.num.natAbs b.num.natAbs
  have d3 := dl_mul (B := 4294967296) (by decide) a.den b.den
  have M1 := nat_Mul_px (G := G) a.num.natAbs b.num.natAbs (by omega) (by omega)
  have M3 := nat_Mul_px (G := G) a.den b.den (by omega) (by omega)
  have S := frac_sure_px (G := G) ((decide (a.num < 0) == decide (b.num < 0)) != true) (a.num.natAbs * b.num.natAbs) (a.den * b.den) (Nat.mul_ne_zero a.den_nz b.den_nz) (by omega) (by omega)
  have e : a * b = mkRat (sgn ((decide (a.num < 0) == decide (b.num < 0)) != true) (a.num.natAbs * b.num.natAbs)) (a.den * b.den) := by
    have : ((decide (a.num < 0) == decide (b.num < 0)) != true) = (decide (a.num < 0) != decide (b.num < 0)) := by
      cases decide (a.num < 0) <;> cases decide (b.num < 0) <;> rfl
    rw [this, sgn_mul, sgn_num, sgn_num, Rat.mul_def']
  rw [← e] at S
  generalize hs : ((decide (a.num < 0) == decide (b.num < 0)) != true) = sb at S
  have hs' : (!(decide (a.num < 0) == decide (b.num < 0))) = sb := by rw [← hs]; cases (decide (a.num < 0) == decide (b.num < 0)) <;> rfl
  simp only [ir_frac_Frac_Mul, sX, mX, initF, List.replicate, Nat.reduceAdd, Nat.reduceSub, iv, avmL]
  simp (maxSteps := 2000000) only [↓avp, ↓avmD, avq, ↓reduceIte, Nat.reduceAdd, Nat.reduceMul, Nat.reduceSub, Nat.reduceLT, Nat.reduceLeDiff, Nat.reduceEqDiff, Nat.reducePow, Nat.reduceMod]
  repeat ((first | refine hx.call ?_ | refine hy.call ?_ | refine M1.call ?_ | refine M3.call ?_ | refine S.call ?_); simp (maxSteps := 2000000) only [↓avp, ↓avmD, avq, ↓reduceIte, Nat.reduceAdd, Nat.reduceMul, Nat.reduceSub, Nat.reduceLT, Nat.reduceLeDiff, Nat.reduceEqDiff, Nat.reducePow, Nat.reduceMod, hs, hs'])
  refine ret_now ?_
  simp (maxSteps := 2000000) only [↓avp, ↓avmD, avq, ↓reduceIte, Nat.reduceAdd, Nat.reduceMul, Nat.reduceSub, Nat.reduceLT, Nat.reduceLeDiff, Nat.reduceEqDiff, Nat.reducePow, Nat.reduceMod]
theorem frac_Div_gen {x y : AV} {a b : Rat} (hx : FV G x a) (hy : FV G y b) (ha : qb 200000000 a) (hb : qb 200000000 b) (h0 : b ≠ 0) : PX P G n_frac_Frac_Div [x, y] (.tup [fracV (a / b), .bool true]) := by
  refine PX_of_awp low_frac_Frac_Div fol (by simp only [avmF, hx.frz, hy.frz, and_true]) (by simp only [avmF, avmQ, and_true]) ?_
  unfold FV partsV at hx hy
  obtain ⟨ha1, ha2⟩ := ha
  obtain ⟨hb1, hb2⟩ := hb
  have hbn : b.num.natAbs ≠ 0 := fun e => h0 (Rat.num_eq_zero.1 (Int.natAbs_eq_zero.1 e))
  have d1 := dl_mul (B := 4294967296) (by decide) a.num.natAbs b.den
  have d3 := dl_mul (B := 4294967296) (by decide) a.den b.num.natAbs
  have M1 := nat_Mul_px (G := G) a.num.natAbs b.den (by omega) (by omega)
  have M3 := nat_Mul_px (G := G) a.den b.num.natAbs (by omega) (by omega)
  have S := frac_New_px (G := G) ((decide (a.num < 0) == decide (b.num < 0)) != true) (a.num.natAbs * b.den) (a.den * b.num.natAbs) (Nat.mul_ne_zero a.den_nz hbn) (by omega) (by omega)
  have e : a / b = mkRat (sgn ((decide (a.num < 0) == decide (b.num < 0)) != true) (a.num.natAbs * b.den)) (a.den * b.num.natAbs) := by
    have : ((decide (a.num < 0) == decide (b.num < 0)) != true) = (decide (a.num < 0) != decide (b.num < 0)) := by
      cases decide (a.num < 0) <;> cases decide (b.num < 0) <;> rfl
    rw [this, rat_div a b h0]
  rw [← e] at S
  generalize hs : ((decide (a.num < 0) == decide (b.num < 0)) != true) = sb at S
  have hs' : (!(decide (a.num < 0) == decide (b.num < 0))) = sb := by rw [← hs]; cases (decide (a.num < 0) == decide (b.num < 0)) <;> rfl
  simp only [ir_frac_Frac_Div, sX, mX, initF, List.replicate, Nat.reduceAdd, Nat.reduceSub, iv, avmL]
  simp (maxSteps := 2000000) only [↓avp, ↓avmD, avq, ↓reduceIte, Nat.reduceAdd, Nat.reduceMul, Nat.reduceSub, Nat.reduceLT, Nat.reduceLeDiff, Nat.reduceEqDiff, Nat.reducePow, Nat.reduceMod]
  repeat ((first | refine hx.call ?_ | refine hy.call ?_ | refine M1.call ?_ | refine M3.call ?_ | refine S.call ?_); simp (maxSteps := 2000000) only [↓avp, ↓avmD, avq, ↓reduceIte, Nat.reduceAdd, Nat.reduceMul, Nat.reduceSub, Nat.reduceLT, Nat.reduceLeDiff, Nat.reduceEqDiff, Nat.reducePow, Nat.reduceMod, hs, hs'])
  refine ret_now ?_
  simp (maxSteps := 2000000) only [↓avp, ↓avmD, avq, ↓reduceIte, Nat.reduceAdd, Nat.reduceMul, Nat.reduceSub, Nat.reduceLT, Nat.reduceLeDiff, Nat.reduceEqDiff, Nat.reducePow, Nat.reduceMod]
/-- -1, 0 or 1. -/
theorem frac_Sign_px (q : Rat) (hq : dl 4294967296 q.num.natAbs ≤ 1000000000) : PX P G n_frac_Frac_Sign [fracV q] (.int .i64 q.num.sign) := by
  refine PX_of_awp low_frac_Frac_Sign fol (by simp only [avmF, avmQ, and_true]) (by simp only [avmF]) ?_
  have Pt := frac_Parts_px (G := G) q
  have Z := frac_zero_px (G := G) q.num.natAbs hq
  rcases Int.lt_trichotomy q.num 0 with h | h | h
  · rw [decide_eq_true h] at Pt
    rw [Int.sign_eq_neg_one_of_neg h]
    simp only [ir_frac_Frac_Sign, sX, mX, initF, List.replicate, Nat.reduceAdd, Nat.reduceSub, iv, avmL]
    simp (maxSteps := 2000000) only [↓avp, ↓avmD, avq, ↓reduceIte, Nat.reduceAdd, Nat.reduceMul, Nat.reduceSub, Nat.reduceLT, Nat.reduceLeDiff, Nat.reduceEqDiff, Nat.reducePow, Nat.reduceMod]
    refine Pt.call ?_
    simp (maxSteps := 2000000) only [↓avp, ↓avmD, avq, ↓reduceIte, Nat.reduceAdd, Nat.reduceMul, Nat.reduceSub, Nat.reduceLT, Nat.reduceLeDiff, Nat.reduceEqDiff, Nat.reducePow, Nat.reduceMod]
    refine ret_now ?_
    simp (maxSteps := 2000000) only [↓avp, ↓avmD, avq, ↓reduceIte, Nat.reduceAdd, Nat.reduceMul, Nat.reduceSub, Nat.reduceLT, Nat.reduceLeDiff, Nat.reduceEqDiff, Nat.reducePow, Nat.reduceMod]
  · have h1 : ¬ q.num < 0 := by omega
    rw [decide_eq_false h1] at Pt
    rw [decide_eq_true (by omega)] at Z
    rw [h, Int.sign_zero]
    simp only [ir_frac_Frac_Sign, sX, mX, initF, List.replicate, Nat.reduceAdd, Nat.reduceSub, iv, avmL]
    simp (maxSteps := 2000000) only [↓avp, ↓avmD, avq, ↓reduceIte, Nat.reduceAdd, Nat.reduceMul, Nat.reduceSub, Nat.reduceLT, Nat.reduceLeDiff, Nat.reduceEqDiff, Nat.reducePow, Nat.reduceMod]
    repeat ((first | refine Pt.call ?_ | refine Z.call ?_); simp (maxSteps := 2000000) only [↓avp, ↓avmD, avq, ↓reduceIte, Nat.reduceAdd, Nat.reduceMul, Nat.reduceSub, Nat.reduceLT, Nat.reduceLeDiff, Nat.reduceEqDiff, Nat.reducePow, Nat.reduceMod])
    refine ret_now ?_
    simp (maxSteps := 2000000) only [↓avp, ↓avmD, avq, ↓reduceIte, Nat.reduceAdd, Nat.reduceMul, Nat.reduceSub, Nat.reduceLT, Nat.reduceLeDiff, Nat.reduceEqDiff, Nat.reducePow, Nat.reduceMod]
    rfl
  · have h1 : ¬ q.num < 0 := by omega
    rw [decide_eq_false h1] at Pt
    rw [decide_eq_false (by omega)] at Z
    rw [Int.sign_eq_one_of_pos h]
    simp only [ir_frac_Frac_Sign, sX, mX, initF, List.replicate, Nat.reduceAdd, Nat.reduceSub, iv, avmL]
    simp (maxSteps := 2000000) only [↓avp, ↓avmD, avq, ↓reduceIte, Nat.reduceAdd, Nat.reduceMul, Nat.reduceSub, Nat.reduceLT, Nat.reduceLeDiff, Nat.reduceEqDiff, Nat.reducePow, Nat.reduceMod]
    repeat ((first | refine Pt.call ?_ | refine Z.call ?_); simp (maxSteps := 2000000) only [↓avp, ↓avmD, avq, ↓reduceIte, Nat.reduceAdd, Nat.reduceMul, Nat.reduceSub, Nat.reduceLT, Nat.reduceLeDiff, Nat.reduceEqDiff, Nat.reducePow, Nat.reduceMod])
    refine ret_now ?_
    simp (maxSteps := 2000000) only [↓avp, ↓avmD, avq, ↓reduceIte, Nat.reduceAdd, Nat.reduceMul, Nat.reduceSub, Nat.reduceLT, Nat.reduceLeDiff, Nat.reduceEqDiff, Nat.reducePow, Nat.reduceMod]
    rfl
end Va
