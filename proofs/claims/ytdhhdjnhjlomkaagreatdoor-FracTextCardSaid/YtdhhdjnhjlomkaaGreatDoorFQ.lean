/- Joined texts. -/
import Derived.Test.YtdhhdjnhjlomkaaGreatDoorFN
import Derived.Lib.IndexMore
import Derived.Test.YtdhhdjnhjlomkaaGreatDoorRA
import Derived.Test.YtdhhdjnhjlomkaaGreatDoorTX
import Derived.Test.YtdhhdjnhjlomkaaGreatDoorIr3
import Derived.Test.YtdhhdjnhjlomkaaGreatDoorIr4
import Derived.Test.YtdhhdjnhjlomkaaGreatDoorFR
/- Plain laws of texts as fractions. -/
set_option linter.unusedVariables false
set_option linter.unusedSimpArgs false
open Go
namespace Va
/-- Whether there is a sign; what stands behind it; where a stroke stands. -/
def negQ (s : List UInt8) : Bool := s.head? == some 45
def bodyQ (s : List UInt8) : List UInt8 := if negQ s = true then s.drop 1 else s
def slashQ (t : List UInt8) : Nat := t.findIdx (· == 47)
def topQ (t : List UInt8) : List UInt8 := t.take (slashQ t)
def lowQ (t : List UInt8) : List UInt8 := if slashQ t < t.length then t.drop (slashQ t + 1) else [49]
/-- The fraction that a text is, its own. -/
def getQ (s : List UInt8) : Option Rat :=
  if okN (topQ (bodyQ s)) = true ∧ okN (lowQ (bodyQ s)) = true ∧ num (lowQ (bodyQ s)) ≠ 0 then
    if ratTxt (mkRat (sgn (negQ s) (num (topQ (bodyQ s)))) (num (lowQ (bodyQ s)))) = s then some (mkRat (sgn (negQ s) (num (topQ (bodyQ s)))) (num (lowQ (bodyQ s)))) else none
  else none
theorem slashQ_le (t : List UInt8) : slashQ t ≤ t.length := List.findIdx_le_length
theorem slashQ_cons (c : UInt8) (t : List UInt8) : slashQ (c :: t) = if c = 47 then 0 else slashQ t + 1 := by
  unfold slashQ
  rw [List.findIdx_cons]
  by_cases h : c = 47
  · simp [h]
  · have : (c == 47) = false := by simpa using h
    simp [this, h]
theorem index_slash : ∀ t : List UInt8, Lib.index t [47] = if slashQ t < t.length then (slashQ t : Int) else -1
  | [] => rfl
  | c :: t => by
    have ih := index_slash t
    rw [Lib.index, slashQ_cons]
    by_cases h : c = 47
    · subst h
      simp [List.isPrefixOf]
    · have h1 : ([47] : List UInt8).isPrefixOf (c :: t) = false := by
        have : ((47 : UInt8) == c) = false := by simpa using fun e => h e.symm
        simp [List.isPrefixOf, this]
      rw [h1, if_neg h, List.length_cons]
      simp only [Bool.false_eq_true, if_false]
      by_cases h2 : slashQ t < t.length
      · rw [ih, if_pos h2, if_pos (show slashQ t + 1 < t.length + 1 by omega)]
        have : ((slashQ t : Int) == -1) = false := by simp
        rw [this]
        simp
      · rw [ih, if_neg h2, if_neg (show ¬ slashQ t + 1 < t.length + 1 by omega)]
        rfl
theorem cut_slash (t : List UInt8) : Lib.cut t [47] = if slashQ t < t.length then (t.take (slashQ t), t.drop (slashQ t + 1), true) else (t, [], false) := by
  unfold Lib.cut
  rw [index_slash]
  by_cases h : slashQ t < t.length
  · rw [if_pos h, if_pos h]
    simp
  · rw [if_neg h, if_neg h]
    simp
theorem topQ_none {t : List UInt8} (h : ¬ slashQ t < t.length) : topQ t = t := by
  unfold topQ
  exact List.take_of_length_le (by omega)
/-! ### Taking a text of a fraction apart -/
/-- What may stand behind a row of digits. -/
def tailOK (t : List UInt8) : Prop := t = [] ∨ ∃ u, t = 47 :: u
theorem dg_takeWhile {a t : List UInt8} (ha : a.all isDg = true) (ht : tailOK t) : (a ++ t).takeWhile isDg = a := by
  rw [List.takeWhile_append_of_pos (by simpa [List.all_eq_true] using ha)]
  rcases ht with rfl | ⟨u, rfl⟩
  · simp
  · rw [List.takeWhile_cons, if_neg (by decide)]; simp
theorem dg_head {a : List UInt8} (ha : a.all isDg = true) : a.head? ≠ some 45 := by
  cases a with
  | nil => simp
  | cons c a =>
    rw [List.all_cons, Bool.and_eq_true] at ha
    simp
    intro e
    rw [e] at ha
    exact absurd ha.1 (by decide)
theorem dec_inj {p q : Bool} {a b t u : List UInt8} (ha : a.all isDg = true) (hb : b.all isDg = true) (ha0 : a ≠ []) (hb0 : b ≠ []) (ht : tailOK t) (hu : tailOK u)
    (h : (if p = true then [45] else []) ++ a ++ t = (if q = true then [45] else []) ++ b ++ u) : p = q ∧ a = b ∧ t = u := by
  have key : ∀ {a b t u : List UInt8}, a.all isDg = true → b.all isDg = true → tailOK t → tailOK u → a ++ t = b ++ u → a = b ∧ t = u := by
    intro a b t u ha hb ht hu h
    have h1 := dg_takeWhile ha ht
    rw [h, dg_takeWhile hb hu] at h1
    subst h1
    exact ⟨rfl, List.append_cancel_left h⟩
  have nh : ∀ {a t : List UInt8}, a.all isDg = true → a ≠ [] → (a ++ t).head? ≠ some 45 := by
    intro a t ha h0 h
    cases a with
    | nil => exact h0 rfl
    | cons c a => exact dg_head ha (by simpa using h)
  cases p <;> cases q
  · exact ⟨rfl, key ha hb ht hu (by simpa using h)⟩
  · exfalso
    have : (a ++ t).head? = some 45 := by
      have e : a ++ t = 45 :: (b ++ u) := by simpa using h
      rw [e]; rfl
    exact nh ha ha0 this
  · exfalso
    have : (b ++ u).head? = some 45 := by
      have e : 45 :: (a ++ t) = b ++ u := by simpa using h
      rw [← e]; rfl
    exact nh hb hb0 this
  · refine ⟨rfl, key ha hb ht hu ?_⟩
    have : 45 :: (a ++ t) = 45 :: (b ++ u) := by simpa using h
    exact (List.cons.inj this).2
theorem okN_dg {s : List UInt8} (h : okN s = true) : s.all isDg = true ∧ s ≠ [] ∧ s.length ≤ 2000 ∧ txt (num s) = s := by
  simp only [okN, Bool.and_eq_true, decide_eq_true_iff, Bool.not_eq_true', Bool.and_eq_false_iff, decide_eq_false_iff_not] at h
  obtain ⟨⟨⟨h1, h2⟩, h3⟩, ha⟩ := h
  refine ⟨ha, h1, h2, txt_num h1 (fun hl => ?_) ha⟩
  rcases h3 with h3 | h3
  · exact absurd hl h3
  · exact h3
/-- The text in its three parts. -/
theorem parts_eq (s : List UInt8) : s = (if negQ s = true then [45] else []) ++ topQ (bodyQ s) ++ (if slashQ (bodyQ s) < (bodyQ s).length then 47 :: lowQ (bodyQ s) else []) := by
  have h1 : s = (if negQ s = true then [45] else []) ++ bodyQ s := by
    unfold bodyQ
    cases h : negQ s with
    | false => simp
    | true =>
      unfold negQ at h
      cases s with
      | nil => simp at h
      | cons c s =>
        simp at h
        simp [h]
  have h2 : ∀ t : List UInt8, t = topQ t ++ (if slashQ t < t.length then 47 :: lowQ t else []) := by
    intro t
    by_cases h : slashQ t < t.length
    · rw [if_pos h, lowQ, if_pos h, topQ]
      have hd : t.drop (slashQ t) = 47 :: t.drop (slashQ t + 1) := by
        rw [List.drop_eq_getElem_cons h]
        congr 1
        have h9 : (t[List.findIdx (· == 47) t]'h == (47 : UInt8)) = true := List.findIdx_getElem (xs := t) (p := (· == 47)) (w := h)
        exact beq_iff_eq.1 h9
      rw [← hd, List.take_append_drop]
    · rw [if_neg h, topQ_none h, List.append_nil]
  rw [List.append_assoc, ← h2 (bodyQ s)]
  exact h1
/-- What is asked for a text to be its fraction's own. -/
theorem own_iff {s : List UInt8} (h1 : okN (topQ (bodyQ s)) = true) (h2 : okN (lowQ (bodyQ s)) = true) (hd : num (lowQ (bodyQ s)) ≠ 0) :
    ratTxt (mkRat (sgn (negQ s) (num (topQ (bodyQ s)))) (num (lowQ (bodyQ s)))) = s ↔
      ¬ (slashQ (bodyQ s) < (bodyQ s).length ∧ num (lowQ (bodyQ s)) = 1) ∧ ¬ (negQ s = true ∧ num (topQ (bodyQ s)) = 0) ∧ Nat.gcd (num (topQ (bodyQ s))) (num (lowQ (bodyQ s))) = 1 := by
  have hp := parts_eq s
  obtain ⟨n, hn⟩ : ∃ n, n = num (topQ (bodyQ s)) := ⟨_, rfl⟩
  obtain ⟨d, hdd⟩ : ∃ d, d = num (lowQ (bodyQ s)) := ⟨_, rfl⟩
  obtain ⟨a1, a2, a3, a4⟩ := okN_dg h1
  obtain ⟨b1, b2, b3, b4⟩ := okN_dg h2
  have hno : ¬ slashQ (bodyQ s) < (bodyQ s).length → d = 1 := fun h => by
    rw [hdd, lowQ, if_neg h]; rfl
  rw [← hn] at a4 ⊢
  rw [← hdd] at b4 hd ⊢
  rw [← a4, ← b4] at hp
  obtain ⟨q, hq⟩ : ∃ q, q = mkRat (sgn (negQ s) n) d := ⟨_, rfl⟩
  have q1 := mk_neg (negQ s) n hd
  have q2 := mk_abs (negQ s) n hd
  have q3 := mk_den (negQ s) n hd
  rw [← hq] at q1 q2 q3 ⊢
  have hg : 0 < Nat.gcd n d := Nat.gcd_pos_of_pos_right _ (Nat.pos_of_ne_zero hd)
  have hT : ratTxt q = (if decide (q.num < 0) = true then [45] else []) ++ txt q.num.natAbs ++ (if q.den = 1 then [] else 47 :: txt q.den) := by
    unfold ratTxt
    simp only [decide_eq_true_iff]
  have tl : ∀ (c : Prop) [Decidable c] (x : List UInt8), tailOK (if c then [] else 47 :: x) := fun c _ x => by
    by_cases h : c
    · rw [if_pos h]; exact .inl rfl
    · rw [if_neg h]; exact .inr ⟨x, rfl⟩
  have tl2 : ∀ (c : Prop) [Decidable c] (x : List UInt8), tailOK (if c then 47 :: x else []) := fun c _ x => by
    by_cases h : c
    · rw [if_pos h]; exact .inr ⟨x, rfl⟩
    · rw [if_neg h]; exact .inl rfl
  constructor
  · intro h
    have h' := hT.symm.trans (h.trans hp)
    obtain ⟨e1, e2, e3⟩ := dec_inj (txt_dg _) (txt_dg _) (txt_ne _) (txt_ne _) (tl _ _) (tl2 _ _) h'
    have e2' := txt_inj e2
    rw [q1] at e1
    rw [q2] at e2'
    rw [q3] at e3
    have hsl : slashQ (bodyQ s) < (bodyQ s).length → d / Nat.gcd n d ≠ 1 ∧ d / Nat.gcd n d = d := fun hs => by
      rw [if_pos hs] at e3
      by_cases h5 : d / Nat.gcd n d = 1
      · rw [if_pos h5] at e3; cases e3
      · rw [if_neg h5] at e3
        exact ⟨h5, txt_inj (List.cons.inj e3).2⟩
    refine ⟨fun ⟨hs, hd1⟩ => ?_, fun ⟨hs, hn0⟩ => ?_, ?_⟩
    · obtain ⟨x1, x2⟩ := hsl hs
      omega
    · rw [hs, hn0] at e1; simp at e1
    · by_cases hn0 : n = 0
      · rw [hn0, Nat.gcd_zero_left]
        by_cases hs : slashQ (bodyQ s) < (bodyQ s).length
        · obtain ⟨x1, x2⟩ := hsl hs
          rw [hn0, Nat.gcd_zero_left, Nat.div_self (Nat.pos_of_ne_zero hd)] at x1
          exact absurd rfl x1
        · exact hno hs
      · have h7 := Nat.div_mul_cancel (Nat.gcd_dvd_left n d)
        rw [e2'] at h7
        have : n * Nat.gcd n d = n * 1 := by omega
        exact Nat.eq_of_mul_eq_mul_left (Nat.pos_of_ne_zero hn0) this
  · rintro ⟨f1, f2, f3⟩
    rw [f3, Nat.div_one] at q2 q3
    rw [hT, q1, q2, q3]
    conv => rhs; rw [hp]
    have g1 : (negQ s && decide (n ≠ 0)) = negQ s := by
      cases hns : negQ s with
      | false => rfl
      | true => simp; exact fun e => f2 ⟨hns, e⟩
    rw [g1]
    congr 1
    by_cases hs : slashQ (bodyQ s) < (bodyQ s).length
    · rw [if_pos hs, if_neg (fun e => f1 ⟨hs, e⟩)]
    · rw [if_neg hs, if_pos (hno hs)]
end Va
/- The reference's fractions. -/
set_option linter.unusedSimpArgs false
set_option linter.unusedVariables false
set_option maxRecDepth 100000
set_option maxHeartbeats 8000000
open Go Go.Avm
namespace Va
attribute [local irreducible] ACallF FCallF
variable {G : Glob}
/-- A fraction of the reference, not in lowest terms. -/
def refQ (b : Bool) (n d : Nat) : AV := .agg [.bool b, refV n, refV d]
theorem avmU : (∀ n, Frz (refV n) = True) ∧ (∀ b n d, Frz (refQ b n d) = True) ∧ (∀ H n, OneC H (refV n) = True) ∧ (∀ n, cellsOf (refV n) = [refV n]) ∧ (∀ b n d, cellsOf (refQ b n d) = [.bool b, refV n, refV d]) ∧ (∀ i es cs n, thaw i es cs (refV n) = refV n) ∧ (∀ i es cs b n d, thaw i es cs (refQ b n d) = refQ b n d) ∧ (∀ i n, kill i (refV n) = refV n) ∧ (∀ i b n d, kill i (refQ b n d) = refQ b n d) :=
  ⟨fun n => by simp only [refV, avmF], fun b n d => by simp only [refQ, refV, avmF, and_true], fun _ _ => rfl, fun _ => rfl, fun _ _ _ => rfl, fun _ _ _ _ => rfl, fun _ _ _ _ _ _ => rfl, fun _ _ => rfl, fun _ _ _ _ => rfl⟩
theorem refV_one : refV 1 = .sl 1 (row .i64 [1]) := refV_small (by decide) (by decide)
theorem len_ref (H : List AObj) (n : Nat) (K : AV → Prop) : lenP H (refV n) K = (dl 10000 n ≤ 9223372036854775807 → K (.int .i64 ((dl 10000 n : Nat) : Int))) := rfl
theorem dl_pos_iff (n : Nat) : (0 < dl 10000 n) = (n ≠ 0) := propext ⟨fun h e => by rw [e, dl_zero] at h; omega, fun h => by
  rcases Nat.eq_zero_or_pos (dl 10000 n) with e | e
  · rw [dl_eq_zero (by decide)] at e; exact absurd e h
  · exact e⟩
theorem ref_Gcd_px (a b : Nat) (ha : dl 10000 a ≤ 100000000) (hb : dl 10000 b ≤ 100000000) : PX P G n_ref1_Gcd [refV a, refV b] (refV (Nat.gcd a b)) := by
  refine PX_of_awp low_ref1_Gcd fol (by simp only [avmF, avmU, and_true]) (by simp only [avmU]) ?_
  simp only [ir_ref1_Gcd, sX, mX, initF, List.replicate, Nat.reduceAdd, Nat.reduceSub, iv, avmL]
  simp (maxSteps := 2000000) only [↓avp, ↓avmD, avq, ↓reduceIte, Nat.reduceAdd, Nat.reduceMul, Nat.reduceSub, Nat.reduceLT, Nat.reduceLeDiff, Nat.reduceEqDiff, Nat.reducePow, Nat.reduceMod]
  refine loop_of (fun c : Nat × Nat => ⟨[refV c.1,refV c.2,J,J,J,J,J,J,J,J,J,J,J,J,J,J,J,J,J], []⟩)
    (fun c => Nat.gcd c.1 c.2 = Nat.gcd a b ∧ dl 10000 c.1 ≤ 100000000 ∧ dl 10000 c.2 ≤ 100000000) (fun c => c.2) (a, b) [0, 1] rfl ⟨rfl, ha, hb⟩ ?_
  rintro ⟨x, y⟩ ⟨hg, hx, hy⟩
  simp only at hg hx hy
  have u1 : dl 10000 y ≤ 9223372036854775807 := by omega
  by_cases h0 : y = 0
  · have e0 : (y ≠ 0) = False := by simp [h0]
    rw [h0, Nat.gcd_zero_right] at hg
    simp (maxSteps := 2000000) only [↓avp, ↓avmD, avq, ↓reduceIte, Nat.reduceAdd, Nat.reduceMul, Nat.reduceSub, Nat.reduceLT, Nat.reduceLeDiff, Nat.reduceEqDiff, Nat.reducePow, Nat.reduceMod, len_ref, u1, dl_pos_iff, e0]
    refine ret_now ?_
    simp (maxSteps := 2000000) only [↓avp, ↓avmD, avq, ↓reduceIte, Nat.reduceAdd, Nat.reduceMul, Nat.reduceSub, Nat.reduceLT, Nat.reduceLeDiff, Nat.reduceEqDiff, Nat.reducePow, Nat.reduceMod, hg]
  · have e0 : (y ≠ 0) = True := by simp [h0]
    have hD := ref_Div_px (G := G) x y (by omega) hx hy
    have hm : x % y < y := Nat.mod_lt _ (by omega)
    have hdm := dl_mono (B := 10000) (by decide) (Nat.le_of_lt hm)
    simp (maxSteps := 2000000) only [↓avp, ↓avmD, avq, ↓reduceIte, Nat.reduceAdd, Nat.reduceMul, Nat.reduceSub, Nat.reduceLT, Nat.reduceLeDiff, Nat.reduceEqDiff, Nat.reducePow, Nat.reduceMod, len_ref, u1, dl_pos_iff, e0]
    refine hD.call ?_
    simp (maxSteps := 2000000) only [↓avp, ↓avmD, avq, ↓reduceIte, Nat.reduceAdd, Nat.reduceMul, Nat.reduceSub, Nat.reduceLT, Nat.reduceLeDiff, Nat.reduceEqDiff, Nat.reducePow, Nat.reduceMod]
    exact LN.next (y, x % y) [0, 1] ⟨by simp only; rw [← hg, Nat.gcd_comm x y, Nat.gcd_rec y x, Nat.gcd_comm], hy, by simp only; omega⟩ (by simp only; exact hm) rfl
theorem ref_Frac_px (b : Bool) (n d : Nat) (hn : dl 10000 n ≤ 1000000000) : PX P G n_ref1_Frac [.bool b, refV n, refV d] (refQ (b && decide (n ≠ 0)) n d) := by
  refine PX_of_awp low_ref1_Frac fol (by simp only [avmF, avmU, and_true]) (by simp only [avmU]) ?_
  have u1 : dl 10000 n ≤ 9223372036854775807 := by omega
  cases b with
  | true =>
    simp only [ir_ref1_Frac, sX, mX, initF, List.replicate, Nat.reduceAdd, Nat.reduceSub, iv, avmL]
    simp (maxSteps := 2000000) only [↓avp, ↓avmD, avq, ↓reduceIte, Nat.reduceAdd, Nat.reduceMul, Nat.reduceSub, Nat.reduceLT, Nat.reduceLeDiff, Nat.reduceEqDiff, Nat.reducePow, Nat.reduceMod, len_ref, u1, dl_pos_iff, avmU]
    refine ret_now ?_
    simp (maxSteps := 2000000) only [↓avp, ↓avmD, avq, ↓reduceIte, Nat.reduceAdd, Nat.reduceMul, Nat.reduceSub, Nat.reduceLT, Nat.reduceLeDiff, Nat.reduceEqDiff, Nat.reducePow, Nat.reduceMod, refQ, Bool.true_and, List.take_succ_cons, List.take_zero]
  | false =>
    simp only [ir_ref1_Frac, sX, mX, initF, List.replicate, Nat.reduceAdd, Nat.reduceSub, iv, avmL]
    simp (maxSteps := 2000000) only [↓avp, ↓avmD, avq, ↓reduceIte, Nat.reduceAdd, Nat.reduceMul, Nat.reduceSub, Nat.reduceLT, Nat.reduceLeDiff, Nat.reduceEqDiff, Nat.reducePow, Nat.reduceMod, len_ref, u1, dl_pos_iff, avmU]
    refine ret_now ?_
    simp (maxSteps := 2000000) only [↓avp, ↓avmD, avq, ↓reduceIte, Nat.reduceAdd, Nat.reduceMul, Nat.reduceSub, Nat.reduceLT, Nat.reduceLeDiff, Nat.reduceEqDiff, Nat.reducePow, Nat.reduceMod, refQ, Bool.false_and, List.take_succ_cons, List.take_zero]
theorem ref_Low_px (b : Bool) (n d : Nat) (hd : d ≠ 0) (hn1 : dl 10000 n ≤ 100000000) (hd1 : dl 10000 d ≤ 100000000) : PX P G n_ref1_Q_Low [refQ b n d] (refQ (b && decide (n ≠ 0)) (n / Nat.gcd n d) (d / Nat.gcd n d)) := by
  refine PX_of_awp low_ref1_Q_Low fol (by simp only [avmF, avmU, and_true]) (by simp only [avmU]) ?_
  have hg0 : 0 < Nat.gcd n d := Nat.gcd_pos_of_pos_right _ (Nat.pos_of_ne_zero hd)
  have Gc := ref_Gcd_px (G := G) n d hn1 hd1
  obtain ⟨g, hg⟩ : ∃ g, g = Nat.gcd n d := ⟨_, rfl⟩
  have hgl : g ≤ d := by rw [hg]; exact Nat.le_of_dvd (Nat.pos_of_ne_zero hd) (Nat.gcd_dvd_right n d)
  have hdv : g ∣ n := by rw [hg]; exact Nat.gcd_dvd_left n d
  rw [← hg] at Gc hg0 ⊢
  have hgd := Nat.le_trans (dl_mono (B := 10000) (by decide) hgl) hd1
  have D1 := ref_Div_px (G := G) n g hg0 hn1 hgd
  have D2 := ref_Div_px (G := G) d g hg0 hd1 hgd
  have hnl := Nat.le_trans (dl_mono (B := 10000) (by decide) (Nat.div_le_self n g)) hn1
  have F := ref_Frac_px (G := G) b (n / g) (d / g) (by omega)
  have e0 : decide (n / g ≠ 0) = decide (n ≠ 0) := by
    rw [decide_eq_decide, ne_eq, ne_eq]
    refine not_congr ⟨fun h => ?_, fun h => by rw [h, Nat.zero_div]⟩
    obtain ⟨k, rfl⟩ := hdv
    rw [Nat.mul_div_cancel_left _ hg0] at h
    rw [h, Nat.mul_zero]
  rw [e0] at F
  simp only [ir_ref1_Q_Low, sX, mX, initF, List.replicate, Nat.reduceAdd, Nat.reduceSub, iv, avmL]
  simp (maxSteps := 2000000) only [↓avp, ↓avmD, avq, ↓reduceIte, Nat.reduceAdd, Nat.reduceMul, Nat.reduceSub, Nat.reduceLT, Nat.reduceLeDiff, Nat.reduceEqDiff, Nat.reducePow, Nat.reduceMod, avmU]
  repeat ((first | refine Gc.call ?_ | refine D1.call ?_ | refine D2.call ?_ | refine F.call ?_); simp (maxSteps := 2000000) only [↓avp, ↓avmD, avq, ↓reduceIte, Nat.reduceAdd, Nat.reduceMul, Nat.reduceSub, Nat.reduceLT, Nat.reduceLeDiff, Nat.reduceEqDiff, Nat.reducePow, Nat.reduceMod, avmU])
  refine ret_now ?_
  simp (maxSteps := 2000000) only [↓avp, ↓avmD, avq, ↓reduceIte, Nat.reduceAdd, Nat.reduceMul, Nat.reduceSub, Nat.reduceLT, Nat.reduceLeDiff, Nat.reduceEqDiff, Nat.reducePow, Nat.reduceMod, refQ, List.take_succ_cons, List.take_zero]
/-- What a fraction of the reference is. -/
def qv (b : Bool) (n d : Nat) : Rat := mkRat (sgn b n) d
theorem ratTxt_qv (b : Bool) (n d : Nat) (hd : d ≠ 0) : ratTxt (qv b n d) = (if (b && decide (n ≠ 0)) = true then [45] else []) ++ txt (n / Nat.gcd n d) ++ (if d / Nat.gcd n d = 1 then [] else 47 :: txt (d / Nat.gcd n d)) := by
  have h1 := mk_neg b n hd
  have h2 := mk_abs b n hd
  have h3 := mk_den b n hd
  unfold ratTxt qv
  rw [h2, h3, ← h1]
  simp only [decide_eq_true_iff]
theorem len_dl {n K : Nat} (h : dl 10000 n ≤ K) : (txt n).length ≤ 4 * K + 1 := by
  refine txt_len ?_ (by omega)
  have h1 := (dl_le_iff (by decide)).1 h
  refine Nat.lt_of_lt_of_le h1 ?_
  rw [Nat.pow_succ, Nat.pow_mul]
  exact Nat.le_mul_of_pos_right _ (by decide)
theorem ref_QText_px (b : Bool) (n d : Nat) (hd : d ≠ 0) (hn1 : dl 10000 n ≤ 100000000) (hd1 : dl 10000 d ≤ 100000000) : PX P G n_ref1_Q_Text [refQ b n d] (.str (ratTxt (qv b n d))) := by
  refine PX_of_awp low_ref1_Q_Text fol (by simp only [avmF, avmU, and_true]) (by simp only [avmF]) ?_
  rw [ratTxt_qv b n d hd]
  have L := ref_Low_px (G := G) b n d hd hn1 hd1
  have hg0 : 0 < Nat.gcd n d := Nat.gcd_pos_of_pos_right _ (Nat.pos_of_ne_zero hd)
  have hgl : Nat.gcd n d ≤ d := Nat.le_of_dvd (Nat.pos_of_ne_zero hd) (Nat.gcd_dvd_right n d)
  have hy0 : 0 < d / Nat.gcd n d := Nat.div_pos hgl hg0
  have hx := Nat.le_trans (dl_mono (B := 10000) (by decide) (Nat.div_le_self n (Nat.gcd n d))) hn1
  have hy := Nat.le_trans (dl_mono (B := 10000) (by decide) (Nat.div_le_self d (Nat.gcd n d))) hd1
  obtain ⟨x, hxe⟩ : ∃ x, x = n / Nat.gcd n d := ⟨_, rfl⟩
  obtain ⟨y, hye⟩ : ∃ y, y = d / Nat.gcd n d := ⟨_, rfl⟩
  obtain ⟨c, hc⟩ : ∃ c, c = (b && decide (n ≠ 0)) := ⟨_, rfl⟩
  rw [← hxe, ← hye, ← hc] at L
  rw [← hxe] at hx
  rw [← hye] at hy hy0
  rw [← hxe, ← hye, ← hc]
  have T1 := ref_Text_px (G := G) x (by omega)
  have T2 := ref_Text_px (G := G) y (by omega)
  have l1 := len_dl hx
  have l2 := len_dl hy
  have d1 : dl 10000 1 ≤ 1 := (dl_le_iff (by decide)).2 (by decide)
  have C := ref_Cmp_px (G := G) y 1 (by omega) (by omega)
  have C' : PX P G n_ref1_Cmp [refV y, .sl 1 (row .i64 [1])] (.int .i64 (cmpI y 1)) := by rw [← refV_one]; exact C
  clear C
  by_cases h1 : y = 1
  · have c1 : (((0 : Nat) : Int) < cmpI y 1) = False := by simp [cmpI, h1]
    cases c with
    | true =>
      have k1 : 1 + (txt x).length ≤ 9223372036854775807 := by omega
      rw [if_pos rfl, if_pos h1]
      simp only [ir_ref1_Q_Text, sX, mX, initF, List.replicate, Nat.reduceAdd, Nat.reduceSub, iv, avmL, refQ]
      simp (maxSteps := 2000000) only [↓avp, ↓avmD, avq, ↓reduceIte, Nat.reduceAdd, Nat.reduceMul, Nat.reduceSub, Nat.reduceLT, Nat.reduceLeDiff, Nat.reduceEqDiff, Nat.reducePow, Nat.reduceMod, avmU, List.take_succ_cons, List.take_zero]
      repeat ((first | refine L.call ?_ | refine T1.call ?_); simp (maxSteps := 2000000) only [↓avp, ↓avmD, avq, ↓reduceIte, Nat.reduceAdd, Nat.reduceMul, Nat.reduceSub, Nat.reduceLT, Nat.reduceLeDiff, Nat.reduceEqDiff, Nat.reducePow, Nat.reduceMod, avmU, List.length_cons, List.length_nil, k1])
      refine ACall.fzc (H0 := [_]) 1 rfl rfl (Nat.zero_le _) (by simp only [avmF]) ?_
      simp (maxSteps := 2000000) only [↓avp, ↓avmD, avq, ↓reduceIte, Nat.reduceAdd, Nat.reduceMul, Nat.reduceSub, Nat.reduceLT, Nat.reduceLeDiff, Nat.reduceEqDiff, Nat.reducePow, Nat.reduceMod, avmT, avmK, avmU, ne_eq, not_false_eq_true, List.length_cons, List.length_nil, List.take_succ_cons, List.take_zero]
      refine C'.call ?_
      simp (maxSteps := 2000000) only [↓avp, ↓avmD, avq, ↓reduceIte, Nat.reduceAdd, Nat.reduceMul, Nat.reduceSub, Nat.reduceLT, Nat.reduceLeDiff, Nat.reduceEqDiff, Nat.reducePow, Nat.reduceMod, c1]
      refine ret_now ?_
      simp (maxSteps := 2000000) only [↓avp, ↓avmD, avq, ↓reduceIte, Nat.reduceAdd, Nat.reduceMul, Nat.reduceSub, Nat.reduceLT, Nat.reduceLeDiff, Nat.reduceEqDiff, Nat.reducePow, Nat.reduceMod, List.append_nil]
    | false =>
      rw [if_neg (by decide), if_pos h1]
      simp only [ir_ref1_Q_Text, sX, mX, initF, List.replicate, Nat.reduceAdd, Nat.reduceSub, iv, avmL, refQ]
      simp (maxSteps := 2000000) only [↓avp, ↓avmD, avq, ↓reduceIte, Nat.reduceAdd, Nat.reduceMul, Nat.reduceSub, Nat.reduceLT, Nat.reduceLeDiff, Nat.reduceEqDiff, Nat.reducePow, Nat.reduceMod, avmU, List.take_succ_cons, List.take_zero]
      repeat ((first | refine L.call ?_ | refine T1.call ?_); simp (maxSteps := 2000000) only [↓avp, ↓avmD, avq, ↓reduceIte, Nat.reduceAdd, Nat.reduceMul, Nat.reduceSub, Nat.reduceLT, Nat.reduceLeDiff, Nat.reduceEqDiff, Nat.reducePow, Nat.reduceMod, avmU, List.length_cons, List.length_nil])
      refine ACall.fzc (H0 := [_]) 1 rfl rfl (Nat.zero_le _) (by simp only [avmF]) ?_
      simp (maxSteps := 2000000) only [↓avp, ↓avmD, avq, ↓reduceIte, Nat.reduceAdd, Nat.reduceMul, Nat.reduceSub, Nat.reduceLT, Nat.reduceLeDiff, Nat.reduceEqDiff, Nat.reducePow, Nat.reduceMod, avmT, avmK, avmU, ne_eq, not_false_eq_true, List.length_cons, List.length_nil, List.take_succ_cons, List.take_zero]
      refine C'.call ?_
      simp (maxSteps := 2000000) only [↓avp, ↓avmD, avq, ↓reduceIte, Nat.reduceAdd, Nat.reduceMul, Nat.reduceSub, Nat.reduceLT, Nat.reduceLeDiff, Nat.reduceEqDiff, Nat.reducePow, Nat.reduceMod, c1]
      refine ret_now ?_
      simp (maxSteps := 2000000) only [↓avp, ↓avmD, avq, ↓reduceIte, Nat.reduceAdd, Nat.reduceMul, Nat.reduceSub, Nat.reduceLT, Nat.reduceLeDiff, Nat.reduceEqDiff, Nat.reducePow, Nat.reduceMod, List.append_nil, List.nil_append]
  · have c1 : (((0 : Nat) : Int) < cmpI y 1) = True := by
      unfold cmpI
      rw [if_neg (by omega), if_pos (by omega)]
      simp
    have k2 : 1 + (txt y).length ≤ 9223372036854775807 := by omega
    cases c with
    | true =>
      have k1 : 1 + (txt x).length ≤ 9223372036854775807 := by omega
      have k3 : (txt x).length + 1 + ((txt y).length + 1) ≤ 9223372036854775807 := by omega
      rw [if_pos rfl, if_neg h1]
      simp only [ir_ref1_Q_Text, sX, mX, initF, List.replicate, Nat.reduceAdd, Nat.reduceSub, iv, avmL, refQ]
      simp (maxSteps := 2000000) only [↓avp, ↓avmD, avq, ↓reduceIte, Nat.reduceAdd, Nat.reduceMul, Nat.reduceSub, Nat.reduceLT, Nat.reduceLeDiff, Nat.reduceEqDiff, Nat.reducePow, Nat.reduceMod, avmU, List.take_succ_cons, List.take_zero]
      repeat ((first | refine L.call ?_ | refine T1.call ?_); simp (maxSteps := 2000000) only [↓avp, ↓avmD, avq, ↓reduceIte, Nat.reduceAdd, Nat.reduceMul, Nat.reduceSub, Nat.reduceLT, Nat.reduceLeDiff, Nat.reduceEqDiff, Nat.reducePow, Nat.reduceMod, avmU, List.length_cons, List.length_nil, k1])
      refine ACall.fzc (H0 := [_]) 1 rfl rfl (Nat.zero_le _) (by simp only [avmF]) ?_
      simp (maxSteps := 2000000) only [↓avp, ↓avmD, avq, ↓reduceIte, Nat.reduceAdd, Nat.reduceMul, Nat.reduceSub, Nat.reduceLT, Nat.reduceLeDiff, Nat.reduceEqDiff, Nat.reducePow, Nat.reduceMod, avmT, avmK, avmU, ne_eq, not_false_eq_true, List.length_cons, List.length_nil, List.take_succ_cons, List.take_zero]
      repeat ((first | refine C'.call ?_ | refine T2.call ?_); simp (maxSteps := 2000000) only [↓avp, ↓avmD, avq, ↓reduceIte, Nat.reduceAdd, Nat.reduceMul, Nat.reduceSub, Nat.reduceLT, Nat.reduceLeDiff, Nat.reduceEqDiff, Nat.reducePow, Nat.reduceMod, c1, List.length_cons, List.length_nil, k2, List.cons_append, List.nil_append, k3])
      refine ret_now ?_
      simp (maxSteps := 2000000) only [↓avp, ↓avmD, avq, ↓reduceIte, Nat.reduceAdd, Nat.reduceMul, Nat.reduceSub, Nat.reduceLT, Nat.reduceLeDiff, Nat.reduceEqDiff, Nat.reducePow, Nat.reduceMod, List.cons_append, List.nil_append]
    | false =>
      have k3 : (txt x).length + ((txt y).length + 1) ≤ 9223372036854775807 := by omega
      rw [if_neg (by decide), if_neg h1]
      simp only [ir_ref1_Q_Text, sX, mX, initF, List.replicate, Nat.reduceAdd, Nat.reduceSub, iv, avmL, refQ]
      simp (maxSteps := 2000000) only [↓avp, ↓avmD, avq, ↓reduceIte, Nat.reduceAdd, Nat.reduceMul, Nat.reduceSub, Nat.reduceLT, Nat.reduceLeDiff, Nat.reduceEqDiff, Nat.reducePow, Nat.reduceMod, avmU, List.take_succ_cons, List.take_zero]
      repeat ((first | refine L.call ?_ | refine T1.call ?_); simp (maxSteps := 2000000) only [↓avp, ↓avmD, avq, ↓reduceIte, Nat.reduceAdd, Nat.reduceMul, Nat.reduceSub, Nat.reduceLT, Nat.reduceLeDiff, Nat.reduceEqDiff, Nat.reducePow, Nat.reduceMod, avmU, List.length_cons, List.length_nil])
      refine ACall.fzc (H0 := [_]) 1 rfl rfl (Nat.zero_le _) (by simp only [avmF]) ?_
      simp (maxSteps := 2000000) only [↓avp, ↓avmD, avq, ↓reduceIte, Nat.reduceAdd, Nat.reduceMul, Nat.reduceSub, Nat.reduceLT, Nat.reduceLeDiff, Nat.reduceEqDiff, Nat.reducePow, Nat.reduceMod, avmT, avmK, avmU, ne_eq, not_false_eq_true, List.length_cons, List.length_nil, List.take_succ_cons, List.take_zero]
      repeat ((first | refine C'.call ?_ | refine T2.call ?_); simp (maxSteps := 2000000) only [↓avp, ↓avmD, avq, ↓reduceIte, Nat.reduceAdd, Nat.reduceMul, Nat.reduceSub, Nat.reduceLT, Nat.reduceLeDiff, Nat.reduceEqDiff, Nat.reducePow, Nat.reduceMod, c1, List.length_cons, List.length_nil, k2, List.cons_append, List.nil_append, k3])
      refine ret_now ?_
      simp (maxSteps := 2000000) only [↓avp, ↓avmD, avq, ↓reduceIte, Nat.reduceAdd, Nat.reduceMul, Nat.reduceSub, Nat.reduceLT, Nat.reduceLeDiff, Nat.reduceEqDiff, Nat.reducePow, Nat.reduceMod, List.cons_append, List.nil_append]
end Va
/- The program's fractions: texts read, rounding; drawn fractions. -/
set_option linter.unusedSimpArgs false
set_option linter.unusedVariables false
set_option maxRecDepth 100000
set_option exponentiation.threshold 3000
set_option maxHeartbeats 8000000
open Go Go.Avm
namespace Va
attribute [local irreducible] ACallF FCallF
variable {G : Glob}
/-- What nat.Get hands out. -/
def getV (s : List UInt8) : AV := if okN s = true then natV (num s) else .nilp
theorem nat_Get_px (s : List UInt8) (hs : s.length ≤ 9223372036854775806) : PX P G n_nat_Get [.str s] (.tup [getV s, .bool (okN s)]) := by
  cases h : okN s with
  | true => rw [getV, h, if_pos rfl]; exact nat_Get_yes s h
  | false => rw [getV, h, if_neg (by decide)]; exact nat_Get_no s hs h
theorem HasPrefix_minus (s : List UInt8) : PX P G n_i_stringslite_HasPrefix [.str s, .str [45]] (.bool (negQ s)) := by
  refine PX_of_awp low_i_stringslite_HasPrefix fol (by simp only [avmF, and_true]) (by simp only [avmF]) ?_
  cases s with
  | nil =>
    have e : negQ [] = false := rfl
    have c1 : ¬ 1 ≤ 0 := by omega
    rw [e]
    simp only [ir_i_stringslite_HasPrefix, sX, mX, initF, List.replicate, Nat.reduceAdd, Nat.reduceSub, iv, avmL]
    simp (maxSteps := 2000000) only [↓avp, ↓avmD, avq, ↓reduceIte, Nat.reduceAdd, Nat.reduceMul, Nat.reduceSub, Nat.reduceLT, Nat.reduceLeDiff, Nat.reduceEqDiff, Nat.reducePow, Nat.reduceMod, List.length_cons, List.length_nil, c1]
    refine ret_now ?_
    simp (maxSteps := 2000000) only [↓avp, ↓avmD, avq, ↓reduceIte, Nat.reduceAdd, Nat.reduceMul, Nat.reduceSub, Nat.reduceLT, Nat.reduceLeDiff, Nat.reduceEqDiff, Nat.reducePow, Nat.reduceMod]
  | cons c r =>
    have e : ([c] == ([45] : List UInt8)) = negQ (c :: r) := by
      unfold negQ
      rw [List.head?_cons]
      by_cases h : c = 45 <;> simp [h]
    have c1 : 1 ≤ r.length + 1 := by omega
    simp only [ir_i_stringslite_HasPrefix, sX, mX, initF, List.replicate, Nat.reduceAdd, Nat.reduceSub, iv, avmL]
    simp (maxSteps := 2000000) only [↓avp, ↓avmD, avq, ↓reduceIte, Nat.reduceAdd, Nat.reduceMul, Nat.reduceSub, Nat.reduceLT, Nat.reduceLeDiff, Nat.reduceEqDiff, Nat.reducePow, Nat.reduceMod, List.length_cons, List.length_nil, c1, List.take_succ_cons, List.take_zero, e]
    refine ret_now ?_
    simp (maxSteps := 2000000) only [↓avp, ↓avmD, avq, ↓reduceIte, Nat.reduceAdd, Nat.reduceMul, Nat.reduceSub, Nat.reduceLT, Nat.reduceLeDiff, Nat.reduceEqDiff, Nat.reducePow, Nat.reduceMod]
theorem CutPrefix_minus (s : List UInt8) : PX P G n_strings_CutPrefix [.str s, .str [45]] (.tup [.str (bodyQ s), .bool (negQ s)]) := by
  have hlite : PX P G n_i_stringslite_CutPrefix [.str s, .str [45]] (.tup [.str (bodyQ s), .bool (negQ s)]) := by
    refine PX_of_awp low_i_stringslite_CutPrefix fol (by simp only [avmF, and_true]) (by simp only [avmF, and_true]) ?_
    have H := HasPrefix_minus (G := G) s
    have n1 : (!true) = false := rfl
    have n2 : (!false) = true := rfl
    cases h : negQ s with
    | false =>
      rw [h] at H
      have e : bodyQ s = s := by rw [bodyQ, h, if_neg (by decide)]
      rw [e]
      simp only [ir_i_stringslite_CutPrefix, sX, mX, initF, List.replicate, Nat.reduceAdd, Nat.reduceSub, iv, avmL]
      simp (maxSteps := 2000000) only [↓avp, ↓avmD, avq, ↓reduceIte, Nat.reduceAdd, Nat.reduceMul, Nat.reduceSub, Nat.reduceLT, Nat.reduceLeDiff, Nat.reduceEqDiff, Nat.reducePow, Nat.reduceMod]
      refine H.call ?_
      simp (maxSteps := 2000000) only [↓avp, ↓avmD, avq, ↓reduceIte, Nat.reduceAdd, Nat.reduceMul, Nat.reduceSub, Nat.reduceLT, Nat.reduceLeDiff, Nat.reduceEqDiff, Nat.reducePow, Nat.reduceMod, n2]
      refine ret_now ?_
      simp (maxSteps := 2000000) only [↓avp, ↓avmD, avq, ↓reduceIte, Nat.reduceAdd, Nat.reduceMul, Nat.reduceSub, Nat.reduceLT, Nat.reduceLeDiff, Nat.reduceEqDiff, Nat.reducePow, Nat.reduceMod]
    | true =>
      rw [h] at H
      have e : bodyQ s = s.drop 1 := by rw [bodyQ, h, if_pos rfl]
      have hl : 1 ≤ s.length := by
        cases s with
        | nil => cases h
        | cons c r => simp
      have e2 : (s.drop 1).take (s.length - 1) = s.drop 1 := List.take_of_length_le (by rw [List.length_drop]; exact Nat.le_refl _)
      rw [e]
      simp only [ir_i_stringslite_CutPrefix, sX, mX, initF, List.replicate, Nat.reduceAdd, Nat.reduceSub, iv, avmL]
      simp (maxSteps := 2000000) only [↓avp, ↓avmD, avq, ↓reduceIte, Nat.reduceAdd, Nat.reduceMul, Nat.reduceSub, Nat.reduceLT, Nat.reduceLeDiff, Nat.reduceEqDiff, Nat.reducePow, Nat.reduceMod]
      refine H.call ?_
      simp (maxSteps := 2000000) only [↓avp, ↓avmD, avq, ↓reduceIte, Nat.reduceAdd, Nat.reduceMul, Nat.reduceSub, Nat.reduceLT, Nat.reduceLeDiff, Nat.reduceEqDiff, Nat.reducePow, Nat.reduceMod, n1, List.length_cons, List.length_nil, hl, e2]
      refine ret_now ?_
      simp (maxSteps := 2000000) only [↓avp, ↓avmD, avq, ↓reduceIte, Nat.reduceAdd, Nat.reduceMul, Nat.reduceSub, Nat.reduceLT, Nat.reduceLeDiff, Nat.reduceEqDiff, Nat.reducePow, Nat.reduceMod]
  refine PX_of_awp low_strings_CutPrefix fol (by simp only [avmF, and_true]) (by simp only [avmF, and_true]) ?_
  simp only [ir_strings_CutPrefix, sX, mX, initF, List.replicate, Nat.reduceAdd, Nat.reduceSub, iv, avmL]
  simp (maxSteps := 2000000) only [↓avp, ↓avmD, avq, ↓reduceIte, Nat.reduceAdd, Nat.reduceMul, Nat.reduceSub, Nat.reduceLT, Nat.reduceLeDiff, Nat.reduceEqDiff, Nat.reducePow, Nat.reduceMod]
  refine hlite.call ?_
  simp (maxSteps := 2000000) only [↓avp, ↓avmD, avq, ↓reduceIte, Nat.reduceAdd, Nat.reduceMul, Nat.reduceSub, Nat.reduceLT, Nat.reduceLeDiff, Nat.reduceEqDiff, Nat.reducePow, Nat.reduceMod]
  refine ret_now ?_
  simp (maxSteps := 2000000) only [↓avp, ↓avmD, avq, ↓reduceIte, Nat.reduceAdd, Nat.reduceMul, Nat.reduceSub, Nat.reduceLT, Nat.reduceLeDiff, Nat.reduceEqDiff, Nat.reducePow, Nat.reduceMod]
theorem bodyQ_len (s : List UInt8) : (bodyQ s).length ≤ s.length := by
  unfold bodyQ
  split
  · rw [List.length_drop]; omega
  · exact Nat.le_refl _
theorem topQ_len (t : List UInt8) : (topQ t).length ≤ t.length := by unfold topQ; rw [List.length_take]; omega
theorem lowQ_len (t : List UInt8) : (lowQ t).length ≤ t.length + 1 := by
  unfold lowQ
  split
  · rw [List.length_drop]; omega
  · simp
/-- What frac.Get hands out. -/
def fgetV (s : List UInt8) : AV := match getQ s with
  | some q => .tup [fracV q, .bool true]
  | none => .tup [.nilp, .bool false]
theorem fgetV_frz (s : List UInt8) : Frz (fgetV s) = True := by unfold fgetV; split <;> simp only [avmF, avmQ, and_true]
theorem okN_dl {s : List UInt8} (h : okN s = true) : dl 4294967296 (num s) ≤ 2000 ∧ dl 10000 (num s) ≤ 2000 := by
  obtain ⟨h1, h2, h3, h4⟩ := okN_dg h
  have := num_lt h1
  have h5 : num s < 10 ^ 2000 := Nat.lt_of_lt_of_le this (Nat.pow_le_pow_right (by decide) h3)
  exact ⟨dl_small h5, dlr h5⟩
theorem frac_Get_px (hG : GOK G) (s : List UInt8) (hs : s.length ≤ 1000000) : PX P G n_frac_Get [.str s] (fgetV s) := by
  refine PX_of_awp low_frac_Get fol (by simp only [avmF, and_true]) (by rw [fgetV_frz]; trivial) ?_
  have n1 : (!true) = false := rfl
  have n2 : (!false) = true := rfl
  have P1 := CutPrefix_minus (G := G) s
  have b1 := bodyQ_len s
  obtain ⟨t, ht⟩ : ∃ t, t = bodyQ s := ⟨_, rfl⟩
  have b2 := topQ_len t
  have b3 := lowQ_len t
  rw [← ht] at P1 b1
  have P2 := cut_px hG t [47] (by omega)
  rw [cut_slash] at P2
  have G1 := nat_Get_px (G := G) (topQ t) (by omega)
  have G2 := nat_Get_px (G := G) (lowQ t) (by omega)
  have hget : fgetV s = if okN (topQ t) = true ∧ okN (lowQ t) = true ∧ num (lowQ t) ≠ 0 then (if ratTxt (mkRat (sgn (negQ s) (num (topQ t))) (num (lowQ t))) = s then .tup [fracV (mkRat (sgn (negQ s) (num (topQ t))) (num (lowQ t))), .bool true] else .tup [.nilp, .bool false]) else .tup [.nilp, .bool false] := by
    unfold fgetV getQ
    rw [← ht]
    by_cases h1 : okN (topQ t) = true ∧ okN (lowQ t) = true ∧ num (lowQ t) ≠ 0
    · rw [if_pos h1, if_pos h1]
      by_cases h2 : ratTxt (mkRat (sgn (negQ s) (num (topQ t))) (num (lowQ t))) = s
      · rw [if_pos h2, if_pos h2]
      · rw [if_neg h2, if_neg h2]
    · rw [if_neg h1, if_neg h1]
  rw [hget]
  by_cases hsl : slashQ t < t.length
  · have e1 : t.take (slashQ t) = topQ t := rfl
    have e2 : t.drop (slashQ t + 1) = lowQ t := by rw [lowQ, if_pos hsl]
    rw [if_pos hsl, e1, e2] at P2
    cases h1 : okN (topQ t) with
    | false =>
      rw [h1] at G1
      rw [if_neg (fun h => by cases h.1)]
      simp only [ir_frac_Get, sX, mX, initF, List.replicate, Nat.reduceAdd, Nat.reduceSub, iv, avmL]
      simp (maxSteps := 2000000) only [↓avp, ↓avmD, avq, ↓reduceIte, Nat.reduceAdd, Nat.reduceMul, Nat.reduceSub, Nat.reduceLT, Nat.reduceLeDiff, Nat.reduceEqDiff, Nat.reducePow, Nat.reduceMod]
      repeat ((first | refine P1.call ?_ | refine P2.call ?_ | refine G1.call ?_ | refine G2.call ?_); simp (maxSteps := 2000000) only [↓avp, ↓avmD, avq, ↓reduceIte, Nat.reduceAdd, Nat.reduceMul, Nat.reduceSub, Nat.reduceLT, Nat.reduceLeDiff, Nat.reduceEqDiff, Nat.reducePow, Nat.reduceMod, n1, n2])
      refine ret_now ?_
      simp (maxSteps := 2000000) only [↓avp, ↓avmD, avq, ↓reduceIte, Nat.reduceAdd, Nat.reduceMul, Nat.reduceSub, Nat.reduceLT, Nat.reduceLeDiff, Nat.reduceEqDiff, Nat.reducePow, Nat.reduceMod]
    | true =>
    rw [h1] at G1
    cases h2 : okN (lowQ t) with
    | false =>
      rw [h2] at G2
      rw [if_neg (fun h => by cases h.2.1)]
      simp only [ir_frac_Get, sX, mX, initF, List.replicate, Nat.reduceAdd, Nat.reduceSub, iv, avmL]
      simp (maxSteps := 2000000) only [↓avp, ↓avmD, avq, ↓reduceIte, Nat.reduceAdd, Nat.reduceMul, Nat.reduceSub, Nat.reduceLT, Nat.reduceLeDiff, Nat.reduceEqDiff, Nat.reducePow, Nat.reduceMod]
      repeat ((first | refine P1.call ?_ | refine P2.call ?_ | refine G1.call ?_ | refine G2.call ?_); simp (maxSteps := 2000000) only [↓avp, ↓avmD, avq, ↓reduceIte, Nat.reduceAdd, Nat.reduceMul, Nat.reduceSub, Nat.reduceLT, Nat.reduceLeDiff, Nat.reduceEqDiff, Nat.reducePow, Nat.reduceMod, n1, n2])
      refine ret_now ?_
      simp (maxSteps := 2000000) only [↓avp, ↓avmD, avq, ↓reduceIte, Nat.reduceAdd, Nat.reduceMul, Nat.reduceSub, Nat.reduceLT, Nat.reduceLeDiff, Nat.reduceEqDiff, Nat.reducePow, Nat.reduceMod]
    | true =>
    rw [h2] at G2
    have v1 : getV (topQ t) = natV (num (topQ t)) := by rw [getV, if_pos h1]
    have v2 : getV (lowQ t) = natV (num (lowQ t)) := by rw [getV, if_pos h2]
    rw [v1] at G1
    rw [v2] at G2
    have o1 := okN_dl h1
    have o2 := okN_dl h2
    obtain ⟨n, hn⟩ : ∃ n, n = num (topQ t) := ⟨_, rfl⟩
    obtain ⟨d, hd⟩ : ∃ d, d = num (lowQ t) := ⟨_, rfl⟩
    rw [← hn] at G1 o1 ⊢
    rw [← hd] at G2 o2 ⊢
    have Z := frac_zero_px (G := G) d (by omega)
    by_cases h3 : d = 0
    · rw [decide_eq_true h3] at Z
      rw [if_neg (fun h => h.2.2 h3)]
      simp only [ir_frac_Get, sX, mX, initF, List.replicate, Nat.reduceAdd, Nat.reduceSub, iv, avmL]
      simp (maxSteps := 2000000) only [↓avp, ↓avmD, avq, ↓reduceIte, Nat.reduceAdd, Nat.reduceMul, Nat.reduceSub, Nat.reduceLT, Nat.reduceLeDiff, Nat.reduceEqDiff, Nat.reducePow, Nat.reduceMod]
      repeat ((first | refine P1.call ?_ | refine P2.call ?_ | refine G1.call ?_ | refine G2.call ?_ | refine Z.call ?_); simp (maxSteps := 2000000) only [↓avp, ↓avmD, avq, ↓reduceIte, Nat.reduceAdd, Nat.reduceMul, Nat.reduceSub, Nat.reduceLT, Nat.reduceLeDiff, Nat.reduceEqDiff, Nat.reducePow, Nat.reduceMod, n1, n2])
      refine ret_now ?_
      simp (maxSteps := 2000000) only [↓avp, ↓avmD, avq, ↓reduceIte, Nat.reduceAdd, Nat.reduceMul, Nat.reduceSub, Nat.reduceLT, Nat.reduceLeDiff, Nat.reduceEqDiff, Nat.reducePow, Nat.reduceMod]
    · rw [decide_eq_false h3] at Z
      rw [if_pos ⟨rfl, rfl, h3⟩]
      have S := frac_sure_px (G := G) (negQ s) n d h3 (by omega) (by omega)
      have hq : qb 2000 (mkRat (sgn (negQ s) n) d) := qb_mk h3 (by omega) (by omega)
      have T := frac_Text_px hG (mkRat (sgn (negQ s) n) d) (qb_mono hq (by decide))
      by_cases h4 : ratTxt (mkRat (sgn (negQ s) n) d) = s
      · have e4 : (ratTxt (mkRat (sgn (negQ s) n) d) == s) = true := by simpa using h4
        rw [if_pos h4]
        simp only [ir_frac_Get, sX, mX, initF, List.replicate, Nat.reduceAdd, Nat.reduceSub, iv, avmL]
        simp (maxSteps := 2000000) only [↓avp, ↓avmD, avq, ↓reduceIte, Nat.reduceAdd, Nat.reduceMul, Nat.reduceSub, Nat.reduceLT, Nat.reduceLeDiff, Nat.reduceEqDiff, Nat.reducePow, Nat.reduceMod]
        repeat ((first | refine P1.call ?_ | refine P2.call ?_ | refine G1.call ?_ | refine G2.call ?_ | refine Z.call ?_ | refine S.call ?_ | refine T.call ?_); simp (maxSteps := 2000000) only [↓avp, ↓avmD, avq, ↓reduceIte, Nat.reduceAdd, Nat.reduceMul, Nat.reduceSub, Nat.reduceLT, Nat.reduceLeDiff, Nat.reduceEqDiff, Nat.reducePow, Nat.reduceMod, n1, n2, e4])
        refine ret_now ?_
        simp (maxSteps := 2000000) only [↓avp, ↓avmD, avq, ↓reduceIte, Nat.reduceAdd, Nat.reduceMul, Nat.reduceSub, Nat.reduceLT, Nat.reduceLeDiff, Nat.reduceEqDiff, Nat.reducePow, Nat.reduceMod]
      · have e4 : (ratTxt (mkRat (sgn (negQ s) n) d) == s) = false := by simpa using h4
        rw [if_neg h4]
        simp only [ir_frac_Get, sX, mX, initF, List.replicate, Nat.reduceAdd, Nat.reduceSub, iv, avmL]
        simp (maxSteps := 2000000) only [↓avp, ↓avmD, avq, ↓reduceIte, Nat.reduceAdd, Nat.reduceMul, Nat.reduceSub, Nat.reduceLT, Nat.reduceLeDiff, Nat.reduceEqDiff, Nat.reducePow, Nat.reduceMod]
        repeat ((first | refine P1.call ?_ | refine P2.call ?_ | refine G1.call ?_ | refine G2.call ?_ | refine Z.call ?_ | refine S.call ?_ | refine T.call ?_); simp (maxSteps := 2000000) only [↓avp, ↓avmD, avq, ↓reduceIte, Nat.reduceAdd, Nat.reduceMul, Nat.reduceSub, Nat.reduceLT, Nat.reduceLeDiff, Nat.reduceEqDiff, Nat.reducePow, Nat.reduceMod, n1, n2, e4])
        refine ret_now ?_
        simp (maxSteps := 2000000) only [↓avp, ↓avmD, avq, ↓reduceIte, Nat.reduceAdd, Nat.reduceMul, Nat.reduceSub, Nat.reduceLT, Nat.reduceLeDiff, Nat.reduceEqDiff, Nat.reducePow, Nat.reduceMod]
  · have e1 : t = topQ t := (topQ_none hsl).symm
    have e2 : lowQ t = [49] := by rw [lowQ, if_neg hsl]
    rw [if_neg hsl] at P2
    have P2' : PX P G n_strings_Cut [.str t, .str [47]] (.tup [.str (topQ t), .str [], .bool false]) := by rw [← e1]; exact P2
    clear P2
    have P2 := P2'
    have G2' : PX P G n_nat_Get [.str [49]] (.tup [getV (lowQ t), .bool (okN (lowQ t))]) := by rw [← e2]; exact G2
    clear G2
    have G2 := G2'
    cases h1 : okN (topQ t) with
    | false =>
      rw [h1] at G1
      rw [if_neg (fun h => by cases h.1)]
      simp only [ir_frac_Get, sX, mX, initF, List.replicate, Nat.reduceAdd, Nat.reduceSub, iv, avmL]
      simp (maxSteps := 2000000) only [↓avp, ↓avmD, avq, ↓reduceIte, Nat.reduceAdd, Nat.reduceMul, Nat.reduceSub, Nat.reduceLT, Nat.reduceLeDiff, Nat.reduceEqDiff, Nat.reducePow, Nat.reduceMod]
      repeat ((first | refine P1.call ?_ | refine P2.call ?_ | refine G1.call ?_ | refine G2.call ?_); simp (maxSteps := 2000000) only [↓avp, ↓avmD, avq, ↓reduceIte, Nat.reduceAdd, Nat.reduceMul, Nat.reduceSub, Nat.reduceLT, Nat.reduceLeDiff, Nat.reduceEqDiff, Nat.reducePow, Nat.reduceMod, n2, n1])
      refine ret_now ?_
      simp (maxSteps := 2000000) only [↓avp, ↓avmD, avq, ↓reduceIte, Nat.reduceAdd, Nat.reduceMul, Nat.reduceSub, Nat.reduceLT, Nat.reduceLeDiff, Nat.reduceEqDiff, Nat.reducePow, Nat.reduceMod]
    | true =>
    rw [h1] at G1
    cases h2 : okN (lowQ t) with
    | false =>
      rw [h2] at G2
      rw [if_neg (fun h => by cases h.2.1)]
      simp only [ir_frac_Get, sX, mX, initF, List.replicate, Nat.reduceAdd, Nat.reduceSub, iv, avmL]
      simp (maxSteps := 2000000) only [↓avp, ↓avmD, avq, ↓reduceIte, Nat.reduceAdd, Nat.reduceMul, Nat.reduceSub, Nat.reduceLT, Nat.reduceLeDiff, Nat.reduceEqDiff, Nat.reducePow, Nat.reduceMod]
      repeat ((first | refine P1.call ?_ | refine P2.call ?_ | refine G1.call ?_ | refine G2.call ?_); simp (maxSteps := 2000000) only [↓avp, ↓avmD, avq, ↓reduceIte, Nat.reduceAdd, Nat.reduceMul, Nat.reduceSub, Nat.reduceLT, Nat.reduceLeDiff, Nat.reduceEqDiff, Nat.reducePow, Nat.reduceMod, n2, n1])
      refine ret_now ?_
      simp (maxSteps := 2000000) only [↓avp, ↓avmD, avq, ↓reduceIte, Nat.reduceAdd, Nat.reduceMul, Nat.reduceSub, Nat.reduceLT, Nat.reduceLeDiff, Nat.reduceEqDiff, Nat.reducePow, Nat.reduceMod]
    | true =>
    rw [h2] at G2
    have v1 : getV (topQ t) = natV (num (topQ t)) := by rw [getV, if_pos h1]
    have v2 : getV (lowQ t) = natV (num (lowQ t)) := by rw [getV, if_pos h2]
    rw [v1] at G1
    rw [v2] at G2
    have o1 := okN_dl h1
    have o2 := okN_dl h2
    obtain ⟨n, hn⟩ : ∃ n, n = num (topQ t) := ⟨_, rfl⟩
    obtain ⟨d, hd⟩ : ∃ d, d = num (lowQ t) := ⟨_, rfl⟩
    rw [← hn] at G1 o1 ⊢
    rw [← hd] at G2 o2 ⊢
    have Z := frac_zero_px (G := G) d (by omega)
    by_cases h3 : d = 0
    · rw [decide_eq_true h3] at Z
      rw [if_neg (fun h => h.2.2 h3)]
      simp only [ir_frac_Get, sX, mX, initF, List.replicate, Nat.reduceAdd, Nat.reduceSub, iv, avmL]
      simp (maxSteps := 2000000) only [↓avp, ↓avmD, avq, ↓reduceIte, Nat.reduceAdd, Nat.reduceMul, Nat.reduceSub, Nat.reduceLT, Nat.reduceLeDiff, Nat.reduceEqDiff, Nat.reducePow, Nat.reduceMod]
      repeat ((first | refine P1.call ?_ | refine P2.call ?_ | refine G1.call ?_ | refine G2.call ?_ | refine Z.call ?_); simp (maxSteps := 2000000) only [↓avp, ↓avmD, avq, ↓reduceIte, Nat.reduceAdd, Nat.reduceMul, Nat.reduceSub, Nat.reduceLT, Nat.reduceLeDiff, Nat.reduceEqDiff, Nat.reducePow, Nat.reduceMod, n2, n1])
      refine ret_now ?_
      simp (maxSteps := 2000000) only [↓avp, ↓avmD, avq, ↓reduceIte, Nat.reduceAdd, Nat.reduceMul, Nat.reduceSub, Nat.reduceLT, Nat.reduceLeDiff, Nat.reduceEqDiff, Nat.reducePow, Nat.reduceMod]
    · rw [decide_eq_false h3] at Z
      rw [if_pos ⟨rfl, rfl, h3⟩]
      have S := frac_sure_px (G := G) (negQ s) n d h3 (by omega) (by omega)
      have hq : qb 2000 (mkRat (sgn (negQ s) n) d) := qb_mk h3 (by omega) (by omega)
      have T := frac_Text_px hG (mkRat (sgn (negQ s) n) d) (qb_mono hq (by decide))
      by_cases h4 : ratTxt (mkRat (sgn (negQ s) n) d) = s
      · have e4 : (ratTxt (mkRat (sgn (negQ s) n) d) == s) = true := by simpa using h4
        rw [if_pos h4]
        simp only [ir_frac_Get, sX, mX, initF, List.replicate, Nat.reduceAdd, Nat.reduceSub, iv, avmL]
        simp (maxSteps := 2000000) only [↓avp, ↓avmD, avq, ↓reduceIte, Nat.reduceAdd, Nat.reduceMul, Nat.reduceSub, Nat.reduceLT, Nat.reduceLeDiff, Nat.reduceEqDiff, Nat.reducePow, Nat.reduceMod]
        repeat ((first | refine P1.call ?_ | refine P2.call ?_ | refine G1.call ?_ | refine G2.call ?_ | refine Z.call ?_ | refine S.call ?_ | refine T.call ?_); simp (maxSteps := 2000000) only [↓avp, ↓avmD, avq, ↓reduceIte, Nat.reduceAdd, Nat.reduceMul, Nat.reduceSub, Nat.reduceLT, Nat.reduceLeDiff, Nat.reduceEqDiff, Nat.reducePow, Nat.reduceMod, n2, n1, e4])
        refine ret_now ?_
        simp (maxSteps := 2000000) only [↓avp, ↓avmD, avq, ↓reduceIte, Nat.reduceAdd, Nat.reduceMul, Nat.reduceSub, Nat.reduceLT, Nat.reduceLeDiff, Nat.reduceEqDiff, Nat.reducePow, Nat.reduceMod]
      · have e4 : (ratTxt (mkRat (sgn (negQ s) n) d) == s) = false := by simpa using h4
        rw [if_neg h4]
        simp only [ir_frac_Get, sX, mX, initF, List.replicate, Nat.reduceAdd, Nat.reduceSub, iv, avmL]
        simp (maxSteps := 2000000) only [↓avp, ↓avmD, avq, ↓reduceIte, Nat.reduceAdd, Nat.reduceMul, Nat.reduceSub, Nat.reduceLT, Nat.reduceLeDiff, Nat.reduceEqDiff, Nat.reducePow, Nat.reduceMod]
        repeat ((first | refine P1.call ?_ | refine P2.call ?_ | refine G1.call ?_ | refine G2.call ?_ | refine Z.call ?_ | refine S.call ?_ | refine T.call ?_); simp (maxSteps := 2000000) only [↓avp, ↓avmD, avq, ↓reduceIte, Nat.reduceAdd, Nat.reduceMul, Nat.reduceSub, Nat.reduceLT, Nat.reduceLeDiff, Nat.reduceEqDiff, Nat.reducePow, Nat.reduceMod, n2, n1, e4])
        refine ret_now ?_
        simp (maxSteps := 2000000) only [↓avp, ↓avmD, avq, ↓reduceIte, Nat.reduceAdd, Nat.reduceMul, Nat.reduceSub, Nat.reduceLT, Nat.reduceLeDiff, Nat.reduceEqDiff, Nat.reducePow, Nat.reduceMod]
theorem frac_Floor_ex (q : Rat) (hq : qb 100000000 q) : ∃ v, PX P G n_frac_Frac_Floor [fracV q] v := by
  obtain ⟨h1, h2⟩ := hq
  have Pt := frac_Parts_px (G := G) q
  have hd0 : 0 < q.den := Nat.pos_of_ne_zero q.den_nz
  have D := nat_Div_px (G := G) q.num.natAbs q.den hd0 (by omega) (by omega)
  have hdr := dl_mono (B := 4294967296) (by decide) (Nat.le_of_lt (Nat.mod_lt q.num.natAbs hd0))
  have hdq := dl_mono (B := 4294967296) (by decide) (Nat.div_le_self q.num.natAbs q.den)
  have Z := frac_zero_px (G := G) (q.num.natAbs % q.den) (by omega)
  have O := nat_Of_px (G := G) 1 (by decide)
  have d1 : dl 4294967296 1 ≤ 1 := (dl_le_iff (by decide)).2 (by decide)
  have A := nat_Add_px (G := G) (q.num.natAbs / q.den) 1 (by omega) (by omega)
  have dA := dl_add (B := 4294967296) (by decide) (q.num.natAbs / q.den) 1
  have n1 : (!true) = false := rfl
  have n2 : (!false) = true := rfl
  have S : ∀ (b : Bool) (m : Nat), dl 4294967296 m ≤ 900000000 → PX P G n_frac_sure [.bool b, natV m, natV 1] (fracV (mkRat (sgn b m) 1)) := fun b m hm => frac_sure_px b m 1 (by decide) hm (by omega)
  cases hb : decide (q.num < 0) with
  | false =>
    rw [hb] at Pt
    refine ⟨fracV (mkRat (sgn false (q.num.natAbs / q.den)) 1), ?_⟩
    refine PX_of_awp low_frac_Frac_Floor fol (by simp only [avmF, avmQ, and_true]) (by simp only [avmQ]) ?_
    simp only [ir_frac_Frac_Floor, sX, mX, initF, List.replicate, Nat.reduceAdd, Nat.reduceSub, iv, avmL]
    simp (maxSteps := 2000000) only [↓avp, ↓avmD, avq, ↓reduceIte, Nat.reduceAdd, Nat.reduceMul, Nat.reduceSub, Nat.reduceLT, Nat.reduceLeDiff, Nat.reduceEqDiff, Nat.reducePow, Nat.reduceMod]
    repeat ((first | refine Pt.call ?_ | refine D.call ?_ | refine O.call ?_ | refine (S false _ (by omega)).call ?_); simp (maxSteps := 2000000) only [↓avp, ↓avmD, avq, ↓reduceIte, Nat.reduceAdd, Nat.reduceMul, Nat.reduceSub, Nat.reduceLT, Nat.reduceLeDiff, Nat.reduceEqDiff, Nat.reducePow, Nat.reduceMod])
    refine ret_now ?_
    simp (maxSteps := 2000000) only [↓avp, ↓avmD, avq, ↓reduceIte, Nat.reduceAdd, Nat.reduceMul, Nat.reduceSub, Nat.reduceLT, Nat.reduceLeDiff, Nat.reduceEqDiff, Nat.reducePow, Nat.reduceMod]
  | true =>
    rw [hb] at Pt
    by_cases h0 : q.num.natAbs % q.den = 0
    · rw [decide_eq_true h0] at Z
      refine ⟨fracV (mkRat (sgn true (q.num.natAbs / q.den)) 1), ?_⟩
      refine PX_of_awp low_frac_Frac_Floor fol (by simp only [avmF, avmQ, and_true]) (by simp only [avmQ]) ?_
      simp only [ir_frac_Frac_Floor, sX, mX, initF, List.replicate, Nat.reduceAdd, Nat.reduceSub, iv, avmL]
      simp (maxSteps := 2000000) only [↓avp, ↓avmD, avq, ↓reduceIte, Nat.reduceAdd, Nat.reduceMul, Nat.reduceSub, Nat.reduceLT, Nat.reduceLeDiff, Nat.reduceEqDiff, Nat.reducePow, Nat.reduceMod]
      repeat ((first | refine Pt.call ?_ | refine D.call ?_ | refine Z.call ?_ | refine O.call ?_ | refine (S true _ (by omega)).call ?_); simp (maxSteps := 2000000) only [↓avp, ↓avmD, avq, ↓reduceIte, Nat.reduceAdd, Nat.reduceMul, Nat.reduceSub, Nat.reduceLT, Nat.reduceLeDiff, Nat.reduceEqDiff, Nat.reducePow, Nat.reduceMod, n1])
      refine ret_now ?_
      simp (maxSteps := 2000000) only [↓avp, ↓avmD, avq, ↓reduceIte, Nat.reduceAdd, Nat.reduceMul, Nat.reduceSub, Nat.reduceLT, Nat.reduceLeDiff, Nat.reduceEqDiff, Nat.reducePow, Nat.reduceMod]
    · rw [decide_eq_false h0] at Z
      refine ⟨fracV (mkRat (sgn true (q.num.natAbs / q.den + 1)) 1), ?_⟩
      refine PX_of_awp low_frac_Frac_Floor fol (by simp only [avmF, avmQ, and_true]) (by simp only [avmQ]) ?_
      simp only [ir_frac_Frac_Floor, sX, mX, initF, List.replicate, Nat.reduceAdd, Nat.reduceSub, iv, avmL]
      simp (maxSteps := 2000000) only [↓avp, ↓avmD, avq, ↓reduceIte, Nat.reduceAdd, Nat.reduceMul, Nat.reduceSub, Nat.reduceLT, Nat.reduceLeDiff, Nat.reduceEqDiff, Nat.reducePow, Nat.reduceMod]
      repeat ((first | refine Pt.call ?_ | refine D.call ?_ | refine Z.call ?_ | refine O.call ?_ | refine A.call ?_ | refine (S true _ (by omega)).call ?_); simp (maxSteps := 2000000) only [↓avp, ↓avmD, avq, ↓reduceIte, Nat.reduceAdd, Nat.reduceMul, Nat.reduceSub, Nat.reduceLT, Nat.reduceLeDiff, Nat.reduceEqDiff, Nat.reducePow, Nat.reduceMod, n2])
      refine ret_now ?_
      simp (maxSteps := 2000000) only [↓avp, ↓avmD, avq, ↓reduceIte, Nat.reduceAdd, Nat.reduceMul, Nat.reduceSub, Nat.reduceLT, Nat.reduceLeDiff, Nat.reduceEqDiff, Nat.reducePow, Nat.reduceMod]
end Va
/- Drawn fractions. -/
set_option linter.unusedSimpArgs false
set_option linter.unusedVariables false
set_option maxRecDepth 100000
set_option maxHeartbeats 8000000
open Go Go.Avm
namespace Va
attribute [local irreducible] ACallF FCallF
variable {G : Glob}
/-- The text of a drawn denominator. -/
def denS (t : List UInt8) : List UInt8 := if digS t 25 = [48] then [51] else digS t 25
theorem denS_ok (t : List UInt8) : okN (denS t) = true ∧ (denS t).length ≤ 25 ∧ num (denS t) ≠ 0 := by
  obtain ⟨h1, h2⟩ := digS_ok t (n := 25) (by decide) (by decide)
  unfold denS
  split
  · exact ⟨rfl, by decide, by decide⟩
  · next hne =>
    refine ⟨h1, h2, fun h => hne ?_⟩
    have := (okN_dg h1).2.2.2
    rw [h] at this
    exact this.symm
theorem small_dl {s : List UInt8} {L : Nat} (h : okN s = true) (hl : s.length ≤ L) : dl 4294967296 (num s) ≤ L ∧ dl 10000 (num s) ≤ L := by
  have h1 := num_lt (okN_dg h).1
  have h5 : num s < 10 ^ L := Nat.lt_of_lt_of_le h1 (Nat.pow_le_pow_right (by decide) hl)
  exact ⟨dl_small h5, dlr h5⟩
theorem law1_R_px (s t : List UInt8) (neg : Bool) (hs : s.length ≤ 9223372036854775807) (ht : t.length ≤ 9223372036854775807) :
    PX P G n_law1_R [.str s, .str t, .bool neg] (.tup [fracV (mkRat (sgn neg (num (digS s 25))) (num (denS t))), refQ (neg && decide (num (digS s 25) ≠ 0)) (num (digS s 25)) (num (denS t))]) := by
  refine PX_of_awp low_law1_R fol (by simp only [avmF, and_true]) (by simp only [avmF, avmQ, avmU, and_true]) ?_
  have D1 := law1_Digits_px (G := G) s 25 hs (by decide)
  have D2 := law1_Digits_px (G := G) t 25 ht (by decide)
  obtain ⟨a1, a2⟩ := digS_ok s (n := 25) (by decide) (by decide)
  obtain ⟨c1, c2, c3⟩ := denS_ok t
  have G1 := nat_Get_yes (G := G) _ a1
  have G2 := nat_Get_yes (G := G) _ c1
  have R1 := ref_GetN_px (G := G) (digS s 25) (by omega)
  have R2 := ref_GetN_px (G := G) (denS t) (by omega)
  rw [a1, if_pos rfl] at R1
  rw [c1, if_pos rfl] at R2
  obtain ⟨e1, e2⟩ := small_dl a1 a2
  obtain ⟨e3, e4⟩ := small_dl c1 c2
  have N := frac_New_px (G := G) neg (num (digS s 25)) (num (denS t)) c3 (by omega) (by omega)
  have F := ref_Frac_px (G := G) neg (num (digS s 25)) (num (denS t)) (by omega)
  by_cases h : digS t 25 = [48]
  · have hd : denS t = [51] := by rw [denS, if_pos h]
    have q1 : (digS t 25 == [48]) = true := by rw [h]; rfl
    rw [hd] at G2 R2 N F ⊢
    simp only [ir_law1_R, sX, mX, initF, List.replicate, Nat.reduceAdd, Nat.reduceSub, iv, avmL]
    simp (maxSteps := 2000000) only [↓avp, ↓avmD, avq, ↓reduceIte, Nat.reduceAdd, Nat.reduceMul, Nat.reduceSub, Nat.reduceLT, Nat.reduceLeDiff, Nat.reduceEqDiff, Nat.reducePow, Nat.reduceMod, avmU]
    repeat ((first | refine D1.call ?_ | refine D2.call ?_ | refine G1.call ?_ | refine G2.call ?_ | refine R1.call ?_ | refine R2.call ?_ | refine N.call ?_ | refine F.call ?_); simp (maxSteps := 2000000) only [↓avp, ↓avmD, avq, ↓reduceIte, Nat.reduceAdd, Nat.reduceMul, Nat.reduceSub, Nat.reduceLT, Nat.reduceLeDiff, Nat.reduceEqDiff, Nat.reducePow, Nat.reduceMod, q1, avmU])
    refine ret_now ?_
    simp (maxSteps := 2000000) only [↓avp, ↓avmD, avq, ↓reduceIte, Nat.reduceAdd, Nat.reduceMul, Nat.reduceSub, Nat.reduceLT, Nat.reduceLeDiff, Nat.reduceEqDiff, Nat.reducePow, Nat.reduceMod, refQ, List.take_succ_cons, List.take_zero]
  · have hd : denS t = digS t 25 := by rw [denS, if_neg h]
    have q1 : (digS t 25 == [48]) = false := by simpa using h
    rw [hd] at G2 R2 N F ⊢
    simp only [ir_law1_R, sX, mX, initF, List.replicate, Nat.reduceAdd, Nat.reduceSub, iv, avmL]
    simp (maxSteps := 2000000) only [↓avp, ↓avmD, avq, ↓reduceIte, Nat.reduceAdd, Nat.reduceMul, Nat.reduceSub, Nat.reduceLT, Nat.reduceLeDiff, Nat.reduceEqDiff, Nat.reducePow, Nat.reduceMod, avmU]
    repeat ((first | refine D1.call ?_ | refine D2.call ?_ | refine G1.call ?_ | refine G2.call ?_ | refine R1.call ?_ | refine R2.call ?_ | refine N.call ?_ | refine F.call ?_); simp (maxSteps := 2000000) only [↓avp, ↓avmD, avq, ↓reduceIte, Nat.reduceAdd, Nat.reduceMul, Nat.reduceSub, Nat.reduceLT, Nat.reduceLeDiff, Nat.reduceEqDiff, Nat.reducePow, Nat.reduceMod, q1, avmU])
    refine ret_now ?_
    simp (maxSteps := 2000000) only [↓avp, ↓avmD, avq, ↓reduceIte, Nat.reduceAdd, Nat.reduceMul, Nat.reduceSub, Nat.reduceLT, Nat.reduceLeDiff, Nat.reduceEqDiff, Nat.reducePow, Nat.reduceMod, refQ, List.take_succ_cons, List.take_zero]
end Va
