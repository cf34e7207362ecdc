/- The operations of the abstract machine are those of the model: loads, slices, what is built. -/
import Derived.Test.YtflfgjhdofphnabGreatDoorSnd2
set_option linter.unusedSimpArgs false
set_option linter.unusedVariables false
namespace Go.Avm
open Go
variable {P : Program} {G : Glob} {φ : Phi} {bl : Nat → BL} {H : List AObj} {w : World}

theorem pick_sound {c a b : AV} {u v x : Value} {K : AV → Prop} (hc : Rep φ bl c x) (ha : Rep φ bl a u) (hb : Rep φ bl b v) (h : pickP c a b K) :
    Gives P φ bl (do pure (if ← asBool x then u else v)) w K := by
  cases c <;> simp only [pickP] at h
  rename_i t
  simp only [Rep] at hc
  subst hc
  cases t
  · exact ⟨b, v, by simp [asBool], hb, by simpa using h⟩
  · exact ⟨a, u, by simp [asBool], ha, by simpa using h⟩

theorem ext_sound {x : AV} {u : Value} {i : Nat} {K : AV → Prop} (hx : Rep φ bl x u) (h : extP x i K) : Gives P φ bl (Instr.extract u i) w K := by
  cases x <;> simp only [extP] at h
  rename_i vs
  simp only [Rep] at hx
  obtain ⟨us, rfl, hr⟩ := hx
  obtain ⟨v, hv, hrv⟩ := hr.get h.1
  exact ⟨_, v, by simp [Instr.extract, hv], hrv, h.2⟩

theorem max_sound {x y : AV} {u v : Value} {K : AV → Prop} (hx : Rep φ bl x u) (hy : Rep φ bl y v) (h : maxP x y K) (ts : Array TypeId) (t : TypeId) : Gives P φ bl (Builtin.max_ ts t #[u, v]) w K := by
  cases x <;> cases y <;> simp only [maxP] at h
  rename_i k a k' b
  simp only [Rep] at hx hy
  subst hx hy
  exact ⟨.int k _, .int k (if b > a then b else a), by simp [Builtin.max_, Builtin.max2], rep_int, h⟩

theorem min_sound {x y : AV} {u v : Value} {K : AV → Prop} (hx : Rep φ bl x u) (hy : Rep φ bl y v) (h : minP x y K) (ts : Array TypeId) (t : TypeId) : Gives P φ bl (Builtin.min_ ts t #[u, v]) w K := by
  cases x <;> cases y <;> simp only [minP] at h
  rename_i k a k' b
  simp only [Rep] at hx hy
  subst hx hy
  exact ⟨.int k _, .int k (if b < a then b else a), by simp [Builtin.min_, Builtin.min2], rep_int, h⟩

/-! ### Loads -/
theorem RepRow.vals : ∀ {cs : List AV} {b o : Nat}, RepRow φ cs b o → ∃ vs : List Value, RepL φ nob cs vs ∧ ∀ (j : Nat) v, vs[j]? = some v → φ b (o + j) = some v
  | [], _, _, _ => ⟨[], by simp only [RepL], by simp⟩
  | c :: cs, b, o, h => by
    simp only [RepRow] at h
    obtain ⟨⟨u, hu, hr⟩, hrest⟩ := h
    obtain ⟨vs, hv, hf⟩ := RepRow.vals hrest
    refine ⟨u :: vs, ?_, fun j v hj => ?_⟩
    · simp only [RepL]
      exact ⟨u, vs, rfl, hr, hv⟩
    · cases j with
      | zero => simp at hj; subst hj; exact hu
      | succ j => rw [show o + (j + 1) = o + 1 + j from by omega]; exact hf j v (by simpa using hj)

/-- A row of cells that lies in memory, whoever it belongs to. -/
theorem loadC_sound {q : Option Nat} {cs : List AV} {b base o : Nat} {K : AV → Prop} {t : TypeId} {vs : List Value} (hr : RepL φ bl cs vs) (hc : ∀ (j : Nat) v, vs[j]? = some v → w.cell? ⟨b, base + j, none⟩ = some v)
    (hq : match q with | none => isAggT P t = some false | some m => isAggT P t = some true ∧ szOf P t = some m) (h : loadC q cs o K) :
    Gives P φ bl (Instr.loadAt t (.pointer (some ⟨b, base + o, none⟩))) w K := by
  cases q with
  | none =>
    simp only [loadC] at h
    obtain ⟨v, hv, hrv⟩ := hr.get h.1
    have := hc o v hv
    exact ⟨_, v, by simp [Instr.loadAt, Instr.sureAddr, loadVar, isAgg_run hq, this], hrv, h.2⟩
  | some m =>
    simp only [loadC] at h
    obtain ⟨hle, hK⟩ := h
    have hl := hr.length
    have hsub : RepL φ bl ((cs.drop o).take m) ((vs.drop o).take m) := (hr.drop o).take m
    have hlen : ((vs.drop o).take m).length = m := by simp; omega
    have hcells := run_loadCells_list (P := P) w ⟨b, base + o, none⟩ ((vs.drop o).take m) (fun j v hj => by
      rw [addr_add, Nat.add_assoc]
      rw [List.getElem?_take] at hj
      split at hj
      · rw [List.getElem?_drop] at hj
        exact hc _ v hj
      · simp at hj)
    rw [hlen] at hcells
    refine ⟨.agg _, .agg ((vs.drop o).take m).toArray, ?_, ?_, hK⟩
    · simp [Instr.loadAt, Instr.sureAddr, loadVar, isAgg_run hq.1, run_szOf hq.2, hcells]
    · simp only [Rep]
      exact ⟨_, rfl, hsub⟩

theorem load_sound (hi : Inv G φ bl H w) {q : Option Nat} {x : AV} {u : Value} {K : AV → Prop} {t : TypeId}
    (hq : match q with | none => isAggT P t = some false | some m => isAggT P t = some true ∧ szOf P t = some m) (hx : Rep φ bl x u) (h : loadP H q x K) :
    Gives P φ bl (Instr.loadAt t u) w K := by
  cases x <;> simp only [loadP] at h
  case ptr cs o =>
    simp only [Rep] at hx
    obtain ⟨b, o', rfl, hr⟩ := hx
    obtain ⟨vs, hv, hf⟩ := hr.vals
    exact loadC_sound hv.up (fun j v hj => hi.fr _ _ _ (hf j v hj)) hq h
  case own i o =>
    cases ho : H[i]? with
    | none => simp [List.getD_eq_getElem?_getD, ho, loadO] at h
    | some ob =>
      cases ob with
      | dead => simp [List.getD_eq_getElem?_getD, ho, loadO] at h
      | mp _ _ => simp [List.getD_eq_getElem?_getD, ho, loadO] at h
      | arr t' es l cs =>
        simp [List.getD_eq_getElem?_getD, ho, loadO] at h
        obtain ⟨b, n, cur, hb, rfl, hheap, hsz, hle, hrep, _⟩ := own_rep hi hx ho
        have := loadC_sound (P := P) (b := b) (base := 0) (o := o) (t := t) (q := q) (K := K) hrep (fun j v hj => by
          rw [Nat.zero_add, cell_of_row w b j cur t' (0, 0) hheap]
          rw [List.getElem?_take] at hj
          split at hj
          · simpa using hj
          · simp at hj) hq h
        simpa using this

/-! ### Slicing -/
theorem bd_sound {d : Int} {x : Option AV} {K : Int → Prop} {v : Option Value} (hx : match x, v with | none, none => True | some y, some u => Rep φ bl y u | _, _ => False) (h : bdP d x K) :
    ∃ n, K n ∧ ((v = none ∧ n = d) ∨ ∃ k, v = some (.int k n)) := by
  cases x with
  | none =>
    cases v with
    | none => exact ⟨d, by simpa [bdP] using h, .inl ⟨rfl, rfl⟩⟩
    | some u => simp at hx
  | some y =>
    cases v with
    | none => simp at hx
    | some u =>
      cases y <;> simp only [bdP] at h
      simp only [Rep] at hx
      subst hx
      exact ⟨_, h, .inr ⟨_, rfl⟩⟩

theorem run_sl {t e : TypeId} {sz : Nat} (ht : P.underlying t = some (.slice e)) (hz : szOf P e = some sz) (A : Option Addr) (len cap : Nat) {lo hi : Option Value} {l h : Int}
    (hl : (lo = none ∧ l = 0) ∨ ∃ k, lo = some (.int k l)) (hh : (hi = none ∧ h = len) ∨ ∃ k, hi = some (.int k h)) (h0 : 0 ≤ l) (h1 : l ≤ h) (h2 : h ≤ len) (h3 : len ≤ cap) (w : World) :
    (Instr.sliceAt t (.slice A len cap) lo hi none).run P w = .ok (.slice (if cap = l.toNat then A else A.map (·.add (l.toNat * sz))) (h.toNat - l.toNat) (cap - l.toNat)) w := by
  obtain ⟨a, rfl⟩ := Int.eq_ofNat_of_zero_le h0
  obtain ⟨b, rfl⟩ := Int.eq_ofNat_of_zero_le (show 0 ≤ h by omega)
  have e1 : ((b : Int) ≤ (cap : Int)) := by omega
  have e2 : ((a : Int) ≤ (b : Int)) := by omega
  have e3 : b ≤ cap := by omega
  have e4 : a ≤ b := by omega
  rcases hl with ⟨rfl, hl⟩ | ⟨k, rfl⟩ <;> rcases hh with ⟨rfl, hh⟩ | ⟨k', rfl⟩ <;>
    simp [Instr.sliceAt, run_underlying ht, Instr.slice, Instr.sliceBounds, Instr.sliceBound, asIntOf, run_szOf hz, e1, e2, e3, e4]
  · have : a = 0 := by omega
    have hb : b = len := by omega
    subst this hb
    simp
  · have : a = 0 := by omega
    subst this
    simp
  · have hb : b = len := by omega
    subst hb
    simp [e4]

theorem slc_sound (hi : Inv G φ bl H w) {t e : TypeId} {sz : Nat} (ht : P.underlying t = some (.slice e)) (hz : szOf P e = some sz) {x : AV} {u : Value} {lo hi' : Option AV} {vl vh : Option Value} {K : AV → Prop}
    (hx : Rep φ bl x u) (hlo : match lo, vl with | none, none => True | some y, some u => Rep φ bl y u | _, _ => False) (hhi : match hi', vh with | none, none => True | some y, some u => Rep φ bl y u | _, _ => False)
    (h : slcP H sz x lo hi' K) : Gives P φ bl (Instr.sliceAt t u vl vh none) w K := by
  cases x <;> simp only [slcP] at h
  case nils =>
    simp only [Rep] at hx
    subst hx
    obtain ⟨l, h, hl⟩ := bd_sound hlo h
    obtain ⟨r, h, hh⟩ := bd_sound hhi h
    obtain ⟨⟨rfl, rfl⟩, hK⟩ := h
    refine ⟨.nils, _, run_sl (l := 0) (h := 0) ht hz none 0 0 hl (by simpa using hh) (by omega) (by omega) (by simp) (by omega) w, ?_, hK⟩
    simp [Rep]
  case sl len cs =>
    obtain ⟨l, h, hl⟩ := bd_sound hlo h
    obtain ⟨r, h, hh⟩ := bd_sound hhi h
    obtain ⟨⟨h0, h1, h2, h3⟩, hK⟩ := h
    simp only [Rep] at hx
    obtain ⟨l', rfl⟩ := Int.eq_ofNat_of_zero_le h0
    obtain ⟨r', rfl⟩ := Int.eq_ofNat_of_zero_le (show 0 ≤ r by omega)
    rcases hx with ⟨rfl, rfl, rfl⟩ | ⟨b, o, cap, rfl, hc, hm, hr⟩
    · have hr0 : r' = 0 := by omega
      have hl0 : l' = 0 := by omega
      subst hr0 hl0
      refine ⟨_, _, run_sl ht hz none 0 0 hl hh (by omega) (by omega) (by simp) (by omega) w, ?_, hK⟩
      simp [Rep]
    · refine ⟨_, _, run_sl ht hz (some ⟨b, o, none⟩) len cap hl hh (by omega) h1 h2 hc w, ?_, hK⟩
      have hsub := hr.sub (l' * sz) ((r' - l') * sz)
      have e : ((r' : Int) - (l' : Int)).toNat = r' - l' := by omega
      rw [e]
      simp only [Int.toNat_natCast, Rep]
      by_cases hcl : cap = l'
      · have hrl : r' = l' := by omega
        have hz0 : (r' - l') * sz = 0 := by rw [hrl]; simp
        rw [if_pos hcl]
        refine .inr ⟨b, o, cap - l', rfl, by omega, by omega, ?_⟩
        rw [hz0]
        simp [RepRow]
      · rw [if_neg hcl]
        refine .inr ⟨b, o + l' * sz, cap - l', by simp [addr_add], by omega, by omega, hsub⟩
  case osl id off len =>
    obtain ⟨l, h, hl⟩ := bd_sound hlo h
    obtain ⟨r, h, hh⟩ := bd_sound hhi h
    cases ho : H[id]? with
    | none => simp [List.getD_eq_getElem?_getD, ho, slcO] at h
    | some ob =>
      cases ob with
      | dead => simp [List.getD_eq_getElem?_getD, ho, slcO] at h
      | mp _ _ => simp [List.getD_eq_getElem?_getD, ho, slcO] at h
      | arr t' es lent cs =>
        simp [List.getD_eq_getElem?_getD, ho, slcO] at h
        obtain ⟨⟨rfl, h0, h1, h2⟩, hK0, hK1⟩ := h
        obtain ⟨l', rfl⟩ := Int.eq_ofNat_of_zero_le h0
        obtain ⟨r', rfl⟩ := Int.eq_ofNat_of_zero_le (show 0 ≤ r by omega)
        have e : ((r' : Int) - (l' : Int)).toNat = r' - l' := by omega
        simp only [Rep] at hx
        have hob := hi.obj id _ ho
        simp only [ObjOK] at hob
        rcases hob with ⟨hb, _⟩ | ⟨b, n, cur, hb, _⟩
        · simp [hb] at hx
          obtain ⟨rfl, rfl, rfl⟩ := hx
          have hr0 : r' = 0 := by omega
          have hl0 : l' = 0 := by omega
          subst hr0 hl0
          refine ⟨_, _, run_sl ht hz none 0 0 hl hh (by omega) (by omega) (by simp) (by omega) w, ?_, hK0 rfl⟩
          simp [Rep]
        · simp [hb] at hx
          obtain ⟨cap, rfl, hc, hm, hcap⟩ := hx
          have hrun := run_sl ht hz (some ⟨b, off, none⟩) len cap hl hh (by omega) h1 h2 hc w
          by_cases hlr : l' = r'
          · refine ⟨.sl 0 [], _, hrun, ?_, hK0 (by omega)⟩
            subst hlr
            simp only [Int.toNat_natCast, Rep, Nat.sub_self]
            by_cases hcl : cap = l'
            · rw [if_pos hcl]
              exact .inr ⟨b, off, cap - l', rfl, by omega, by omega, by simp [RepRow]⟩
            · rw [if_neg hcl]
              exact .inr ⟨b, off + l' * es, cap - l', by simp [addr_add], by omega, by omega, by simp [RepRow]⟩
          · refine ⟨.osl id (off + l' * es) (r' - l'), _, hrun, ?_, by have := hK1 (by omega); rwa [e] at this⟩
            simp only [Int.toNat_natCast, Rep, hb]
            rw [if_neg (by omega)]
            refine ⟨cap - l', by simp [addr_add], by omega, by omega, ?_⟩
            have : l' * es + (cap - l') * es = cap * es := by rw [← Nat.add_mul]; congr 1; omega
            omega

theorem slcS_sound {t : TypeId} (ht : P.underlying t = some .string) {x : AV} {u : Value} {lo hi' : Option AV} {vl vh : Option Value} {K : AV → Prop}
    (hx : Rep φ bl x u) (hlo : match lo, vl with | none, none => True | some y, some u => Rep φ bl y u | _, _ => False) (hhi : match hi', vh with | none, none => True | some y, some u => Rep φ bl y u | _, _ => False)
    (h : slcSP x lo hi' K) : Gives P φ bl (Instr.sliceAt t u vl vh none) w K := by
  cases x <;> simp only [slcSP] at h
  case str s =>
    simp only [Rep] at hx
    subst hx
    obtain ⟨l, h, hl⟩ := bd_sound hlo h
    obtain ⟨r, h, hh⟩ := bd_sound hhi h
    obtain ⟨⟨h0, h1, h2⟩, hK⟩ := h
    obtain ⟨l', rfl⟩ := Int.eq_ofNat_of_zero_le h0
    obtain ⟨r', rfl⟩ := Int.eq_ofNat_of_zero_le (show 0 ≤ r by omega)
    have hs : (⟨s.toArray⟩ : ByteArray).size = s.length := rfl
    have e1 : r' ≤ s.length := by omega
    have e2 : l' ≤ r' := by omega
    have key : (Instr.sliceAt t (.string ⟨s.toArray⟩) vl vh none).run P w = .ok (.string ((⟨s.toArray⟩ : ByteArray).extract l' r')) w := by
      rcases hl with ⟨rfl, hl⟩ | ⟨k, rfl⟩ <;> rcases hh with ⟨rfl, hh⟩ | ⟨k', rfl⟩ <;>
        simp [Instr.sliceAt, run_underlying ht, Instr.slice, Instr.sliceBounds, Instr.sliceBound, asIntOf, hs, e1, e2]
      · have : l' = 0 := by omega
        have hb : r' = s.length := by omega
        subst this hb
        simp [ByteArray.ext_iff, ← Array.toList_inj]
      · have : l' = 0 := by omega
        subst this
        rfl
      · have hb : r' = s.length := by omega
        subst hb
        simp [e2, hs]
    refine ⟨.str _, _, key, ?_, hK⟩
    have e : ((r' : Int) - (l' : Int)).toNat = r' - l' := by omega
    simp only [Rep, e, Int.toNat_natCast]
    congr 1
    simp [ByteArray.ext_iff, List.extract_eq_take_drop]

end Go.Avm
