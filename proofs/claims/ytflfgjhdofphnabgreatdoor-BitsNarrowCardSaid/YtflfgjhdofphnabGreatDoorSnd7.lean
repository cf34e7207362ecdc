/- The operations of the abstract machine are those of the model: append. -/
import Derived.Test.YtflfgjhdofphnabGreatDoorSnd6
set_option linter.unusedSimpArgs false
set_option linter.unusedVariables false
namespace Go.Avm
open Go
variable {P : Program} {G : Glob} {n0 : Nat} {φ : Phi} {bl : Nat → BL} {H : List AObj} {w : World}

def phiAt (φ : Phi) (b : Nat) (l : Bool) (n : Nat) (cur : Array Value) : Phi := fun k o => if k = b then (if l = true ∧ o < n then cur[o]? else none) else φ k o

theorem killO_get (H : List AObj) (id : Nat) (x : AObj) (k : Nat) : ((H.map (killO id)).set id x)[k]? = if id = k then (if id < H.length then some x else none) else (H[k]?).map (killO id) := by
  rw [List.getElem?_set]
  simp

theorem ObjOK.kill {φ φ' : Phi} {bl bl' : Nat → BL} {w w' : World} {i k : Nat} {o : AObj} (hp : φ.le φ') (hb : ∀ j, j ≠ i → bl j = .unused ∨ bl' j = bl j) (hk : bl' k = bl k)
    (hw : ∀ b n es, bl k = .blk b n es → w'.heap[b]? = w.heap[b]? ∧ φ' b = φ b) (h : ObjOK φ bl w k o) : ObjOK φ' bl' w' k (killO i o) := by
  cases o with
  | dead => simp only [killO, ObjOK] at h ⊢; rw [hk, h]
  | mp k es =>
    simp only [killO, ObjOK] at h ⊢
    obtain ⟨b, ents, clock, h1, h2, h3, h4⟩ := h
    obtain ⟨e1, e2⟩ := hw b 0 0 h1
    exact ⟨b, ents, clock, hk.trans h1, e1.trans h2, RepM.mono hp h3, fun o => by rw [e2]; exact h4 o⟩
  | arr t es l cs =>
    simp only [killO, ObjOK] at h ⊢
    rcases h with ⟨h1, h2⟩ | ⟨b, n, cur, h1, h2, h3, h4, h5, h6⟩
    · exact .inl ⟨hk.trans h1, by rw [h2]; rfl⟩
    · obtain ⟨e1, e2⟩ := hw b n es h1
      refine .inr ⟨b, n, cur, hk.trans h1, e1.trans h2, h3, by rw [killL_length]; exact h4, ?_, fun q => by rw [e2, killL_length]; exact h6 q⟩
      rw [killL_length]
      cases l with
      | true =>
        simp only [if_true] at h5 ⊢
        exact RepL.kill hp (fun j _ => .inl rfl) _ _ h5
      | false =>
        simp only [Bool.false_eq_true, if_false] at h5 ⊢
        exact RepL.kill hp hb _ _ h5

theorem inv_re_new (hi : Inv G φ bl H w) {id : Nat} {t es : TypeId} {l : Bool} {cs cs' : List AV} (ho : H[id]? = some (.arr t es l cs)) {w' : World} {cur : Array Value} (hh : w'.heap = w.heap.push (.cells cur t (0, 0))) (hos : w'.os = w.os) (hta : w'.tape = w.tape) (hou : w'.output = w.output)
    (hle : cs'.length ≤ cur.size) (hr : RepL φ (if l = true then nob else bl) cs' (cur.toList.take cs'.length)) (hn : n0 ≤ id) :
    ∃ φ' bl', φ.le φ' ∧ (∀ j, j ≠ id → bl j = .unused ∨ bl' j = bl j) ∧ bl' id = .blk w.heap.size cur.size es ∧
      Inv G φ' bl' ((H.map (killO id)).set id (.arr t es l (killL id cs'))) w' ∧ Adv n0 φ bl w φ' bl' w' := by
  have hidl : id < H.length := by
    rcases Nat.lt_or_ge id H.length with h | h
    · exact h
    · rw [List.getElem?_eq_none h] at ho; cases ho
  have hold : ∀ b, b < w.heap.size → w'.heap[b]? = w.heap[b]? := fun b hb => by rw [hh, Array.getElem?_push, if_neg (by omega)]
  have hnew : w'.heap[w.heap.size]? = some (.cells cur t (0, 0)) := by rw [hh]; simp
  have hsz : w'.heap.size = w.heap.size + 1 := by rw [hh]; simp
  have hp : φ.le (phiAt φ w.heap.size l cs'.length cur) := fun b o u hu => by
    unfold phiAt
    rw [if_neg (by have := phi_lt hi hu; omega)]
    exact hu
  have hb : ∀ j, j ≠ id → bl j = .unused ∨ updB bl id (.blk w.heap.size cur.size es) j = bl j := fun j hj => .inr (updB_other _ _ hj)
  refine ⟨phiAt φ w.heap.size l cs'.length cur, updB bl id (.blk w.heap.size cur.size es), hp, hb, updB_same _ _ _, ⟨fun b hb => ?_, by rw [hsz]; have := hi.gsz; omega, fun k b n es' hb => ?_, fun b o u hu => ?_, fun k o hk => ?_, fun i j b n m es' fs h1 h2 => ?_, fun k hk => ?_⟩, ?_⟩
  · rw [hold b (Nat.lt_of_lt_of_le hb hi.gsz)]; exact hi.glo b hb
  · by_cases e : k = id
    · subst e; rw [updB_same] at hb; injection hb with hb; subst hb; exact hi.gsz
    · rw [updB_other _ _ e] at hb; exact hi.gow k b n es' hb
  · unfold phiAt at hu
    by_cases e : b = w.heap.size
    · subst e
      rw [if_pos rfl] at hu
      split at hu
      · rw [cell_of_row w' _ o cur t (0, 0) hnew]; exact hu
      · cases hu
    · rw [if_neg e] at hu
      rw [← hi.fr b o u hu]
      exact World.cell?_of_block (hold b (phi_lt hi hu))
  · rw [killO_get] at hk
    by_cases e : id = k
    · subst e
      rw [if_pos rfl, if_pos hidl] at hk
      injection hk with hk
      subst hk
      simp only [ObjOK, updB_same]
      refine .inr ⟨w.heap.size, cur.size, cur, rfl, hnew, rfl, by rw [killL_length]; exact hle, ?_, fun q => by rw [killL_length]; simp [phiAt]⟩
      rw [killL_length]
      cases l with
      | true =>
        simp only [if_true] at hr ⊢
        exact RepL.kill hp (fun j _ => .inl rfl) _ _ hr
      | false =>
        simp only [Bool.false_eq_true, if_false] at hr ⊢
        exact RepL.kill hp hb _ _ hr
    · rw [if_neg e] at hk
      cases hq : H[k]? with
      | none => simp [hq] at hk
      | some o' =>
        simp [hq] at hk
        subst hk
        refine (hi.obj k o' hq).kill hp hb (updB_other _ _ (Ne.symm e)) (fun b n es' hc => ⟨hold b (inv_lt hi hc), ?_⟩)
        have := inv_lt hi hc
        funext q
        unfold phiAt
        rw [if_neg (by omega)]
  · by_cases e1 : i = id <;> by_cases e2 : j = id
    · omega
    · subst e1
      rw [updB_same] at h1
      rw [updB_other _ _ e2] at h2
      injection h1 with h1; subst h1
      exact absurd (inv_lt hi h2) (by omega)
    · subst e2
      rw [updB_same] at h2
      rw [updB_other _ _ e1] at h1
      injection h2 with h2; subst h2
      exact absurd (inv_lt hi h1) (by omega)
    · rw [updB_other _ _ e1] at h1
      rw [updB_other _ _ e2] at h2
      exact hi.inj i j b n m es' fs h1 h2
  · simp at hk
    rw [updB_other _ _ (by omega)]
    exact hi.out k hk
  · intro φ0 bl0 w0 hn0 f
    refine ⟨hos.trans f.os, hta.trans f.tape, hou.trans f.output, by have := f.size; omega, fun b hb hno => ?_, fun k b n es' hk => ?_, Phi.le_trans f.phi hp, fun j => ?_⟩
    · have hlt := Nat.lt_of_lt_of_le hb f.size
      have := f.old b hb hno
      refine ⟨(hold b hlt).trans this.1, ?_⟩
      rw [← this.2]
      funext q
      unfold phiAt
      rw [if_neg (by omega)]
    · by_cases e : k = id
      · subst e; rw [updB_same] at hk; injection hk with hk; subst hk; exact .inl f.size
      · rw [updB_other _ _ e] at hk; exact f.own k b n es' hk
    · by_cases e : j = id
      · subst e; exact .inl (hn0 j hn)
      · rw [updB_other _ _ e]; exact f.ids j

theorem inv_re_set (hi : Inv G φ bl H w) {id : Nat} {t es : TypeId} {l : Bool} {cs cs' : List AV} (ho : H[id]? = some (.arr t es l cs)) {b n : Nat} {cur cur' : Array Value} (hbl : bl id = .blk b n es) (hheap : w.heap[b]? = some (.cells cur t (0, 0))) (hs : cur'.size = cur.size)
    (hpre : ∀ q, q < cs.length → cur'[q]? = cur[q]?) (hcc : cs.length ≤ cs'.length) (hle : cs'.length ≤ cur.size) (hr : RepL φ (if l = true then nob else bl) cs' (cur'.toList.take cs'.length)) (hn : n0 ≤ id) :
    ∃ φ', φ.le φ' ∧ Inv G φ' bl ((H.map (killO id)).set id (.arr t es l (killL id cs'))) (w.setRow b cur') ∧ Adv n0 φ bl w φ' bl (w.setRow b cur') := by
  have hidl : id < H.length := by
    rcases Nat.lt_or_ge id H.length with h | h
    · exact h
    · rw [List.getElem?_eq_none h] at ho; cases ho
  have hnew := setRow_heap w b cur cur' t (0, 0) hheap
  have hold : ∀ k, k ≠ b → (w.setRow b cur').heap[k]? = w.heap[k]? := fun k hk => setRow_other w b k cur' hk
  have hob := hi.obj id _ ho
  have hphi : (∀ q, φ b q = if l = true ∧ q < cs.length then cur[q]? else none) ∧ cur.size = n := by
    simp only [ObjOK] at hob
    rcases hob with ⟨h1, _⟩ | ⟨b', n', cur0, h1, h2, h3, h4, h5, h6⟩
    · rw [hbl] at h1; cases h1
    · rw [hbl] at h1; injection h1 with h1 h1'; subst h1 h1'
      rw [hheap] at h2; injection h2 with h2; injection h2 with h2; subst h2
      exact ⟨h6, h3⟩
  have hp : φ.le (phiAt φ b l cs'.length cur') := fun k o u hu => by
    unfold phiAt
    by_cases e : k = b
    · subst e
      rw [if_pos rfl]
      rw [hphi.1 o] at hu
      split at hu
      · rename_i hq
        rw [if_pos ⟨hq.1, by omega⟩, hpre o hq.2]
        exact hu
      · cases hu
    · rw [if_neg e]; exact hu
  have hb : ∀ j, j ≠ id → bl j = .unused ∨ bl j = bl j := fun j _ => .inr rfl
  refine ⟨phiAt φ b l cs'.length cur', hp, ⟨fun k hk => ?_, by rw [setRow_size]; exact hi.gsz, hi.gow, fun k o u hu => ?_, fun k o hk => ?_, hi.inj, fun k hk => hi.out k (by simpa using hk)⟩, ?_⟩
  · rw [hold k (fun e => by have := hi.gow id b n es hbl; omega)]; exact hi.glo k hk
  · unfold phiAt at hu
    by_cases e : k = b
    · subst e
      rw [if_pos rfl] at hu
      split at hu
      · rw [cell_of_row _ _ o cur' t (0, 0) hnew]; exact hu
      · cases hu
    · rw [if_neg e] at hu
      rw [← hi.fr k o u hu]
      exact World.cell?_of_block (hold k e)
  · rw [killO_get] at hk
    by_cases e : id = k
    · subst e
      rw [if_pos rfl, if_pos hidl] at hk
      injection hk with hk
      subst hk
      simp only [ObjOK]
      refine .inr ⟨b, n, cur', hbl, hnew, hs.trans hphi.2, by rw [killL_length, ← hphi.2]; exact hle, ?_, fun q => by rw [killL_length]; simp [phiAt]⟩
      rw [killL_length]
      cases l with
      | true =>
        simp only [if_true] at hr ⊢
        exact RepL.kill hp (fun j _ => .inl rfl) _ _ hr
      | false =>
        simp only [Bool.false_eq_true, if_false] at hr ⊢
        exact RepL.kill hp hb _ _ hr
    · rw [if_neg e] at hk
      cases hq : H[k]? with
      | none => simp [hq] at hk
      | some o' =>
        simp [hq] at hk
        subst hk
        refine (hi.obj k o' hq).kill hp hb rfl (fun c m es' hc => ?_)
        have hne : c ≠ b := fun e' => e (by subst e'; exact hi.inj id k c n m es es' hbl hc)
        refine ⟨hold c hne, ?_⟩
        funext q
        unfold phiAt
        rw [if_neg hne]
  · intro φ0 bl0 w0 hn0 f
    have hge : w0.heap.size ≤ b := by
      rcases f.own id b n es hbl with h | ⟨n', es', h⟩
      · exact h
      · rw [hn0 id hn] at h; cases h
    refine ⟨f.os, f.tape, f.output, by rw [setRow_size]; exact f.size, fun k hk hno => ?_, f.own, Phi.le_trans f.phi hp, f.ids⟩
    have := f.old k hk hno
    refine ⟨(hold k (by omega)).trans this.1, ?_⟩
    rw [← this.2]
    funext q
    unfold phiAt
    rw [if_neg (by omega)]

theorem cap_le (w : World) (need old : Nat) (e : TypeId) (h : need ≤ 9223372036854775807) : need ≤ grownCap w need old e ∧ grownCap w need old e ≤ maxLen := by
  unfold grownCap maxLen
  simp only [Question.cut]
  have : 0 < 2 ^ 63 - need := by omega
  have := Nat.mod_lt (w.tape w.drawn (.appendCap need old e)) this
  omega

theorem nil_heap_drew (w : World) (o : Obj) : (w.drew.alloc o).heap = w.heap.push o := rfl

/-- The cells of a grown row. -/
theorem grown_cur {olds news : List Value} {z : Array Value} {sz need cap : Nat} (hl : (olds ++ news).length = need * sz) (hz : z.size = sz) (hc : need ≤ cap) :
    ((olds ++ news).toArray ++ Builtin.zeroCells z (cap - need)).size = cap * sz ∧ ((olds ++ news).toArray ++ Builtin.zeroCells z (cap - need)).toList.take (need * sz) = olds ++ news := by
  constructor
  · rw [Array.size_append, size_zeroCells, hz, List.size_toArray, hl, ← Nat.add_mul]
    congr 1
    omega
  · rw [Array.toList_append, List.toList_toArray, ← hl, List.take_append_of_le_length (Nat.le_refl _), List.take_length]

theorem run_app_none {t e : TypeId} {i : TypeInfo} (ht : P.underlying t = some (.slice e)) (hie : P.info? e = some i) {x : Value} {news : List Value} (hs : Src P i.size t x 0 news w) (ty : TypeId) (w' : World) :
    (Builtin.append_ #[t, t] ty #[.slice none 0 0, x]).run P w = .ok (.slice none 0 0) w := by
  rcases hs.kind with ⟨e', hk⟩ | hk <;> simp [Builtin.append_, run_underlying ht, run_underlying hk, sizeOf, typeInfo, hie, hs.len, hs.cells]

theorem app_sound {s : St} {us : List Value} (hi : Inv G φ bl s.H w) (hf : RepL φ bl s.f us) {t e ty : TypeId} {sz bytes : Nat} {z : List AV} (ht : P.underlying t = some (.slice e)) (hsz : szOf P e = some sz) (hby : bytesOf P e = some bytes) (hz : zeroOf P e = some z)
    (hb0 : bytes ≠ 0) (hzl : z.length = sz) {b x : AV} {u v : Value} {K : AV → St → Prop} (hb : Rep φ bl b u) (hx : Rep φ bl x v) (h : appP n0 s e sz bytes b x K) : GivesM P G n0 φ bl w us (Builtin.append_ #[t, t] ty #[u, v]) K := by
  unfold appP at h
  obtain ⟨m, src, news, h, hrep, hsrc⟩ := src_sound hi ht hx h
  obtain ⟨zv, _, ⟨i, hie, hiz⟩, hzr⟩ := zero_rep hz
  have hisz : i.size = sz := by simpa [szOf, hie] using hsz
  have hiby : i.bytes = bytes := by simpa [bytesOf, hie] using hby
  have hzs : zv.cells.size = sz := by have := (hzr φ bl).length; simp at this; omega
  cases b <;> simp only [appB] at h
  case nils =>
    obtain ⟨⟨h1, h2⟩, hK⟩ := h
    simp only [Rep] at hb
    subst hb
    have hS := hsrc h2
    rw [← hisz] at hS
    have hnl : news.length = m * sz := by rw [← hisz]; exact hS.newsLen
    have hsl : src.length = m * sz := by rw [hrep.length, hnl]
    rcases Nat.eq_zero_or_pos m with h0 | h0
    · subst h0
      have he : src = [] := List.eq_nil_of_length_eq_zero (by simpa using hsl)
      subst he
      obtain ⟨g1, g2⟩ := inv_nil hi e sz
      refine ⟨.osl s.H.length 0 0, _, _, φ, _, ⟨s.f, s.H ++ [.arr e sz false []]⟩, run_app_none ht hie hS ty w, ?_, RepL.mono (Phi.le_refl _) g2.ids _ _ hf, g1, g2.adv n0, hK⟩
      simp [Rep, updB_same]
    · have hm : m ≤ m * bytes := Nat.le_mul_of_pos_right _ (by omega)
      have hmz : Builtin.nextslicecap (0 + m) 0 * i.bytes ≤ 281474976710656 := by
        rw [Nat.zero_add, nextslicecap_zero h0, hiby]; omega
      have hrun := run_append_grow_src w t t ty e i zv ht hie hiz none 0 0 [] (by simp [Builtin.firstCells]) v m news hS (by omega) (by omega) hmz
      have hcap := cap_le w (0 + m) 0 e (by omega)
      have hcur := grown_cur (olds := []) (news := news) (z := zv.cells) (sz := sz) (need := 0 + m) (cap := grownCap w (0 + m) 0 e) (by simpa using hnl) hzs hcap.1
      obtain ⟨bl', g1, g2, g3, g4⟩ := new_sound (s := s) (t := e) (es := sz) (cs := src) hi hf (nil_heap_drew w _) rfl rfl rfl (by rw [hcur.1, hsl]; exact Nat.mul_le_mul_right _ (by omega)) (by
        rw [hsl]
        have := hcur.2
        rw [Nat.zero_add] at this ⊢
        rw [this]
        exact hrep)
      refine ⟨.osl s.H.length 0 m, _, _, φ, bl', ⟨s.f, s.H ++ [.arr e sz false src]⟩, hrun, ?_, g2, g3, g4.adv n0, hK⟩
      simp only [Rep, g1]
      refine ⟨grownCap w (0 + m) 0 e, by rw [Nat.zero_add], by omega, hcap.2, ?_⟩
      rw [hcur.1]
      omega
  case osl id off len _ =>
    cases ho : s.H[id]? with
    | none => simp [List.getD_eq_getElem?_getD, ho, appO] at h
    | some ob =>
      cases ob with
      | dead => simp [List.getD_eq_getElem?_getD, ho, appO] at h
      | mp _ _ => simp [List.getD_eq_getElem?_getD, ho, appO] at h
      | arr t' es l cs =>
        simp only [List.getD_eq_getElem?_getD, ho, Option.getD_some, appO] at h
        obtain ⟨⟨⟨hn, rfl, rfl, rfl, hcl, hone, hfr⟩, hbnd⟩, hK⟩ := h
        have hS := hsrc hone
        rw [← hisz] at hS
        have hnl : news.length = m * es := by rw [← hisz]; exact hS.newsLen
        have hsl : src.length = m * es := by rw [hrep.length, hnl]
        have hsrcl : RepL φ (if l = true then nob else bl) src news := by
          cases l with
          | true => simp only [if_true]; exact RepL.frz _ _ (hfr rfl) hrep
          | false => simpa using hrep
        have hlm : len + m ≤ (len + m) * bytes := Nat.le_mul_of_pos_right _ (by omega)
        rcases osl_rep hi hb ho with ⟨hbn, rfl, rfl, rfl, _⟩ | ⟨b, n, cur, cap, hbb, rfl, h1, h2, h3, hheap, hcs, hcn, hrepc, hphi⟩
        · rcases Nat.eq_zero_or_pos m with h0 | h0
          · subst h0
            have he : src = [] := List.eq_nil_of_length_eq_zero (by simpa using hsl)
            subst he
            have hinv : Inv G φ bl ((s.H.map (killO id)).set id (.arr t' es l (killL id ([] ++ [])))) w := by
              refine ⟨hi.glo, hi.gsz, hi.gow, hi.fr, fun k o hk => ?_, hi.inj, fun k hk => hi.out k (by simpa using hk)⟩
              rw [killO_get] at hk
              by_cases e : id = k
              · subst e
                simp at hk
                rw [← hk.2]
                simp [ObjOK, hbn, killL]
              · rw [if_neg e] at hk
                cases hq : s.H[k]? with
                | none => simp [hq] at hk
                | some o' =>
                  simp [hq] at hk
                  subst hk
                  exact (hi.obj k o' hq).kill (Phi.le_refl _) (fun j _ => .inr rfl) rfl (fun _ _ _ _ => ⟨rfl, rfl⟩)
            refine ⟨.osl id 0 (0 + 0), _, w, φ, bl, ⟨killL id s.f, _⟩, run_app_none ht hie hS ty w, ?_, RepL.kill (Phi.le_refl _) (fun j _ => .inr rfl) _ _ hf, hinv, Adv.refl n0 φ bl w, hK⟩
            simp [Rep, hbn]
          · have hmz : Builtin.nextslicecap (0 + m) 0 * i.bytes ≤ 281474976710656 := by
              rw [Nat.zero_add, nextslicecap_zero h0, hiby]
              have : m * bytes ≤ (0 + m) * bytes := by simp
              omega
            have hrun := run_append_grow_src w t t ty t' i zv ht hie hiz none 0 0 [] (by simp [Builtin.firstCells]) v m news hS (by omega) (by omega) hmz
            have hcap := cap_le w (0 + m) 0 t' (by omega)
            have hcur := grown_cur (olds := []) (news := news) (z := zv.cells) (sz := es) (need := 0 + m) (cap := grownCap w (0 + m) 0 t') (by simpa using hnl) hzs hcap.1
            obtain ⟨φ', bl', g1, g2, g3, g4, g5⟩ := inv_re_new (n0 := n0) hi ho (cs' := [] ++ src) (nil_heap_drew w _) rfl rfl rfl (by rw [hcur.1, List.nil_append, hsl]; exact Nat.mul_le_mul_right _ (by omega)) (by
              rw [List.nil_append, hsl]
              have := hcur.2
              rw [Nat.zero_add] at this ⊢
              rw [this]
              exact hsrcl) hn
            refine ⟨.osl id 0 (0 + m), _, _, φ', bl', ⟨killL id s.f, _⟩, hrun, ?_, RepL.kill g1 g2 _ _ hf, g4, g5, hK⟩
            simp only [Rep, g3]
            refine ⟨grownCap w (0 + m) 0 t', rfl, by omega, hcap.2, ?_⟩
            rw [hcur.1]
            omega
        · have hreplc : RepL φ (if l = true then nob else bl) cs (cur.toList.take cs.length) := by
            have hob := hi.obj id _ ho
            simp only [ObjOK] at hob
            rcases hob with ⟨k1, _⟩ | ⟨b', n', cur0, k1, k2, k3, k4, k5, k6⟩
            · rw [hbb] at k1; cases k1
            · rw [hbb] at k1; injection k1 with k1 k1'; subst k1 k1'
              rw [hheap] at k2; injection k2 with k2; injection k2 with k2; subst k2
              exact k5
          have holdlen : (cur.toList.take (len * es)).length = len * es := by
            simp
            omega
          by_cases hroom : len + m ≤ cap
          · have hfit : (len + m) * es ≤ cap * es := Nat.mul_le_mul_right _ hroom
            have hfit' : len * es + m * es ≤ n := by rw [← Nat.add_mul]; omega
            have hrun := run_append_room_src w t t ty t' i ht hie b 0 len cap v m news hS hroom (fun j hj => by
              rw [cell_of_row w b _ cur t' (0, 0) hheap, hisz]
              simp
              omega) (fun j hj => frozen_of_row w b _ cur t' hheap)
            rw [hisz, setCells_row hheap (by omega) hS.one] at hrun
            simp only [Nat.zero_add] at hrun
            obtain ⟨φ', g1, g2, g3⟩ := inv_re_set (n0 := n0) hi ho (cs' := cs ++ src) (cur' := (cur.toList.take (len * es) ++ news ++ cur.toList.drop (len * es + news.length)).toArray) hbb hheap (by simp; omega) (fun q hq => by
              rw [hcl] at hq
              simp only [List.getElem?_toArray]
              rw [List.append_assoc, List.getElem?_append_left (by rw [holdlen]; exact hq), List.getElem?_take, if_pos hq]
              simp) (by simp) (by simp; omega) (by
              have e1 : (cs ++ src).length = (cur.toList.take (len * es) ++ news).length := by simp; omega
              rw [List.toList_toArray, e1, List.take_append_of_le_length (Nat.le_refl _), List.take_length]
              rw [hcl] at hreplc
              exact hreplc.append hsrcl) hn
            refine ⟨.osl id 0 (len + m), _, _, φ', bl, ⟨killL id s.f, _⟩, hrun, ?_, RepL.kill g1 (fun j _ => .inr rfl) _ _ hf, g2, g3, hK⟩
            simp only [Rep, hbb]
            exact ⟨cap, rfl, hroom, h2, h3⟩
          · have hg : cap < len + m := by omega
            have hfits := growslice_fits (need := len + m) (old := cap) (bytes := bytes) hg hbnd
            have hold := run_firstCells_some (P := P) w.drew i.size len ⟨b, 0, none⟩ len cap (cur.toList.take (len * es)) (by rw [holdlen, hisz]) (fun j v hj => by
              rw [addr_add, Nat.zero_add]
              show w.drew.cell? _ = _
              rw [World.cell?_drew, cell_of_row w b _ cur t' (0, 0) hheap]
              rw [List.getElem?_take] at hj
              split at hj
              · simpa using hj
              · simp at hj)
            have hrun := run_append_grow_src w t t ty t' i zv ht hie hiz (some ⟨b, 0, none⟩) len cap (cur.toList.take (len * es)) hold v m news hS hg (by omega) (by rw [hiby]; exact hfits)
            have hcap := cap_le w (len + m) cap t' (by omega)
            have hcur := grown_cur (olds := cur.toList.take (len * es)) (news := news) (z := zv.cells) (sz := es) (need := len + m) (cap := grownCap w (len + m) cap t') (by rw [List.length_append, holdlen, hnl, Nat.add_mul]) hzs hcap.1
            obtain ⟨φ', bl', g1, g2, g3, g4, g5⟩ := inv_re_new (n0 := n0) hi ho (cs' := cs ++ src) (nil_heap_drew w _) rfl rfl rfl (by
                rw [hcur.1, List.length_append, hcl, hsl, ← Nat.add_mul]
                exact Nat.mul_le_mul_right _ hcap.1) (by
              rw [show (cs ++ src).length = (len + m) * es from by rw [List.length_append, hcl, hsl, ← Nat.add_mul], hcur.2]
              rw [hcl] at hreplc
              exact hreplc.append hsrcl) hn
            refine ⟨.osl id 0 (len + m), _, _, φ', bl', ⟨killL id s.f, _⟩, hrun, ?_, RepL.kill g1 g2 _ _ hf, g4, g5, hK⟩
            simp only [Rep, g3]
            refine ⟨grownCap w (len + m) cap t', rfl, hcap.1, hcap.2, ?_⟩
            rw [hcur.1]
            omega

end Go.Avm
