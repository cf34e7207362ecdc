/- The operations of the abstract machine are those of the model: maps, texts of bytes, errors that are nil. -/
import Derived.Test.YtflfgjhdofphnabGreatDoorSnd7
import Derived.MapKept
import Derived.Laws.BytesArg
set_option linter.unusedSimpArgs false
set_option linter.unusedVariables false
namespace Go.Avm
open Go
variable {P : Program} {G : Glob} {n0 : Nat} {φ : Phi} {bl : Nat → BL} {H : List AObj} {w : World}

theorem equalIn_ifnil {t : TypeId} {ms : Array (String × TypeId)} (ht : P.underlying t = some (.interface ms)) (d : Nat) (w : World) : (Op.equalIn (d + 1) t .nilIface .nilIface).run P w = .ok true w := by
  simp [Op.equalIn, run_underlying ht]
theorem equalIn_ifsome {t : TypeId} {ms : Array (String × TypeId)} (ht : P.underlying t = some (.interface ms)) (d : Nat) (u : TypeId) (v : Value) (w : World) : (Op.equalIn (d + 1) t (.iface u v) .nilIface).run P w = .ok false w := by
  simp [Op.equalIn, run_underlying ht]

theorem eqin_sound {n : Bool} {x : AV} {u : Value} {K : AV → Prop} (hx : Rep φ bl x u) (h : eqinP n x K) {t : TypeId} {ms : Array (String × TypeId)} (ht : P.underlying t = some (.interface ms)) (X : Operand) {op : BinOp}
    (hop : op = .eql ∧ n = false ∨ op = .neq ∧ n = true) : Gives P φ bl (do eqGuard op t X (.const .nilIface) u .nilIface; binOp op t u .nilIface) w K := by
  cases x <;> simp only [eqinP] at h
  rename_i v
  simp only [Rep] at hx
  subst hx
  cases u <;> simp only at h
  case iface t' v' =>
    have he : (Op.equal t (.iface t' v') .nilIface).run P w = .ok false w := equalIn_ifsome ht 9999 t' v' w
    rcases hop with ⟨rfl, rfl⟩ | ⟨rfl, rfl⟩
    · exact ⟨.bool false, .bool false, by simp [eqGuard, binOp, he], rep_bool, h⟩
    · exact ⟨.bool true, .bool true, by simp [eqGuard, binOp, he], rep_bool, h⟩
  case nilIface =>
    have he : (Op.equal t .nilIface .nilIface).run P w = .ok true w := equalIn_ifnil ht 9999 w
    rcases hop with ⟨rfl, rfl⟩ | ⟨rfl, rfl⟩
    · exact ⟨.bool true, .bool true, by simp [eqGuard, binOp, he], rep_bool, h⟩
    · exact ⟨.bool false, .bool false, by simp [eqGuard, binOp, he], rep_bool, h⟩

/-! ### Texts of bytes -/
theorem bytesL_rep : ∀ {cs : List AV} {l : List UInt8} {vs : List Value}, bytesL cs = some l → RepL φ bl cs vs → ∃ ns : List Int, vs = ns.map (Value.int .u8) ∧ ns.map (fun n => UInt8.ofNat n.toNat) = l
  | [], l, vs, h, hr => by
    simp only [bytesL] at h
    injection h with h; subst h
    simp only [RepL] at hr
    subst hr
    exact ⟨[], rfl, rfl⟩
  | c :: cs, l, vs, h, hr => by
    simp only [RepL] at hr
    obtain ⟨u, us, rfl, hu, hr⟩ := hr
    cases c <;> try (simp [bytesL] at h; done)
    rename_i k n
    cases k <;> try (simp [bytesL] at h; done)
    simp only [bytesL] at h
    cases hb : bytesL cs with
    | none => simp [hb] at h
    | some l' =>
      simp [hb] at h
      subst h
      obtain ⟨ns, rfl, rfl⟩ := bytesL_rep hb hr
      simp only [Rep] at hu
      subst hu
      exact ⟨n :: ns, rfl, rfl⟩

theorem b2sC_sound {src e dst : TypeId} (hs : P.underlying src = some (.slice e)) (he : P.underlying e = some (.int .u8)) (hd : P.underlying dst = some .string) {len : Nat} {cs : List AV} {K : AV → Prop} (h : b2sC len cs K) {vs : List Value} (hr : RepL φ bl cs vs)
    {b o cap : Nat} (hc : ∀ (j : Nat) v, vs[j]? = some v → w.cell? ⟨b, o + j, none⟩ = some v) : Gives P φ bl (convert src dst (.slice (some ⟨b, o, none⟩) len cap)) w K := by
  unfold b2sC at h
  split at h
  · rename_i l hl
    obtain ⟨ns, rfl, rfl⟩ := bytesL_rep hl hr
    have hlen := hr.length
    simp at hlen
    refine ⟨.str _, .string (strOfNums ns), run_convert_bytes_arg w src e hs he b o len cap ns (by omega) (fun i hi => ?_) dst hd, ?_, h.2⟩
    · have hlt : i < ns.length := by omega
      exact hc i _ (by simp [List.getElem?_eq_getElem hlt])
    · simp only [Rep, strOfNums]
  · exact h.elim

theorem b2s_sound (hi : Inv G φ bl H w) {src e dst : TypeId} (hs : P.underlying src = some (.slice e)) (he : P.underlying e = some (.int .u8)) (hd : P.underlying dst = some .string) {x : AV} {u : Value} {K : AV → Prop} (hx : Rep φ bl x u) (h : b2sP H x K) :
    Gives P φ bl (convert src dst u) w K := by
  cases x <;> simp only [b2sP] at h
  case nils =>
    simp only [Rep] at hx
    subst hx
    refine ⟨.str [], .string ByteArray.empty, run_convert_bytes_nil w src e hs he 0 0 dst hd, ?_, h⟩
    simp only [Rep]
    rfl
  case sl len cs =>
    simp only [Rep] at hx
    rcases hx with ⟨rfl, rfl, rfl⟩ | ⟨b, o, cap, rfl, h1, h2, hr⟩
    · simp only [b2sC, bytesL] at h
      refine ⟨.str [], .string ByteArray.empty, run_convert_bytes_nil w src e hs he 0 0 dst hd, ?_, h.2⟩
      simp only [Rep]
      rfl
    · obtain ⟨vs, hv, hf⟩ := hr.vals
      exact b2sC_sound hs he hd h hv.up (fun j v hj => hi.fr _ _ _ (hf j v hj))
  case osl id off len =>
    cases ho : H[id]? with
    | none => simp [List.getD_eq_getElem?_getD, ho, b2sO] at h
    | some ob =>
      cases ob with
      | dead => simp [List.getD_eq_getElem?_getD, ho, b2sO] at h
      | mp _ _ => simp [List.getD_eq_getElem?_getD, ho, b2sO] at h
      | arr t' es l cs =>
        simp [List.getD_eq_getElem?_getD, ho, b2sO] at h
        obtain ⟨rfl, h⟩ := h
        have hob := hi.obj id _ ho
        simp only [ObjOK] at hob
        simp only [Rep] at hx
        rcases hob with ⟨h1, h2⟩ | ⟨b, n, cur, h1, h2, h3, h4, h5, h6⟩
        · rw [h1] at hx
          simp only at hx
          obtain ⟨rfl, rfl, rfl⟩ := hx
          subst h2
          simp [b2sC, bytesL] at h
          refine ⟨.str [], .string ByteArray.empty, run_convert_bytes_nil w src e hs he 0 0 dst hd, ?_, h⟩
          simp only [Rep]
          rfl
        · rw [h1] at hx
          simp only at hx
          obtain ⟨cap, rfl, _⟩ := hx
          have h5' : RepL φ bl cs (cur.toList.take cs.length) := by
            split at h5
            · exact h5.up
            · exact h5
          refine b2sC_sound hs he hd h ((h5'.drop off).take len) (fun j v hj => ?_)
          rw [List.getElem?_take] at hj
          split at hj
          · rw [List.getElem?_drop, List.getElem?_take] at hj
            split at hj
            · rw [cell_of_row w b (off + j) cur t' (0, 0) h2]
              simpa using hj
            · cases hj
          · cases hj

/-! ### Maps -/
theorem inv_newM (hi : Inv G φ bl H w) {w' : World} {k : IntKind} (hh : w'.heap = w.heap.push (.map #[] 0)) (ho : w'.os = w.os) (ht : w'.tape = w.tape) (hou : w'.output = w.output) :
    Inv G φ (updB bl H.length (.blk w.heap.size 0 0)) (H ++ [.mp k []]) w' ∧ Fr φ bl w φ (updB bl H.length (.blk w.heap.size 0 0)) w' := by
  have hun := hi.out H.length (Nat.le_refl _)
  have hbl : BLle bl (updB bl H.length (.blk w.heap.size 0 0)) := fun j => by
    by_cases e : j = H.length
    · subst e; exact .inl hun
    · exact .inr (.inl (updB_other _ _ e))
  have hold : ∀ b, b < w.heap.size → w'.heap[b]? = w.heap[b]? := fun b hb => by rw [hh, Array.getElem?_push, if_neg (by omega)]
  have hnew : w'.heap[w.heap.size]? = some (.map #[] 0) := by rw [hh]; simp
  have hsz : w'.heap.size = w.heap.size + 1 := by rw [hh]; simp
  refine ⟨⟨fun b hb => ?_, by rw [hsz]; have := hi.gsz; omega, fun id b n es' hb => ?_, fun b o u hu => ?_, fun id o ho => ?_, fun i j b n m es' fs h1 h2 => ?_, fun id hid => ?_⟩, ⟨ho, ht, hou, by omega, fun b hb _ => ⟨hold b hb, rfl⟩, fun id b n es' hb => ?_, Phi.le_refl _, hbl⟩⟩
  · rw [hold b (Nat.lt_of_lt_of_le hb hi.gsz)]; exact hi.glo b hb
  · by_cases e : id = H.length
    · subst e; rw [updB_same] at hb; injection hb with hb; subst hb; exact hi.gsz
    · rw [updB_other _ _ e] at hb; exact hi.gow id b n es' hb
  · have := hi.fr b o u hu
    rw [← this]
    exact World.cell?_of_block (hold b (phi_lt hi hu))
  · rcases Nat.lt_or_ge id H.length with hl | hl
    · rw [List.getElem?_append_left hl] at ho
      exact (hi.obj id o ho).mono (Phi.le_refl _) hbl (updB_other _ _ (by omega)) (fun b n es' hb => ⟨hold b (inv_lt hi hb), rfl⟩)
    · rw [List.getElem?_append_right hl] at ho
      have hid : id = H.length := by
        rcases Nat.eq_or_lt_of_le hl with e | e
        · exact e.symm
        · rw [List.getElem?_eq_none (by simp; omega)] at ho; cases ho
      subst hid
      simp at ho
      subst ho
      simp only [ObjOK, updB_same]
      refine ⟨w.heap.size, #[], 0, rfl, hnew, by simp only [RepM], fun q => ?_⟩
      cases hq : φ w.heap.size q with
      | none => rfl
      | some u => exact absurd (phi_lt hi hq) (by omega)
  · by_cases e1 : i = H.length <;> by_cases e2 : j = H.length
    · omega
    · subst e1
      rw [updB_same] at h1
      rw [updB_other _ _ e2] at h2
      injection h1 with h1; subst h1
      exact absurd (inv_lt hi h2) (by omega)
    · subst e2
      rw [updB_same] at h2
      rw [updB_other _ _ e1] at h1
      injection h2 with h2; subst h2
      exact absurd (inv_lt hi h1) (by omega)
    · rw [updB_other _ _ e1] at h1
      rw [updB_other _ _ e2] at h2
      exact hi.inj i j b n m es' fs h1 h2
  · simp at hid
    rw [updB_other _ _ (by omega)]
    exact hi.out id (by omega)
  · by_cases e : id = H.length
    · subst e; rw [updB_same] at hb; injection hb with hb; subst hb; exact .inl (Nat.le_refl _)
    · rw [updB_other _ _ e] at hb; exact .inr ⟨n, es', hb⟩

theorem inv_setM (hi : Inv G φ bl H w) {id : Nat} {k : IntKind} {es es' : List (Int × AV)} (ho : H[id]? = some (.mp k es)) {b : Nat} {ents ents' : Array MapEntry} {c c' : Nat} (hb : bl id = .blk b 0 0)
    (hheap : w.heap[b]? = some (.map ents c)) (hr : RepM φ k es' ents'.toList) :
    Inv G φ bl (H.set id (.mp k es')) { w with heap := w.heap.setIfInBounds b (.map ents' c') } ∧ Fr φ bl w φ bl { w with heap := w.heap.setIfInBounds b (.map ents' c') } := by
  have hlt : b < w.heap.size := (Array.getElem?_eq_some_iff.1 hheap).1
  have hnew : (w.heap.setIfInBounds b (.map ents' c'))[b]? = some (.map ents' c') := by simp [hlt]
  have hold : ∀ q, q ≠ b → (w.heap.setIfInBounds b (.map ents' c'))[q]? = w.heap[q]? := fun q hq => by rw [Array.getElem?_setIfInBounds_ne (Ne.symm hq)]
  have hob := hi.obj id _ ho
  have hphi : ∀ q, φ b q = none := by
    simp only [ObjOK] at hob
    obtain ⟨b', ents0, c0, h1, h2, h3, h4⟩ := hob
    rw [hb] at h1; injection h1 with h1; subst h1
    exact h4
  have hidl : id < H.length := by
    rcases Nat.lt_or_ge id H.length with h | h
    · exact h
    · rw [List.getElem?_eq_none h] at ho; cases ho
  refine ⟨⟨fun q hq => ?_, by simp only [Array.size_setIfInBounds]; exact hi.gsz, hi.gow, fun q o u hu => ?_, fun q o hq => ?_, hi.inj, fun q hq => hi.out q (by simpa using hq)⟩,
    ⟨rfl, rfl, rfl, by simp, fun q hq hno => ⟨hold q (fun e => hno id 0 0 (e ▸ hb)), rfl⟩, fun q c m fs hq => .inr ⟨m, fs, hq⟩, Phi.le_refl _, BLle.refl _⟩⟩
  · exact (hold q (fun e => by have := hi.gow id b 0 0 hb; omega)).trans (hi.glo q hq)
  · rw [← hi.fr q o u hu]
    refine World.cell?_of_block (hold q (fun e => ?_))
    rw [e, hphi] at hu; cases hu
  · rw [List.getElem?_set] at hq
    by_cases e : id = q
    · subst e
      simp [hidl] at hq
      subst hq
      simp only [ObjOK]
      exact ⟨b, ents', c', hb, hnew, hr, hphi⟩
    · rw [if_neg e] at hq
      refine (hi.obj q o hq).mono (Phi.le_refl _) (BLle.refl _) rfl (fun c m fs hc => ⟨hold c (fun e' => e ?_), rfl⟩)
      subst e'
      exact hi.inj id q c 0 m 0 fs hb hc

theorem findNow_rep {k k0 : IntKind} {n : Int} {x : AV} {v : Value} (hx : Rep φ nob x v) : ∀ {es : List (Int × AV)} {l : List MapEntry}, RepM φ k es l → ∀ i,
    (Instr.findNow (.int k0) (.int k n) l i = some none ∧ mget es n = none ∧ ∀ born, RepM φ k (mset es n x) (l ++ [⟨.int k n, v, born⟩])) ∨
    ∃ j e y, Instr.findNow (.int k0) (.int k n) l i = some (some (i + j, e.val)) ∧ l[j]? = some e ∧ e.key = .int k n ∧ mget es n = some y ∧ Rep φ nob y e.val ∧ RepM φ k (mset es n x) (l.set j { e with key := .int k n, val := v })
  | [], l, h, i => by
    simp only [RepM] at h
    subst h
    refine .inl ⟨rfl, rfl, fun born => ?_⟩
    simp only [mset, List.nil_append, RepM]
    exact ⟨_, _, rfl, rfl, hx, rfl⟩
  | c :: es, l, h, i => by
    simp only [RepM] at h
    obtain ⟨e, l', rfl, hk, hv, hr⟩ := h
    by_cases hn : n = c.1
    · refine .inr ⟨0, e, c.2, ?_, rfl, by rw [hk, hn], by simp [mget, hn], hv, ?_⟩
      · simp [Instr.findNow, Instr.sameNow, hk, hn]
      · simp only [mset, if_pos hn, List.set_cons_zero, RepM]
        exact ⟨_, _, rfl, rfl, hx, hr⟩
    · have hs : Instr.sameNow (.int k0) (.int k n) e.key = some false := by rw [hk]; simp [Instr.sameNow, hn]
      rcases findNow_rep (n := n) hx (k0 := k0) hr (i + 1) with ⟨h1, h2, h3⟩ | ⟨j, e', y, h1, h2, h3, h4, h5, h6⟩
      · refine .inl ⟨by simp [Instr.findNow, hs, h1], by simp [mget, hn, h2], fun born => ?_⟩
        simp only [mset, if_neg hn, List.cons_append, RepM]
        exact ⟨e, _, rfl, hk, hv, h3 born⟩
      · refine .inr ⟨j + 1, e', y, by simp [Instr.findNow, hs, h1]; omega, by simpa using h2, h3, by simp [mget, hn, h4], h5, ?_⟩
        simp only [mset, if_neg hn, List.set_cons_succ, RepM]
        exact ⟨e, _, rfl, hk, hv, h6⟩

theorem mref_rep (hi : Inv G φ bl H w) {i : Nat} {u : Value} (hr : Rep φ bl (.mref i) u) {k es} (h : H[i]? = some (.mp k es)) :
    ∃ b ents c, bl i = .blk b 0 0 ∧ u = .map (some b) ∧ w.heap[b]? = some (.map ents c) ∧ RepM φ k es ents.toList := by
  have ho := hi.obj i _ h
  simp only [ObjOK] at ho
  obtain ⟨b, ents, c, h1, h2, h3, h4⟩ := ho
  simp only [Rep, h1] at hr
  exact ⟨b, ents, c, h1, hr, h2, h3⟩

theorem isKey_int {k : IntKind} {d : IntKind} {n : Int} (h : d = k) : MapKept.IsKey (.int d) (.int k n) := by
  subst h; simp [MapKept.IsKey]

theorem zero1_run {t : TypeId} {z : AV} (h : zero1 P t = some z) : ∃ v, (∀ w : World, (zeroValue t).run P w = .ok v w) ∧ ∀ φ bl, Rep φ bl z v := by
  unfold zero1 at h
  cases hi : P.info? t with
  | none => simp [hi] at h
  | some i =>
    cases hz : i.zero with
    | none => simp [hi, hz] at h
    | some v =>
      simp [hi, hz] at h
      refine ⟨v, fun w => by simp [zeroValue, typeInfo, hi, hz], fun φ bl => ?_⟩
      cases v <;> simp at h <;> subst h <;> simp only [Rep]

theorem run_key {kt : TypeId} {d k : IntKind} {n : Int} (hk : P.underlying kt = some (.int d)) (e : Bool) (w : World) : (Instr.checkKey e 10000 kt (.int k n)).run P w = .ok () w := by
  unfold Instr.checkKey
  simp only [Sem.run_bind, run_underlying hk, Result.andThen]
  rfl

theorem lkup_sound (hi : Inv G φ bl H w) {t kt et : TypeId} {d : IntKind} (ht : P.underlying t = some (.map kt et)) (hk : P.underlying kt = some (.int d)) {z : AV} (hz : zero1 P et = some z)
    {x y : AV} {u v : Value} {K : AV → Prop} (hx : Rep φ bl x u) (hy : Rep φ bl y v) (h : lkupP H z x y K) : Gives P φ bl (Instr.lookup t u v false) w K := by
  cases x <;> cases y <;> simp only [lkupP] at h
  rename_i id k n
  simp only [Rep] at hy
  subst hy
  cases ho : H[id]? with
  | none => simp [List.getD_eq_getElem?_getD, ho, lkupO] at h
  | some ob =>
    cases ob with
    | dead => simp [List.getD_eq_getElem?_getD, ho, lkupO] at h
    | arr _ _ _ _ => simp [List.getD_eq_getElem?_getD, ho, lkupO] at h
    | mp k' es =>
      simp [List.getD_eq_getElem?_getD, ho, lkupO] at h
      obtain ⟨rfl, hK⟩ := h
      obtain ⟨b, ents, c, hb, rfl, hheap, hrm⟩ := mref_rep hi hx ho
      obtain ⟨zv, hzrun, hzr⟩ := zero1_run hz
      rcases findNow_rep (k0 := d) (n := n) (x := .bool true) (v := .bool true) rep_bool hrm 0 with ⟨h1, h2, _⟩ | ⟨j, e, y, h1, _, _, h4, h5, _⟩
      · rw [h2] at hK
        exact ⟨z, zv, by simp [Instr.lookup, run_underlying ht, MapKept.run_getObj_map hheap, run_key hk, MapKept.run_findKey hk h1, Result.andThen, hzrun], hzr φ bl, hK⟩
      · rw [h4] at hK
        exact ⟨y, e.val, by simp [Instr.lookup, run_underlying ht, MapKept.run_getObj_map hheap, run_key hk, MapKept.run_findKey hk h1, Result.andThen], h5.up, hK⟩

theorem sameBits_int (k : IntKind) (n : Int) : Instr.sameBits 10000 (.int k n) (.int k n) = true := by simp [Instr.sameBits]

theorem mapup_sound {s : St} {us : List Value} (hi : Inv G φ bl s.H w) (hf : RepL φ bl s.f us) {t kt et : TypeId} {d : IntKind} (ht : P.underlying t = some (.map kt et)) (hk : P.underlying kt = some (.int d))
    {x y z : AV} {u v q : Value} {K : AV → St → Prop} (hx : Rep φ bl x u) (hy : Rep φ bl y v) (hz : Rep φ bl z q) (h : mapupP s.H x y z fun H => K (.tup []) ⟨s.f, H⟩) :
    ∃ w' s', (Instr.mapUpdate t u v q).run P w = .ok () w' ∧ RepL φ bl s'.f us ∧ Inv G φ bl s'.H w' ∧ Fr φ bl w φ bl w' ∧ K (.tup []) s' := by
  cases x <;> cases y <;> simp only [mapupP] at h
  rename_i id k n
  simp only [Rep] at hy
  subst hy
  cases ho : s.H[id]? with
  | none => simp [List.getD_eq_getElem?_getD, ho, mapupO] at h
  | some ob =>
    cases ob with
    | dead => simp [List.getD_eq_getElem?_getD, ho, mapupO] at h
    | arr _ _ _ _ => simp [List.getD_eq_getElem?_getD, ho, mapupO] at h
    | mp k' es =>
      simp only [List.getD_eq_getElem?_getD, ho, Option.getD_some, mapupO] at h
      obtain ⟨⟨rfl, hfz⟩, hK⟩ := h
      obtain ⟨b, ents, c, hb, rfl, hheap, hrm⟩ := mref_rep hi hx ho
      rcases findNow_rep (k0 := d) (n := n) (x := z) (v := q) (hz.frz _ _ hfz) hrm 0 with ⟨h1, h2, h3⟩ | ⟨j, e, y, h1, h2, h3, h4, h5, h6⟩
      · obtain ⟨g1, g2⟩ := inv_setM hi ho (ents' := ents.push ⟨.int k n, q, c⟩) (c' := c + 1) hb hheap (by simpa using h3 c)
        refine ⟨_, ⟨s.f, s.H.set id (.mp k (mset es n z))⟩, ?_, hf, g1, g2, hK⟩
        simp [Instr.mapUpdate, run_underlying ht, MapKept.run_getObj_map hheap, run_key hk, MapKept.run_findKey hk h1, Result.andThen, MapKept.run_setObj_map _ hheap]
      · have hj : ents[j]? = some e := by simpa using h2
        obtain ⟨g1, g2⟩ := inv_setM hi ho (ents' := ents.modify j fun e => { e with key := .int k n, val := q }) (c' := c) hb hheap (by
          rw [Array.toList_modify]
          rw [show ents.toList.modify j (fun e => { e with key := .int k n, val := q }) = ents.toList.set j { e with key := .int k n, val := q } from ?_]
          · exact h6
          · apply List.ext_getElem?
            intro i
            rw [List.getElem?_modify, List.getElem?_set]
            by_cases hij : j = i
            · subst hij
              have hlt : j < ents.size := (Array.getElem?_eq_some_iff.1 hj).1
              have he : ents[j] = e := by rw [Array.getElem?_eq_getElem hlt] at hj; injection hj
              simp [hj, hlt, he]
            · simp [hij])
        refine ⟨_, ⟨s.f, s.H.set id (.mp k (mset es n z))⟩, ?_, hf, g1, g2, hK⟩
        simp [Instr.mapUpdate, run_underlying ht, MapKept.run_getObj_map hheap, run_key hk, MapKept.run_findKey hk h1, Result.andThen, MapKept.run_setObj_map _ hheap, hj, h3, Instr.keyThatStays, sameBits_int]
end Go.Avm
