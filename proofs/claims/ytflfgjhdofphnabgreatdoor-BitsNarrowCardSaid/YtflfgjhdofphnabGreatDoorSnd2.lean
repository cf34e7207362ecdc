/- The operations of the abstract machine are those of the model: what only reads. -/
import Derived.Test.YtflfgjhdofphnabGreatDoorSnd1
set_option linter.unusedSimpArgs false
set_option linter.unusedVariables false
namespace Go.Avm
open Go
variable {P : Program} {G : Glob} {φ : Phi} {bl : Nat → BL} {H : List AObj} {w : World}

def Gives (P : Program) (φ : Phi) (bl : Nat → BL) (m : Sem Value) (w : World) (K : AV → Prop) : Prop := ∃ r z, m.run P w = .ok z w ∧ Rep φ bl r z ∧ K r

theorem addr_add (b o n : Nat) : (⟨b, o, none⟩ : Addr).add n = ⟨b, o + n, none⟩ := by unfold Addr.add; split <;> simp_all

theorem run_szOf {t : TypeId} {n : Nat} (h : szOf P t = some n) (w : World) : (sizeOf t).run P w = .ok n w := by
  unfold szOf at h
  cases hi : P.info? t with
  | none => simp [hi] at h
  | some i =>
    simp [hi] at h
    simp [sizeOf, typeInfo, hi, h]

theorem isAgg_run {t : TypeId} {b : Bool} (h : isAggT P t = some b) (w : World) : (isAgg t).run P w = .ok b w := by
  unfold isAggT at h
  unfold isAgg
  cases hu : P.underlying t with
  | none => simp [hu] at h
  | some d =>
    simp only [hu] at h
    rw [Sem.run_bind, run_underlying hu w]
    cases d <;> simp at h ⊢ <;> exact h

theorem live {i : Nat} {K : Prop} (h : liveP (H.getD i .dead) K) : K ∧ ∃ t es l cs, H[i]? = some (.arr t es l cs) := by
  cases hi : H[i]? with
  | none => simp [List.getD_eq_getElem?_getD, hi, liveP] at h
  | some o =>
    cases o with
    | dead => simp [List.getD_eq_getElem?_getD, hi, liveP] at h
    | mp _ _ => simp [List.getD_eq_getElem?_getD, hi, liveP] at h
    | arr t es l cs =>
      simp [List.getD_eq_getElem?_getD, hi, liveP] at h
      exact ⟨h, t, es, l, cs, rfl⟩

theorem own_rep (hi : Inv G φ bl H w) {i o : Nat} {u : Value} (hr : Rep φ bl (.own i o) u) {t es l cs} (h : H[i]? = some (.arr t es l cs)) :
    ∃ b n cur, bl i = .blk b n es ∧ u = .pointer (some ⟨b, o, none⟩) ∧ w.heap[b]? = some (.cells cur t (0, 0)) ∧ cur.size = n ∧ cs.length ≤ n ∧
      RepL φ bl cs (cur.toList.take cs.length) ∧ ∀ q, φ b q = if l = true ∧ q < cs.length then cur[q]? else none := by
  have ho := hi.obj i _ h
  simp only [ObjOK] at ho
  simp only [Rep] at hr
  rcases ho with ⟨h1, _⟩ | ⟨b, n, cur, h1, h2, h3, h4, h5, h6⟩
  · simp [h1] at hr
  · simp [h1] at hr
    refine ⟨b, n, cur, h1, hr, h2, h3, h4, ?_, h6⟩
    split at h5
    · exact h5.up
    · exact h5

theorem not_sound {x : AV} {u : Value} {K : AV → Prop} (hx : Rep φ bl x u) (h : notP x K) : Gives P φ bl (Op.unary .not u) w K := by
  cases x <;> simp only [notP] at h
  simp only [Rep] at hx
  subst hx
  exact ⟨_, _, by simp [Op.unary], rep_bool, h⟩

theorem neg_sound {x : AV} {u : Value} {K : AV → Prop} (hx : Rep φ bl x u) (h : negP x K) : Gives P φ bl (Op.unary .neg u) w K := by
  cases x <;> simp only [negP] at h
  simp only [Rep] at hx
  subst hx
  exact ⟨.int _ _, .int _ _, by simp only [Op.unary, Op.intArith]; rfl, rep_int, h⟩

theorem equalIn_bool {t : TypeId} (ht : P.underlying t = some .bool) (d : Nat) (a b : Bool) (w : World) : (Op.equalIn (d + 1) t (.bool a) (.bool b)).run P w = .ok (a == b) w := by
  simp [Op.equalIn, run_underlying ht]
theorem equalIn_slnil {t e : TypeId} (ht : P.underlying t = some (.slice e)) (d : Nat) (p : Option Addr) (l c : Nat) (w : World) : (Op.equalIn (d + 1) t (.slice p l c) (.slice none 0 0)).run P w = .ok p.isNone w := by
  cases p <;> simp [Op.equalIn, run_underlying ht]

theorem eqb_sound {n : Bool} {x y : AV} {u v : Value} {K : AV → Prop} (hx : Rep φ bl x u) (hy : Rep φ bl y v) (h : eqbP n x y K) {t : TypeId} (ht : P.underlying t = some .bool) (X Y : Operand) {op : BinOp} (ho : op = .eql ∧ n = false ∨ op = .neq ∧ n = true) :
    Gives P φ bl (do eqGuard op t X Y u v; binOp op t u v) w K := by
  cases x <;> cases y <;> simp only [eqbP] at h
  rename_i a b
  simp only [Rep] at hx hy
  subst hx hy
  have he : (Op.equal t (.bool a) (.bool b)).run P w = .ok (a == b) w := equalIn_bool ht 9999 a b w
  rcases ho with ⟨rfl, rfl⟩ | ⟨rfl, rfl⟩
  · exact ⟨.bool (a == b), .bool (a == b), by simp [eqGuard, binOp, he], rep_bool, by simpa using h⟩
  · exact ⟨.bool (!(a == b)), .bool (!(a == b)), by simp [eqGuard, binOp, he], rep_bool, by simpa using h⟩

theorem eqpn_sound (hi : Inv G φ bl H w) {n : Bool} {x : AV} {u : Value} {K : AV → Prop} (hx : Rep φ bl x u) (h : eqpnP H n x K) {t e : TypeId} (ht : P.underlying t = some (.pointer e)) (X Y : Operand) {op : BinOp} (ho : op = .eql ∧ n = false ∨ op = .neq ∧ n = true) :
    Gives P φ bl (do eqGuard op t X Y u (.pointer none); binOp op t u (.pointer none)) w K := by
  have ht' : P.underlying t = some (.pointer (P.pointee t)) := by simp [Program.pointee, ht]
  have key : ∀ p : Option Addr, K (.bool (p.isNone != n)) → Gives P φ bl (do eqGuard op t X Y (.pointer p) (.pointer none); binOp op t (.pointer p) (.pointer none)) w K := by
    intro p hK
    rcases ho with ⟨rfl, rfl⟩ | ⟨rfl, rfl⟩
    · exact ⟨.bool p.isNone, .bool p.isNone, by simp [eqGuard, run_eql_pointer_nil w t p ht'], rep_bool, by simpa using hK⟩
    · exact ⟨.bool (!p.isNone), .bool (!p.isNone), by simp [eqGuard, run_neq_pointer_nil w t p ht'], rep_bool, by simpa using hK⟩
  cases x <;> simp only [eqpnP] at h
  case nilp =>
    simp only [Rep] at hx
    subst hx
    exact key none (by simpa using h)
  case ptr cs o =>
    simp only [Rep] at hx
    obtain ⟨b, o', rfl, _⟩ := hx
    exact key (some _) (by simpa using h)
  case own i o =>
    obtain ⟨hK, t', es, l, cs, hl⟩ := live h
    obtain ⟨b, m, cur, _, rfl, _⟩ := own_rep hi hx hl
    exact key (some _) (by simpa using hK)

theorem eqsn_sound (hi : Inv G φ bl H w) {n : Bool} {x : AV} {u : Value} {K : AV → Prop} (hx : Rep φ bl x u) (h : eqsnP H n x K) {t e : TypeId} (ht : P.underlying t = some (.slice e)) (X Y : Operand) {op : BinOp} (ho : op = .eql ∧ n = false ∨ op = .neq ∧ n = true) :
    Gives P φ bl (do eqGuard op t X Y u (.slice none 0 0); binOp op t u (.slice none 0 0)) w K := by
  have key : ∀ (p : Option Addr) (l c : Nat), K (.bool (p.isNone != n)) → Gives P φ bl (do eqGuard op t X Y (.slice p l c) (.slice none 0 0); binOp op t (.slice p l c) (.slice none 0 0)) w K := by
    intro p l c hK
    have he : (Op.equal t (.slice p l c) (.slice none 0 0)).run P w = .ok p.isNone w := equalIn_slnil ht 9999 p l c w
    rcases ho with ⟨rfl, rfl⟩ | ⟨rfl, rfl⟩
    · exact ⟨.bool p.isNone, .bool p.isNone, by simp [eqGuard, binOp, he], rep_bool, by simpa using hK⟩
    · exact ⟨.bool (!p.isNone), .bool (!p.isNone), by simp [eqGuard, binOp, he], rep_bool, by simpa using hK⟩
  cases x <;> simp only [eqsnP] at h
  case nils =>
    simp only [Rep] at hx
    subst hx
    exact key none 0 0 (by simpa using h)
  case sl len cs =>
    simp only [Rep] at hx
    rcases hx with ⟨_, h0, _⟩ | ⟨b, o', cap, rfl, _⟩
    · omega
    · exact key (some _) _ _ (by simpa using h.2)
  case osl i o len =>
    obtain ⟨⟨h0, hK⟩, t', es, l, cs, hl⟩ := live h
    simp only [Rep] at hx
    have hob := hi.obj i _ hl
    simp only [ObjOK] at hob
    rcases hob with ⟨h1, _⟩ | ⟨b, m, cur, h1, _⟩
    · simp [h1] at hx; omega
    · simp [h1] at hx
      obtain ⟨cap, rfl, _⟩ := hx
      exact key (some _) _ _ (by simpa using hK)

theorem conv_sound {k : IntKind} {x : AV} {u : Value} {K : AV → Prop} (hx : Rep φ bl x u) (h : convP k x K) {src dst : TypeId} {k0 : IntKind} (hs : P.underlying src = some (.int k0)) (hd : P.underlying dst = some (.int k)) :
    Gives P φ bl (convert src dst u) w K := by
  cases x <;> simp only [convP] at h
  simp only [Rep] at hx
  subst hx
  exact ⟨.int _ _, .int _ _, by simp [convert, run_underlying hs, run_underlying hd, Conv.intToInt], rep_int, h⟩

theorem nilck_sound (hi : Inv G φ bl H w) {x : AV} {u : Value} {K : AV → Prop} (hx : Rep φ bl x u) (h : nilckP H x K) : ∃ r p, u = .pointer (some p) ∧ Rep φ bl r u ∧ K r := by
  cases x <;> simp only [nilckP] at h
  case ptr cs o =>
    have hx' := hx
    simp only [Rep] at hx
    obtain ⟨b, o', rfl, _⟩ := hx
    exact ⟨_, _, rfl, hx', h⟩
  case own i o =>
    obtain ⟨hK, t', es, l, cs, hl⟩ := live h
    obtain ⟨b, m, cur, _, rfl, _⟩ := own_rep hi hx hl
    exact ⟨_, _, rfl, hx, hK⟩

theorem fld_sound (hi : Inv G φ bl H w) {x : AV} {u : Value} {K : AV → Prop} {s : TypeId} {fields : Array Field} {i sz : Nat} {f : Field} (hs : P.underlying s = some (.struct fields)) (hf : fields[i]? = some f) (hz : szOf P f.type = some sz) (h0 : sz ≠ 0)
    (hx : Rep φ bl x u) (h : fldP H f.offset x K) : Gives P φ bl (Instr.fieldAt s u i) w K := by
  have key : ∀ b o, (Instr.fieldAt s (.pointer (some ⟨b, o, none⟩)) i).run P w = .ok (.pointer (some ⟨b, o + f.offset, none⟩)) w := by
    intro b o
    simp [Instr.fieldAt, run_underlying hs, hf, Instr.sureAddr, fieldPlace, run_szOf hz, h0, addr_add]
  cases x <;> simp only [fldP] at h
  case ptr cs o =>
    simp only [Rep] at hx
    obtain ⟨b, o', rfl, hr⟩ := hx
    refine ⟨_, _, key b _, ?_, h⟩
    simp only [Rep]
    exact ⟨b, o', by rw [Nat.add_assoc], hr⟩
  case own j o =>
    obtain ⟨hK, t', es, l, cs, hl⟩ := live h
    obtain ⟨b, m, cur, hb, rfl, _⟩ := own_rep hi hx hl
    refine ⟨_, _, key b _, ?_, hK⟩
    simp [Rep, hb]

theorem idxA_sound (hi : Inv G φ bl H w) {x y : AV} {u v : Value} {K : AV → Prop} {t e : TypeId} {sz : Nat} (ht : P.underlying t = some (.slice e)) (hz : szOf P e = some sz)
    (hx : Rep φ bl x u) (hy : Rep φ bl y v) (h : idxAP H sz x y K) : Gives P φ bl (Instr.indexAt t u v) w K := by
  have key : ∀ (b o len cap : Nat) (k : IntKind) (n : Int), 0 ≤ n → n < (len : Int) → (Instr.indexAt t (.slice (some ⟨b, o, none⟩) len cap) (.int k n)).run P w = .ok (.pointer (some ⟨b, o + n.toNat * sz, none⟩)) w := by
    intro b o len cap k n h0 h1
    simp [Instr.indexAt, run_underlying ht, asIntOf, h0, h1, run_szOf hz, addr_add]
  cases x <;> cases y <;> simp only [idxAP] at h
  case sl.int len cs k n =>
    obtain ⟨⟨h0, h1⟩, hK⟩ := h
    simp only [Rep] at hx hy
    subst hy
    rcases hx with ⟨_, h2, _⟩ | ⟨b, o, cap, rfl, _, _, hr⟩
    · omega
    · refine ⟨_, _, key b o len cap k n h0 h1, ?_, hK⟩
      simp only [Rep]
      exact ⟨b, o, rfl, hr⟩
  case osl.int j o len k n =>
    obtain ⟨⟨⟨h0, h1⟩, hK⟩, t', es, l, cs, hl⟩ := live h
    simp only [Rep] at hx hy
    subst hy
    have hob := hi.obj j _ hl
    simp only [ObjOK] at hob
    rcases hob with ⟨h2, _⟩ | ⟨b, m, cur, h2, _⟩
    · simp [h2] at hx; omega
    · simp [h2] at hx
      obtain ⟨cap, rfl, _⟩ := hx
      refine ⟨_, _, key b o len cap k n h0 h1, ?_, hK⟩
      simp [Rep, h2]

theorem idxP_sound (hi : Inv G φ bl H w) {x y : AV} {u v : Value} {K : AV → Prop} {t e : TypeId} {m sz : Nat} (ht : P.underlying t = some (.array m e)) (hm : ¬ m ≤ 1) (hz : szOf P e = some sz)
    (hx : Rep φ bl x u) (hy : Rep φ bl y v) (h : idxPP H m sz x y K) : Gives P φ bl (Instr.indexAt t u v) w K := by
  have key : ∀ (b o : Nat) (k : IntKind) (n : Int), 0 ≤ n → n < (m : Int) → (Instr.indexAt t (.pointer (some ⟨b, o, none⟩)) (.int k n)).run P w = .ok (.pointer (some ⟨b, o + n.toNat * sz, none⟩)) w := by
    intro b o k n h0 h1
    simp [Instr.indexAt, run_underlying ht, asIntOf, h0, h1, run_szOf hz, addr_add, Instr.sureAddr]
  cases x <;> cases y <;> simp only [idxPP] at h
  case ptr.int cs o k n =>
    obtain ⟨⟨h0, h1⟩, hK⟩ := h
    simp only [Rep] at hx hy
    subst hy
    obtain ⟨b, o', rfl, hr⟩ := hx
    refine ⟨_, _, key b _ k n h0 h1, ?_, hK⟩
    simp only [Rep]
    exact ⟨b, o', by rw [Nat.add_assoc], hr⟩
  case own.int j o k n =>
    obtain ⟨⟨⟨h0, h1⟩, hK⟩, t', es, l, cs, hl⟩ := live h
    obtain ⟨b, m', cur, hb, rfl, _⟩ := own_rep hi hx hl
    simp only [Rep] at hy
    subst hy
    refine ⟨_, _, key b o k n h0 h1, ?_, hK⟩
    simp [Rep, hb]

theorem idxS_sound {x y : AV} {u v : Value} {K : AV → Prop} {t : TypeId} (ht : P.underlying t = some .string)
    (hx : Rep φ bl x u) (hy : Rep φ bl y v) (h : idxSP x y K) : Gives P φ bl (Instr.index t u v) w K := by
  cases x <;> cases y <;> simp only [idxSP] at h
  case str.int s k n =>
    obtain ⟨⟨h0, h1⟩, hK⟩ := h
    simp only [Rep] at hx hy
    subst hx hy
    obtain ⟨m, rfl⟩ := Int.eq_ofNat_of_zero_le h0
    have hm : m < s.length := by omega
    refine ⟨.int _ _, .int .u8 ((s[m]'hm).toNat : Int), ?_, rep_int, ?_⟩
    · have : (⟨s.toArray⟩ : ByteArray)[m]? = some s[m] := by
        rw [getElem?_pos _ m (show m < s.toArray.size by simpa using hm)]
        rfl
      simp [Instr.index, run_underlying ht, asIntOf, this]
    · simpa [List.getD_eq_getElem?_getD, List.getElem?_eq_getElem hm] using hK

theorem len_sound (hi : Inv G φ bl H w) {x : AV} {u : Value} {K : AV → Prop} {t ty e : TypeId} (he : P.underlying t = some (.slice e))
    (hx : Rep φ bl x u) (h : lenP H x K) : Gives P φ bl (Builtin.len_ #[t] ty #[u]) w K := by
  have key : ∀ p l c, (Builtin.len_ #[t] ty #[.slice p l c]).run P w = .ok (.int .i64 l) w := by
    intro p l c
    simp [Builtin.len_, run_underlying he, goInt]
  cases x <;> simp only [lenP] at h
  case nils =>
    simp only [Rep] at hx
    subst hx
    exact ⟨.int _ _, _, key _ _ _, rep_int, h⟩
  case sl len cs =>
    simp only [Rep] at hx
    rcases hx with ⟨rfl, rfl, _⟩ | ⟨b, o, cap, rfl, h1, h2, _⟩
    · exact ⟨.int _ _, _, key _ _ _, rep_int, h (by omega)⟩
    · exact ⟨.int _ _, _, key _ _ _, rep_int, h (by unfold maxLen at h2; omega)⟩
  case osl j o len =>
    obtain ⟨hK, t', es, l, cs, hl⟩ := live h
    simp only [Rep] at hx
    have hob := hi.obj j _ hl
    simp only [ObjOK] at hob
    rcases hob with ⟨h2, _⟩ | ⟨b, m, cur, h2, _⟩
    · simp [h2] at hx
      obtain ⟨rfl, rfl, _⟩ := hx
      exact ⟨.int _ _, _, key _ _ _, rep_int, hK (by omega)⟩
    · simp [h2] at hx
      obtain ⟨cap, rfl, h3, h4, _⟩ := hx
      exact ⟨.int _ _, _, key _ _ _, rep_int, hK (by unfold maxLen at h4; omega)⟩

theorem lenS_sound {x : AV} {u : Value} {K : AV → Prop} {t ty : TypeId} (he : P.underlying t = some .string)
    (hx : Rep φ bl x u) (h : lenSP x K) : Gives P φ bl (Builtin.len_ #[t] ty #[u]) w K := by
  cases x <;> simp only [lenSP] at h
  simp only [Rep] at hx
  subst hx
  rename_i l
  have hk : (Builtin.len_ #[t] ty #[.string ⟨l.toArray⟩]).run P w = .ok (goInt (⟨l.toArray⟩ : ByteArray).size) w := by simp [Builtin.len_, run_underlying he]
  exact ⟨.int .i64 l.length, goInt (⟨l.toArray⟩ : ByteArray).size, hk, rep_int, h⟩

end Go.Avm
