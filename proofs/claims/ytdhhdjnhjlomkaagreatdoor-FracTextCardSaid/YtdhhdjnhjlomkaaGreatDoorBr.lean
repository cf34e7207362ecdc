/- From contracts on trees to the given statements: what the listed variables and the world's shape give; the row's frame. -/
import Derived.Test.YtdhhdjnhjlomkaaGreatDoorRows
import Derived.Test.YtdhhdjnhjlomkaaGreatDoorBG
import Derived.WalkKit
import Derived.ProofKit
import Derived.OpenShut
import Derived.LaidMore
import Derived.Lay
import Derived.SevenTiedAt
import Derived.Stop.Joined
import Derived.Stop.LaidErr
import Derived.Shelf.Vars
import Derived.HandedShaped
set_option linter.unusedSimpArgs false
set_option linter.unusedVariables false
set_option maxRecDepth 100000
namespace Go.Proofs.YtdhhdjnhjlomkaaGreatDoor
open Go.ChangeShapes Go.WideShapes Go.ChangeAt Go.RowKit Go.Avm
/-- The variables that the rows list. -/
noncomputable def laidL : List (String × DataW Unit) := Rows.natTextRow.laid
theorem own : ownKnob Tryz.prog.godebug = none := by kernel_rfl
theorem plainL : (laidL.all fun x => x.2.handleName?.isNone) = true := by kernel_rfl
/-- A world that fits with the listed variables, its shape kept. -/
theorem returns_laid {H : Type} {enc : TypeId × Value → H} {a : Assume} {C : Checked} {os : Os} {f : FuncId} {fn : Func} {s : ChangeSpec} {conds : List PathCond} {apart fresh handsOn again : Bool} {X : World → Array Value → Prop}
    (hX : ∀ (w w' : World) (args : Array Value), w.heap = w'.heap → X w args → X w' args)
    (own : ownKnob C.prog.godebug = none) (started : os.Started) (noInit : C.prog.inits.idxOf? f = none) (hfn : C.prog.funcs[f]? = some fn)
    (witness : ∃ (w : World) (tape : Tape) (i : Input), w.os = os ∧ (w.forCall tape i).Shaped C.prog ∧ i.vars = [] ∧ Input.okWide C.prog (w.forCall tape i) .any w.heap.size f i ∧
      ((s.pre enc C.prog fn conds apart (w.forCall tape i).memory i.args ∧ X (w.forCall tape i).memory i.args) ∧ sizedMet enc C.prog fn (OpenSpec.ofChange s) apart (w.forCall tape i).memory i.args) ∧ a.holds C.prog (lone (Frame.enter C.prog f i.args .normal) [] (w.forCall tape i)))
    (contract : ∀ (W : World) (base : Nat) (args : Array Value) (ds gs : List (DataW H)) (before : List MemPlace),
      (∀ (j : Nat) t v, fn.params[j]? = some t → args[j]? = some v → Value.okWide C.prog W .any base t v) →
      DataW.Whole enc C.prog fn.params.toList s.vars apart W args.toList ds gs before →
      conds.all (PathCond.test C.prog ⟨fn.params.toList, ds, s.plain.varTypes C.prog, gs⟩) = true →
      (DataW.weightsEach C.prog (fn.params.toList ++ s.plain.varTypes C.prog) (ds ++ gs)).all (· ≤ reachBytes) = true → W.ShapedOpen C.prog → X W args →
      a.holds C.prog (lone (Frame.enter C.prog f args .normal) [] W) →
      Calls C.prog f args W fun e W' => ∃ v, e = .returned v ∧ s.post enc C.prog fn apart fresh handsOn again W args v W') :
    ReturnsInHanded a C os f .any (fun w args => (s.pre enc C.prog fn conds apart w args ∧ X w args) ∧ sizedMet enc C.prog fn (OpenSpec.ofChange s) apart w args) (s.post enc C.prog fn apart fresh handsOn again) := by
  refine returnsInHanded_of_calls own started noInit witness ?_
  intro w tape i _ hsh _ hok hpre hholds
  obtain ⟨_, _, _, fn', hfn', _, _, _, _, hval⟩ := hok
  obtain rfl : fn' = fn := Option.some.inj (hfn'.symm.trans hfn)
  obtain ⟨⟨⟨ds, gs, before, hw, hc⟩, hx⟩, hz⟩ := hpre
  have hw' := DataW.Whole.of_heap (w' := w.forCall tape i) (by rfl) hw
  refine (contract (w.forCall tape i) w.heap.size i.args ds gs before hval hw' hc (hz.weights hw) hsh (hX _ _ _ (by rfl) hx) hholds).mono fun e W' ⟨v, he, hp⟩ => ?_
  subst he
  exact ChangeSpec.post_blind hp
/-- A law that answers true and leaves a world in which nothing that was there has turned. -/
theorem law_post {H : Type} {enc : TypeId × Value → H} {P : Program} {f : Func} {s : ChangeSpec} {W W' : World} {args : Array Value} {ds gs : List (DataW H)} {before pa : List MemPlace} {v : Value}
    (hW : DataW.Whole enc P f.params.toList s.vars false W args.toList ds gs before)
    (hres : ∀ (b : Nat) (sp : Nat → Bool) (hd : Bool), DataW.TrodAll enc P W' b sp hd f.resultTypes.toList (v.resultList f.resultTypes.size) (s.fn H (ds ++ gs)).results [])
    (hargs : ∀ sp : Nat → Bool, (∀ p ∈ before, sp p.block = true) → DataW.TrodAll enc P W' 0 sp true f.params.toList args.toList (s.fn H (ds ++ gs)).args pa)
    (hvars : ∀ sp : Nat → Bool, DataW.TrodVars enc P W' sp s.vars (s.fn H (ds ++ gs)).vars [])
    (hps : before = pa) (hb : Below W.heap.size W W')
    (hok : ∀ (j : Nat) (t : TypeId) (r : Value), f.resultTypes[j]? = some t → (v.resultList f.resultTypes.size)[j]? = some r → Value.okWide P W' .any 0 t r) :
    s.post enc P f false true false false W args v W' := by
  subst hps
  have hlt : ∀ p ∈ before, p.block < W.heap.size := fun p hp => hW.lt p hp
  have hmark : ∀ p ∈ before, (fun b => decide (b < W.heap.size)) p.block = true := fun p hp => by simpa using hlt p hp
  refine ⟨ds, gs, before, [], before, [], hW, hres _ _ _, hargs _ hmark, hvars _, World.keptBut_mono (fun p hp => ⟨hp, .inr (.inl hp)⟩) (hb.frame (· ∈ before)), fun _ => ?_⟩
  obtain ⟨_, _, _, _, _, hz, hn⟩ := hW
  refine ⟨hok, _, _, ([] ++ before) ++ [], ⟨[] ++ before, [], trodAll_append (hargs _ (fun _ _ => rfl)) (hres _ _ _), hvars _, rfl, ?_, ?_⟩, ?_⟩
  · intro b off hp
    have hin : MemPlace.cell b off ∈ before := by simpa using hp
    rw [hb.frozen (hlt _ hin)]
    exact hz b off hin
  · intro ha
    have := hn ha
    simpa using this
  · intro p hp _
    simpa using hp
/-- The table of powers of ten, out of the row's condition. -/
theorem pow_of {W : World} (h : laidMetH Tryz.prog laidL W) : Va.PowTab W := by
  rw [MakeChecks.laidMetH_plain _ _ _ plainL] at h
  have h2 := laidMet.tail (laidMet.tail h)
  exact Va.tab_of (by kernel_rfl) (Lib.tabIs_of_head (g := 2) (t := 213) (e := 22) (n := 20) (by kernel_rfl) (by kernel_rfl) Tryz.underlying213 Tryz.underlying22 (by kernel_rfl) (by kernel_rfl) h2)
/-- What the package-level variables hold from first to last. -/
def globOf (W : World) : Glob := ⟨8, fun b => W.heap[b]?⟩
theorem var_same {W w : World} {nm : String} {g : Nat} (hg : Tryz.prog.globalNamed nm = some g) (hlt : g < 8) (h : GW (globOf W) w) : w.var? Tryz.prog nm = W.var? Tryz.prog nm := by
  have e : w.heap[g]? = W.heap[g]? := h g hlt
  simp only [World.var?, hg, Option.bind_some, e]
theorem gok {W : World} (hL : laidMetH Tryz.prog laidL W) (hS : W.ShapedOpen Tryz.prog) : Va.GOK (globOf W) := by
  refine ⟨fun w hw => ?_, show 3 < 8 by decide, ?_⟩
  · have := pow_of hL
    unfold Va.PowTab Lib.TabIs at this ⊢
    rw [← this]
    exact var_same (g := 2) (by kernel_rfl) (by decide) hw
  · obtain ⟨m, hm⟩ := cell_of_shapedOpen_int (g := 3) (t := 3) (zero := #[.int .i64 0]) (k := .i64) hS (of_decide_eq_true (by kernel_rfl)) (by kernel_rfl) (by kernel_rfl) (by kernel_rfl) (by kernel_rfl) Tryz.underlying3
    show ∃ (cur : Array Value) (t : TypeId) (fz : Nat × Nat) (m : Int), W.heap[3]? = some (.cells cur t fz) ∧ cur[0]? = some (.int .i64 m)
    unfold World.cell? at hm
    cases h0 : W.heap[3]? with
    | none => rw [h0] at hm; cases hm
    | some o =>
      rw [h0] at hm
      cases o with
      | cells c t fz => exact ⟨c, t, fz, m, rfl, by simpa using hm⟩
      | _ => cases hm
/-- A contract on trees that names no own memory, said of the run: with arguments that stand for one value each. -/
theorem calls_of {W : World} {f : FuncId} {args : List AV} {vs : List Value} (hsz : 8 ≤ W.heap.size) (h : PX Tryz.prog (globOf W) f args (.bool true)) (φ : Phi) (hφ : ∀ b o u, φ b o = some u → W.cell? ⟨b, o, none⟩ = some u)
    (hr : ∀ bl, RepL φ bl args vs) : Calls Tryz.prog f vs.toArray W fun e W' => e = .returned (.bool true) ∧ Below W.heap.size W W' := by
  have hi : Inv (globOf W) φ nob [] W := ⟨fun _ _ => rfl, hsz, fun _ _ _ _ h => (by cases h), hφ, fun _ _ h => (by simp at h), fun _ _ _ _ _ _ _ h => (by cases h), fun _ _ => rfl⟩
  refine (h.2.2 φ nob W vs hi (hr nob)).mono ?_
  rintro e W' ⟨v, φ', bl', x, H', rfl, ⟨_, rfl⟩, _, hx, hf⟩
  simp only [Rep] at hx
  subst hx
  exact ⟨rfl, hf.os, hf.tape, hf.output, hf.size, fun b hb => (hf.old b hb fun _ _ _ h => (by cases h)).1⟩
/-- As many blocks as there are variables. -/
theorem heap_ge {W : World} (hS : W.ShapedOpen Tryz.prog) : 8 ≤ W.heap.size := by
  obtain ⟨z, hz⟩ : ∃ z, ((begin Tryz.prog (fun _ _ => 0) default).world.heap[8 - 1]?).bind Obj.row? = some z := Option.isSome_iff_exists.1 (by kernel_rfl)
  obtain ⟨cs, hh, _, _⟩ := hS.1 (8 - 1) z.1 z.2 (of_decide_eq_true (by kernel_rfl)) hz
  rcases Nat.lt_or_ge (8 - 1) W.heap.size with h | h
  · exact h
  · rw [Array.getElem?_eq_none h] at hh; cases hh
/-! ### What a literal's bounds say -/
theorem lit_u64 {a : Int} (h : (Lit.int .u64 a).wf = true) : ∃ x : Nat, a = (x : Int) ∧ x < 18446744073709551616 := by
  simp [Lit.wf, IntKind.min, IntKind.max, IntKind.signed, IntKind.bits] at h
  exact ⟨a.toNat, by omega, by omega⟩
theorem lit_u8 {a : Int} (h : (Lit.int .u8 a).wf = true) : ∃ x : Nat, a = (x : Int) ∧ x < 256 := by
  simp [Lit.wf, IntKind.min, IntKind.max, IntKind.signed, IntKind.bits] at h
  exact ⟨a.toNat, by omega, by omega⟩
theorem lit_i64 {a : Int} (h : (Lit.int .i64 a).wf = true) : -9223372036854775808 ≤ a ∧ a ≤ 9223372036854775807 := by
  simp [Lit.wf, IntKind.min, IntKind.max, IntKind.signed, IntKind.bits] at h
  omega
theorem str_of {a : ByteArray} (h : a.size ≤ maxLen) : ∃ x : List UInt8, a = ⟨x.toArray⟩ ∧ x.length ≤ 9223372036854775807 := by
  refine ⟨a.data.toList, by cases a; simp, ?_⟩
  unfold maxLen at h
  have : a.data.size = a.size := rfl
  simpa [this] using h
end Go.Proofs.YtdhhdjnhjlomkaaGreatDoor
