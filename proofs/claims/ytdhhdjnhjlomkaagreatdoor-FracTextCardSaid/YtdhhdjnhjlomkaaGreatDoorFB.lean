/- Joined texts. -/
import Derived.Test.YtdhhdjnhjlomkaaGreatDoorFA
import Derived.WalkKit
import Derived.WalkSpells
import Derived.Deep.AppendSrc
import Derived.Laws.IdiomCopy
import Derived.MapKept
import Derived.Laws.BytesArg
/- How trees stand for values in memory; what is kept from step to step. -/
namespace Go.Avm
open Go

/-- Where an object of the call's own lies: nowhere yet, nowhere any more, nowhere (nil), in block b of n cells, es an element. -/
inductive BL where
  | unused
  | dead
  | nil
  | blk (b n es : Nat)

/-- The cells that are never written again, and what they hold. -/
abbrev Phi := Nat → Nat → Option Value

def nob : Nat → BL := fun _ => .unused

mutual
def Rep (φ : Phi) : (Nat → BL) → AV → Value → Prop
  | _, .int k n, v => v = .int k n
  | _, .bool b, v => v = .bool b
  | _, .str s, v => v = .string ⟨s.toArray⟩
  | _, .nilp, v => v = .pointer none
  | _, .ptr cs off, v => ∃ b o, v = .pointer (some ⟨b, o + off, none⟩) ∧ RepRow φ cs b o
  | _, .nils, v => v = .slice none 0 0
  | _, .sl len cs, v => (v = .slice none 0 0 ∧ len = 0 ∧ cs = []) ∨ ∃ b o cap, v = .slice (some ⟨b, o, none⟩) len cap ∧ len ≤ cap ∧ cap ≤ maxLen ∧ RepRow φ cs b o
  | bl, .own id off, v => match bl id with
    | .unused => False
    | .dead => True
    | .nil => False
    | .blk b _ _ => v = .pointer (some ⟨b, off, none⟩)
  | bl, .osl id off len, v => match bl id with
    | .unused => False
    | .dead => True
    | .nil => v = .slice none 0 0 ∧ len = 0 ∧ off = 0
    | .blk b n es => ∃ cap, v = .slice (some ⟨b, off, none⟩) len cap ∧ len ≤ cap ∧ cap ≤ maxLen ∧ off + cap * es ≤ n
  | bl, .agg cs, v => ∃ vs : List Value, v = .agg vs.toArray ∧ RepL φ bl cs vs
  | bl, .tup cs, v => ∃ vs : List Value, v = .tuple vs.toArray ∧ RepL φ bl cs vs
  | bl, .fn f cs, v => ∃ vs : List Value, v = .func (.func f) #[] vs.toArray ∧ RepL φ bl cs vs
  | _, .raw u, v => v = u
  | bl, .mref id, v => match bl id with
    | .unused => False
    | .dead => True
    | .nil => False
    | .blk b _ _ => v = .map (some b)
  | _, .junk, _ => True
/-- A row of cells that are never written again: no name of the call's own is in them. -/
def RepRow (φ : Phi) : List AV → Nat → Nat → Prop
  | [], _, _ => True
  | c :: cs, b, o => (∃ u, φ b o = some u ∧ Rep φ nob c u) ∧ RepRow φ cs b (o + 1)
def RepL (φ : Phi) : (Nat → BL) → List AV → List Value → Prop
  | _, [], vs => vs = []
  | bl, c :: cs, vs => ∃ u us, vs = u :: us ∧ Rep φ bl c u ∧ RepL φ bl cs us
end

def Phi.le (φ φ' : Phi) : Prop := ∀ b o u, φ b o = some u → φ' b o = some u
theorem Phi.le_refl (φ : Phi) : φ.le φ := fun _ _ _ h => h
theorem Phi.le_trans {a b c : Phi} (h : a.le b) (k : b.le c) : a.le c := fun x o u hu => k x o u (h x o u hu)

def BLle (bl bl' : Nat → BL) : Prop := ∀ id, bl id = .unused ∨ bl' id = bl id ∨ bl' id = .dead
theorem BLle.refl (bl : Nat → BL) : BLle bl bl := fun _ => .inr (.inl rfl)
theorem BLle.trans {a b c : Nat → BL} (h : BLle a b) (k : BLle b c) : BLle a c := fun id => by
  rcases h id with h | h | h
  · exact .inl h
  · rcases k id with k | k | k
    · exact .inl (h ▸ k)
    · exact .inr (.inl (k.trans h))
    · exact .inr (.inr k)
  · rcases k id with k | k | k
    · rw [h] at k; cases k
    · exact .inr (.inr (k.trans h))
    · exact .inr (.inr k)

mutual
theorem Rep.mono {φ φ' : Phi} {bl bl' : Nat → BL} (hp : φ.le φ') (hb : BLle bl bl') : ∀ (x : AV) (v : Value), Rep φ bl x v → Rep φ' bl' x v
  | .int _ _, _, h => by simpa only [Rep] using h
  | .bool _, _, h => by simpa only [Rep] using h
  | .str _, _, h => by simpa only [Rep] using h
  | .nilp, _, h => by simpa only [Rep] using h
  | .ptr cs _, _, h => by
    simp only [Rep] at h ⊢
    obtain ⟨b, o, e, hr⟩ := h
    exact ⟨b, o, e, RepRow.mono hp cs b o hr⟩
  | .nils, _, h => by simpa only [Rep] using h
  | .sl _ cs, _, h => by
    simp only [Rep] at h ⊢
    rcases h with h | ⟨b, o, cap, e, h1, h2, hr⟩
    · exact .inl h
    · exact .inr ⟨b, o, cap, e, h1, h2, RepRow.mono hp cs b o hr⟩
  | .own id _, _, h => by
    simp only [Rep] at h ⊢
    rcases hb id with e | e | e
    · rw [e] at h; exact h.elim
    · rw [e]; exact h
    · rw [e]; trivial
  | .osl id _ _, _, h => by
    simp only [Rep] at h ⊢
    rcases hb id with e | e | e
    · rw [e] at h; exact h.elim
    · rw [e]; exact h
    · rw [e]; trivial
  | .agg cs, _, h => by
    simp only [Rep] at h ⊢
    obtain ⟨vs, e, hr⟩ := h
    exact ⟨vs, e, RepL.mono hp hb cs vs hr⟩
  | .tup cs, _, h => by
    simp only [Rep] at h ⊢
    obtain ⟨vs, e, hr⟩ := h
    exact ⟨vs, e, RepL.mono hp hb cs vs hr⟩
  | .fn _ cs, _, h => by
    simp only [Rep] at h ⊢
    obtain ⟨vs, e, hr⟩ := h
    exact ⟨vs, e, RepL.mono hp hb cs vs hr⟩
  | .raw _, _, h => by simpa only [Rep] using h
  | .mref id, _, h => by
    simp only [Rep] at h ⊢
    rcases hb id with e | e | e
    · rw [e] at h; exact h.elim
    · rw [e]; exact h
    · rw [e]; trivial
  | .junk, _, _ => by simp only [Rep]
theorem RepRow.mono {φ φ' : Phi} (hp : φ.le φ') : ∀ (cs : List AV) (b o : Nat), RepRow φ cs b o → RepRow φ' cs b o
  | [], _, _, _ => by simp only [RepRow]
  | c :: cs, b, o, h => by
    simp only [RepRow] at h ⊢
    obtain ⟨⟨u, hu, hr⟩, hrest⟩ := h
    exact ⟨⟨u, hp _ _ _ hu, Rep.mono hp (BLle.refl _) c u hr⟩, RepRow.mono hp cs b (o + 1) hrest⟩
theorem RepL.mono {φ φ' : Phi} {bl bl' : Nat → BL} (hp : φ.le φ') (hb : BLle bl bl') : ∀ (cs : List AV) (vs : List Value), RepL φ bl cs vs → RepL φ' bl' cs vs
  | [], _, h => by simpa only [RepL] using h
  | c :: cs, _, h => by
    simp only [RepL] at h ⊢
    obtain ⟨u, us, e, hr, hrest⟩ := h
    exact ⟨u, us, e, Rep.mono hp hb c u hr, RepL.mono hp hb cs us hrest⟩
end

theorem Rep.up {φ : Phi} {bl : Nat → BL} {x : AV} {v : Value} (h : Rep φ nob x v) : Rep φ bl x v := Rep.mono (Phi.le_refl _) (fun _ => .inl rfl) x v h
theorem RepL.up {φ : Phi} {bl : Nat → BL} {x : List AV} {v : List Value} (h : RepL φ nob x v) : RepL φ bl x v := RepL.mono (Phi.le_refl _) (fun _ => .inl rfl) x v h

mutual
/-- What names no object doesn't hang on where objects lie. -/
theorem Rep.frz {φ : Phi} {bl : Nat → BL} : ∀ (x : AV) (v : Value), Frz x → Rep φ bl x v → Rep φ nob x v
  | .int _ _, _, _, h => by simpa only [Rep] using h
  | .bool _, _, _, h => by simpa only [Rep] using h
  | .str _, _, _, h => by simpa only [Rep] using h
  | .nilp, _, _, h => by simpa only [Rep] using h
  | .ptr cs _, _, f, h => by simpa only [Rep] using h
  | .nils, _, _, h => by simpa only [Rep] using h
  | .sl _ cs, _, f, h => by simpa only [Rep] using h
  | .own _ _, _, f, _ => by simp only [Frz] at f
  | .osl _ _ _, _, f, _ => by simp only [Frz] at f
  | .agg cs, _, f, h => by
    simp only [Rep] at h ⊢
    simp only [Frz] at f
    obtain ⟨vs, e, hr⟩ := h
    exact ⟨vs, e, RepL.frz cs vs f hr⟩
  | .tup cs, _, f, h => by
    simp only [Rep] at h ⊢
    simp only [Frz] at f
    obtain ⟨vs, e, hr⟩ := h
    exact ⟨vs, e, RepL.frz cs vs f hr⟩
  | .fn _ cs, _, f, h => by
    simp only [Rep] at h ⊢
    simp only [Frz] at f
    obtain ⟨vs, e, hr⟩ := h
    exact ⟨vs, e, RepL.frz cs vs f hr⟩
  | .raw _, _, _, h => by simpa only [Rep] using h
  | .mref _, _, f, _ => by simp only [Frz] at f
  | .junk, _, f, _ => by simp only [Frz] at f
theorem RepL.frz {φ : Phi} {bl : Nat → BL} : ∀ (cs : List AV) (vs : List Value), FrzL cs → RepL φ bl cs vs → RepL φ nob cs vs
  | [], _, _, h => by simpa only [RepL] using h
  | c :: cs, _, f, h => by
    simp only [RepL] at h ⊢
    simp only [FrzL] at f
    obtain ⟨u, us, e, hr, hrest⟩ := h
    exact ⟨u, us, e, Rep.frz c u f.1 hr, RepL.frz cs us f.2 hrest⟩
end

theorem FrzL.iff {cs : List AV} : FrzL cs ↔ ∀ x ∈ cs, Frz x := by
  induction cs with
  | nil => simp [FrzL]
  | cons c cs ih => simp [FrzL, ih]

/-! ### Lists of trees -/
theorem RepL.length {φ : Phi} {bl : Nat → BL} : ∀ {cs : List AV} {vs : List Value}, RepL φ bl cs vs → cs.length = vs.length
  | [], _, h => by simp only [RepL] at h; subst h; rfl
  | c :: cs, _, h => by
    simp only [RepL] at h
    obtain ⟨u, us, rfl, _, hr⟩ := h
    simp [RepL.length hr]

theorem RepL.iff {φ : Phi} {bl : Nat → BL} : ∀ {cs : List AV} {vs : List Value}, RepL φ bl cs vs ↔ cs.length = vs.length ∧ ∀ (i : Nat) (c : AV) (v : Value), cs[i]? = some c → vs[i]? = some v → Rep φ bl c v
  | [], vs => by
    simp only [RepL]
    constructor
    · rintro rfl; simp
    · rintro ⟨h, _⟩; exact List.eq_nil_of_length_eq_zero (by simpa using h.symm)
  | c :: cs, vs => by
    simp only [RepL]
    constructor
    · rintro ⟨u, us, rfl, hr, hrest⟩
      have ih := (RepL.iff (cs := cs) (vs := us)).1 hrest
      refine ⟨by simp [ih.1], fun i d v hd hv => ?_⟩
      cases i with
      | zero => simp at hd hv; subst hd; subst hv; exact hr
      | succ i => exact ih.2 i d v (by simpa using hd) (by simpa using hv)
    · rintro ⟨hl, h⟩
      cases vs with
      | nil => simp at hl
      | cons u us =>
        refine ⟨u, us, rfl, h 0 c u rfl rfl, RepL.iff.2 ⟨by simpa using hl, fun i d v hd hv => h (i + 1) d v (by simpa using hd) (by simpa using hv)⟩⟩

theorem RepL.get {φ : Phi} {bl : Nat → BL} {cs : List AV} {vs : List Value} (h : RepL φ bl cs vs) {i : Nat} (hi : i < cs.length) : ∃ v, vs[i]? = some v ∧ Rep φ bl (cs.getD i .junk) v := by
  have hl := h.length
  refine ⟨vs[i]'(by omega), List.getElem?_eq_getElem (by omega), ?_⟩
  refine (RepL.iff.1 h).2 i _ _ ?_ (List.getElem?_eq_getElem (by omega))
  simp [List.getD_eq_getElem?_getD, List.getElem?_eq_getElem hi]

theorem RepL.set {φ : Phi} {bl : Nat → BL} {cs : List AV} {vs : List Value} (h : RepL φ bl cs vs) {x : AV} {v : Value} (hx : Rep φ bl x v) (i : Nat) : RepL φ bl (cs.set i x) (vs.set i v) := by
  have h' := RepL.iff.1 h
  refine RepL.iff.2 ⟨by simp [h'.1], fun j c u hc hu => ?_⟩
  rw [List.getElem?_set] at hc hu
  by_cases e : i = j
  · subst e
    simp only [if_true] at hc hu
    split at hc
    · split at hu
      · simp at hc hu; subst hc; subst hu; exact hx
      · simp at hu
    · simp at hc
  · simp only [e, if_false] at hc hu
    exact h'.2 j c u hc hu

theorem RepL.append {φ : Phi} {bl : Nat → BL} {cs ds : List AV} {vs us : List Value} (h : RepL φ bl cs vs) (k : RepL φ bl ds us) : RepL φ bl (cs ++ ds) (vs ++ us) := by
  induction cs generalizing vs with
  | nil => simp only [RepL] at h; subst h; simpa using k
  | cons c cs ih =>
    simp only [RepL] at h
    obtain ⟨u, vs', rfl, hr, hrest⟩ := h
    simp only [List.cons_append, RepL]
    exact ⟨u, vs' ++ us, rfl, hr, ih hrest⟩

theorem RepL.take {φ : Phi} {bl : Nat → BL} {cs : List AV} {vs : List Value} (h : RepL φ bl cs vs) (n : Nat) : RepL φ bl (cs.take n) (vs.take n) := by
  have h' := RepL.iff.1 h
  refine RepL.iff.2 ⟨by simp [h'.1], fun j c u hc hu => ?_⟩
  rw [List.getElem?_take] at hc hu
  split at hc
  · rename_i hj
    rw [if_pos hj] at hu
    exact h'.2 j c u hc hu
  · simp at hc

theorem RepL.drop {φ : Phi} {bl : Nat → BL} {cs : List AV} {vs : List Value} (h : RepL φ bl cs vs) (n : Nat) : RepL φ bl (cs.drop n) (vs.drop n) := by
  have h' := RepL.iff.1 h
  refine RepL.iff.2 ⟨by simp [h'.1], fun j c u hc hu => ?_⟩
  rw [List.getElem?_drop] at hc hu
  exact h'.2 _ c u hc hu

theorem RepRow.iff {φ : Phi} : ∀ {cs : List AV} {b o : Nat}, RepRow φ cs b o ↔ ∀ (i : Nat) (c : AV), cs[i]? = some c → ∃ u, φ b (o + i) = some u ∧ Rep φ nob c u
  | [], b, o => by simp [RepRow]
  | c :: cs, b, o => by
    simp only [RepRow]
    constructor
    · rintro ⟨h0, h⟩ i d hd
      cases i with
      | zero => simp at hd; subst hd; exact h0
      | succ i =>
        obtain ⟨u, hu, hr⟩ := RepRow.iff.1 h i d (by simpa using hd)
        exact ⟨u, by rw [show o + (i + 1) = o + 1 + i from by omega]; exact hu, hr⟩
    · intro h
      refine ⟨h 0 c rfl, RepRow.iff.2 fun i d hd => ?_⟩
      obtain ⟨u, hu, hr⟩ := h (i + 1) d (by simpa using hd)
      exact ⟨u, by rw [show o + 1 + i = o + (i + 1) from by omega]; exact hu, hr⟩

theorem RepRow.get {φ : Phi} {cs : List AV} {b o : Nat} (h : RepRow φ cs b o) {i : Nat} (hi : i < cs.length) : ∃ u, φ b (o + i) = some u ∧ Rep φ nob (cs.getD i .junk) u := by
  refine RepRow.iff.1 h i _ ?_
  simp [List.getD_eq_getElem?_getD, List.getElem?_eq_getElem hi]

theorem RepRow.sub {φ : Phi} {cs : List AV} {b o : Nat} (h : RepRow φ cs b o) (d n : Nat) : RepRow φ ((cs.drop d).take n) b (o + d) := by
  refine RepRow.iff.2 fun i c hc => ?_
  rw [List.getElem?_take] at hc
  split at hc
  · rw [List.getElem?_drop] at hc
    obtain ⟨u, hu, hr⟩ := RepRow.iff.1 h (d + i) c hc
    exact ⟨u, by rw [show o + d + i = o + (d + i) from by omega]; exact hu, hr⟩
  · simp at hc

/-! ### What is kept -/
/-- A map's entries. -/
def RepM (φ : Phi) (k : IntKind) : List (Int × AV) → List MapEntry → Prop
  | [], es => es = []
  | c :: cs, es => ∃ e es', es = e :: es' ∧ e.key = .int k c.1 ∧ Rep φ nob c.2 e.val ∧ RepM φ k cs es'
def ObjOK (φ : Phi) (bl : Nat → BL) (w : World) (id : Nat) : AObj → Prop
  | .dead => bl id = .dead
  | .arr t es lent cs => (bl id = .nil ∧ cs = []) ∨ ∃ (b n : Nat) (cur : Array Value), bl id = .blk b n es ∧ w.heap[b]? = some (.cells cur t (0, 0)) ∧ cur.size = n ∧ cs.length ≤ n ∧
      RepL φ (if lent = true then nob else bl) cs (cur.toList.take cs.length) ∧ ∀ o, φ b o = if lent = true ∧ o < cs.length then cur[o]? else none
  | .mp k es => ∃ (b : Nat) (ents : Array MapEntry) (clock : Nat), bl id = .blk b 0 0 ∧ w.heap[b]? = some (.map ents clock) ∧ RepM φ k es ents.toList ∧ ∀ o, φ b o = none

/-- The package-level variables: so many blocks, and what they hold from first to last. -/
structure Glob where
  n : Nat
  at_ : Nat → Option Obj

structure Inv (G : Glob) (φ : Phi) (bl : Nat → BL) (H : List AObj) (w : World) : Prop where
  glo : ∀ b, b < G.n → w.heap[b]? = G.at_ b
  gsz : G.n ≤ w.heap.size
  gow : ∀ id b n es, bl id = .blk b n es → G.n ≤ b
  fr : ∀ b o u, φ b o = some u → w.cell? ⟨b, o, none⟩ = some u
  obj : ∀ id o, H[id]? = some o → ObjOK φ bl w id o
  inj : ∀ i j b n m es fs, bl i = .blk b n es → bl j = .blk b m fs → i = j
  out : ∀ id, H.length ≤ id → bl id = .unused

/-- A state and a frame. -/
structure Rel (G : Glob) (φ : Phi) (bl : Nat → BL) (s : St) (a : Act) (w : World) : Prop where
  f : RepL φ bl s.f a.tmps.toList
  d : a.defers = []
  inv : Inv G φ bl s.H w

/-- What the call owes to what was there before: φ0, bl0, w0: at its begin. -/
structure Fr (φ0 : Phi) (bl0 : Nat → BL) (w0 : World) (φ : Phi) (bl : Nat → BL) (w : World) : Prop where
  os : w.os = w0.os
  tape : w.tape = w0.tape
  output : w.output = w0.output
  size : w0.heap.size ≤ w.heap.size
  old : ∀ b, b < w0.heap.size → (∀ id n es, bl0 id ≠ .blk b n es) → w.heap[b]? = w0.heap[b]? ∧ φ b = φ0 b
  own : ∀ id b n es, bl id = .blk b n es → w0.heap.size ≤ b ∨ ∃ n es, bl0 id = .blk b n es
  phi : φ0.le φ
  ids : BLle bl0 bl

theorem Fr.refl (φ : Phi) (bl : Nat → BL) (w : World) : Fr φ bl w φ bl w :=
  ⟨rfl, rfl, rfl, Nat.le_refl _, fun _ _ _ => ⟨rfl, rfl⟩, fun _ _ n es h => .inr ⟨n, es, h⟩, Phi.le_refl _, BLle.refl _⟩

theorem Fr.trans {φ0 φ1 φ2 : Phi} {bl0 bl1 bl2 : Nat → BL} {w0 w1 w2 : World} (h : Fr φ0 bl0 w0 φ1 bl1 w1) (k : Fr φ1 bl1 w1 φ2 bl2 w2) : Fr φ0 bl0 w0 φ2 bl2 w2 := by
  refine ⟨k.os.trans h.os, k.tape.trans h.tape, k.output.trans h.output, Nat.le_trans h.size k.size, fun b hb hn => ?_, fun id b n es e => ?_, Phi.le_trans h.phi k.phi, h.ids.trans k.ids⟩
  · have h1 := h.old b hb hn
    have h2 := k.old b (Nat.lt_of_lt_of_le hb h.size) (fun id n es e => by
      rcases h.own id b n es e with h3 | ⟨n', es', h3⟩
      · omega
      · exact hn id n' es' h3)
    exact ⟨h2.1.trans h1.1, h2.2.trans h1.2⟩
  · rcases k.own id b n es e with h3 | ⟨n', es', h3⟩
    · exact .inl (Nat.le_trans h.size h3)
    · exact h.own id b n' es' h3

/-- What is owed from the call's begin on is owed still; n0: how many objects came in with the call. -/
def Adv (n0 : Nat) (φ : Phi) (bl : Nat → BL) (w : World) (φ' : Phi) (bl' : Nat → BL) (w' : World) : Prop :=
  ∀ φ0 bl0 w0, (∀ j, n0 ≤ j → bl0 j = .unused) → Fr φ0 bl0 w0 φ bl w → Fr φ0 bl0 w0 φ' bl' w'
theorem Adv.refl (n0 : Nat) (φ : Phi) (bl : Nat → BL) (w : World) : Adv n0 φ bl w φ bl w := fun _ _ _ _ h => h
theorem Adv.trans {n0 : Nat} {φ1 φ2 φ3 : Phi} {bl1 bl2 bl3 : Nat → BL} {w1 w2 w3 : World} (h : Adv n0 φ1 bl1 w1 φ2 bl2 w2) (k : Adv n0 φ2 bl2 w2 φ3 bl3 w3) : Adv n0 φ1 bl1 w1 φ3 bl3 w3 :=
  fun φ0 bl0 w0 hn f => k φ0 bl0 w0 hn (h φ0 bl0 w0 hn f)
theorem Fr.adv {φ φ' : Phi} {bl bl' : Nat → BL} {w w' : World} (h : Fr φ bl w φ' bl' w') (n0 : Nat) : Adv n0 φ bl w φ' bl' w' := fun _ _ _ _ f => f.trans h

/-- The contract of a function: called with trees args, with objects H of its own: it returns x, and objects H', such that R x H'. -/
def AC (P : Program) (G : Glob) (f : FuncId) (args : List AV) (H : List AObj) (R : AV → List AObj → Prop) : Prop :=
  ∀ φ bl w vs, Inv G φ bl H w → RepL φ bl args vs → Calls P f vs.toArray w fun e w' =>
    ∃ v φ' bl' x H', e = .returned v ∧ R x H' ∧ Inv G φ' bl' H' w' ∧ Rep φ' bl' x v ∧ Fr φ bl w φ' bl' w'

theorem AC.mono {P : Program} {G : Glob} {f : FuncId} {args : List AV} {H : List AObj} {R R' : AV → List AObj → Prop} (h : AC P G f args H R) (k : ∀ x H', R x H' → R' x H') : AC P G f args H R' :=
  fun φ bl w vs hi hr => (h φ bl w vs hi hr).mono fun _ _ ⟨v, φ', bl', x, H', e, r, i, p, f⟩ => ⟨v, φ', bl', x, H', e, k x H' r, i, p, f⟩

/-- The same memory, told otherwise. -/
def Gh (G : Glob) (n0 : Nat) (s s' : St) : Prop := ∀ φ bl vs w, Inv G φ bl s.H w → RepL φ bl s.f vs → ∃ φ' bl', Inv G φ' bl' s'.H w ∧ RepL φ' bl' s'.f vs ∧ Adv n0 φ bl w φ' bl' w

theorem Gh.refl (G : Glob) (n0 : Nat) (s : St) : Gh G n0 s s := fun φ bl _ w hi hr => ⟨φ, bl, hi, hr, Adv.refl n0 φ bl w⟩
theorem Gh.trans {G : Glob} {n0 : Nat} {a b c : St} (h : Gh G n0 a b) (k : Gh G n0 b c) : Gh G n0 a c := fun φ bl vs w hi hr => by
  obtain ⟨φ1, bl1, i1, r1, f1⟩ := h φ bl vs w hi hr
  obtain ⟨φ2, bl2, i2, r2, f2⟩ := k φ1 bl1 vs w i1 r1
  exact ⟨φ2, bl2, i2, r2, f1.trans f2⟩

end Go.Avm
/- The operations of the abstract machine are those of the model: what only computes. -/
set_option linter.unusedSimpArgs false
namespace Go.Avm
open Go
variable {P : Program} {φ : Phi} {bl : Nat → BL}

theorem constAV_rep (φ : Phi) (bl : Nat → BL) (v : Value) : Rep φ bl (constAV v) v := by
  cases v <;> simp only [constAV]
  case slice a n c =>
    cases a
    · simp only
      split
      · rename_i h; simp [Rep, h.1, h.2]
      · simp [Rep]
    · simp [Rep]
  case pointer a => cases a <;> simp [Rep]
  all_goals simp [Rep]

theorem lowA_rep {f : List AV} {a : Act} (hf : RepL φ bl f a.tmps.toList) {x : Operand} {ia : IA} (h : lowA x = some ia) : Rep φ bl (ev f ia) (a.eval x) := by
  unfold lowA at h
  split at h
  · rename_i t
    injection h with h
    subst h
    by_cases ht : t < f.length
    · obtain ⟨v, hv, hr⟩ := hf.get ht
      have : a.tmps.getD t undef = v := by
        have hl := hf.length
        simp at hl
        simp [Array.getD_eq_getD_getElem?] at hv ⊢
        simp [hv]
      simp only [ev, Act.eval, this]
      exact hr
    · simp only [ev]
      rw [show f.getD t .junk = .junk from by simp [List.getD_eq_getElem?_getD, List.getElem?_eq_none (Nat.le_of_not_lt ht)]]
      simp only [Rep]
  · cases h
  · rename_i v hv
    injection h with h
    subst h
    exact constAV_rep φ bl v
  · injection h with h
    subst h
    simp [ev, Act.eval, Rep, RepL]
  · cases h

theorem lowAs_rep {f : List AV} {a : Act} (hf : RepL φ bl f a.tmps.toList) : ∀ {xs : List Operand} {is : List IA}, xs.mapM lowA = some is → RepL φ bl (is.map (ev f)) (xs.map a.eval)
  | [], is, h => by
    simp at h
    subst h
    simp [RepL]
  | x :: xs, is, h => by
    simp only [List.mapM_cons] at h
    cases hx : lowA x with
    | none => simp [hx] at h
    | some i =>
      cases hxs : xs.mapM lowA with
      | none => simp [hx, hxs] at h
      | some js =>
        simp [hx, hxs] at h
        subst h
        simp only [List.map_cons, RepL]
        exact ⟨_, _, rfl, lowA_rep hf hx, lowAs_rep hf hxs⟩

theorem rep_int {k : IntKind} {n : Int} : Rep φ bl (.int k n) (.int k n) := by simp only [Rep]
theorem rep_bool {b : Bool} : Rep φ bl (.bool b) (.bool b) := by simp only [Rep]
theorem rep_str {s : List UInt8} : Rep φ bl (.str s) (.string ⟨s.toArray⟩) := by simp only [Rep]
theorem beq_dec (a b : Int) : (a == b) = decide (a = b) := by rw [Bool.eq_iff_iff]; simp
theorem bne_dec (a b : Int) : (a != b) = !decide (a = b) := by rw [Bool.eq_iff_iff]; simp
theorem binP_sound {op : BinOp} {x y : AV} {u v : Value} {K : AV → Prop} (hx : Rep φ bl x u) (hy : Rep φ bl y v) (h : binP op x y K) (t : TypeId) (X Y : Operand) (w : World) :
    ∃ r z, (do eqGuard op t X Y u v; binOp op t u v : Sem Value).run P w = .ok z w ∧ Rep φ bl r z ∧ K r := by
  cases x <;> cases y <;> simp only [binP] at h
  case int.int k a k' b =>
    simp only [Rep] at hx hy
    subst hx hy
    cases op <;> simp only at h
    case shl =>
      obtain ⟨h0, hK⟩ := h
      refine ⟨.int _ _, .int _ _, ?_, rep_int, hK⟩
      · simp [eqGuard, binOp, Op.shift, Int.not_lt.2 h0]
    case shr =>
      obtain ⟨h0, hK⟩ := h
      refine ⟨.int _ _, .int _ _, ?_, rep_int, hK⟩
      · simp [eqGuard, binOp, Op.shift, Int.not_lt.2 h0]
    case quo =>
      obtain ⟨⟨rfl, h0⟩, hK⟩ := h
      refine ⟨.int _ _, .int _ _, ?_, rep_int, hK⟩
      · simp [eqGuard, binOp, Op.intDiv, h0]
    case rem =>
      obtain ⟨⟨rfl, h0⟩, hK⟩ := h
      refine ⟨.int _ _, .int _ _, ?_, rep_int, hK⟩
      · simp [eqGuard, binOp, Op.intDiv, h0]
    all_goals
      obtain ⟨rfl, hK⟩ := h
      first
        | exact ⟨.int _ _, .int _ _, by simp [eqGuard, binOp, Op.intArith, Op.intBits], rep_int, hK⟩
        | exact ⟨.bool _, .bool _, by simp [eqGuard, binOp, Op.intCmp, beq_dec, bne_dec], rep_bool, hK⟩
  case str.str a b =>
    simp only [Rep] at hx hy
    subst hx hy
    cases op <;> simp only at h
    case add =>
      obtain ⟨h0, hK⟩ := h
      refine ⟨.str _, .string _, ?_, rep_str, hK⟩
      simp [eqGuard, binOp, Op.stringOp, ByteArray.size]
      rw [if_neg (by omega)]
      simp [ByteArray.ext_iff]
    case eql => exact ⟨.bool _, .bool _, by simp [eqGuard, binOp, Op.stringOp], rep_bool, h⟩
    case neq => exact ⟨.bool _, .bool _, by simp [eqGuard, binOp, Op.stringOp], rep_bool, h⟩
end Go.Avm
/- The operations of the abstract machine are those of the model: what only reads. -/
set_option linter.unusedSimpArgs false
set_option linter.unusedVariables false
namespace Go.Avm
open Go
variable {P : Program} {G : Glob} {φ : Phi} {bl : Nat → BL} {H : List AObj} {w : World}

def Gives (P : Program) (φ : Phi) (bl : Nat → BL) (m : Sem Value) (w : World) (K : AV → Prop) : Prop := ∃ r z, m.run P w = .ok z w ∧ Rep φ bl r z ∧ K r

theorem addr_add (b o n : Nat) : (⟨b, o, none⟩ : Addr).add n = ⟨b, o + n, none⟩ := by unfold Addr.add; split <;> simp_all

theorem run_szOf {t : TypeId} {n : Nat} (h : szOf P t = some n) (w : World) : (sizeOf t).run P w = .ok n w := by
  unfold szOf at h
  cases hi : P.info? t with
  | none => simp [hi] at h
  | some i =>
    simp [hi] at h
    simp [sizeOf, typeInfo, hi, h]

theorem isAgg_run {t : TypeId} {b : Bool} (h : isAggT P t = some b) (w : World) : (isAgg t).run P w = .ok b w := by
  unfold isAggT at h
  unfold isAgg
  cases hu : P.underlying t with
  | none => simp [hu] at h
  | some d =>
    simp only [hu] at h
    rw [Sem.run_bind, run_underlying hu w]
    cases d <;> simp at h ⊢ <;> exact h

theorem live {i : Nat} {K : Prop} (h : liveP (H.getD i .dead) K) : K ∧ ∃ t es l cs, H[i]? = some (.arr t es l cs) := by
  cases hi : H[i]? with
  | none => simp [List.getD_eq_getElem?_getD, hi, liveP] at h
  | some o =>
    cases o with
    | dead => simp [List.getD_eq_getElem?_getD, hi, liveP] at h
    | mp _ _ => simp [List.getD_eq_getElem?_getD, hi, liveP] at h
    | arr t es l cs =>
      simp [List.getD_eq_getElem?_getD, hi, liveP] at h
      exact ⟨h, t, es, l, cs, rfl⟩

theorem own_rep (hi : Inv G φ bl H w) {i o : Nat} {u : Value} (hr : Rep φ bl (.own i o) u) {t es l cs} (h : H[i]? = some (.arr t es l cs)) :
    ∃ b n cur, bl i = .blk b n es ∧ u = .pointer (some ⟨b, o, none⟩) ∧ w.heap[b]? = some (.cells cur t (0, 0)) ∧ cur.size = n ∧ cs.length ≤ n ∧
      RepL φ bl cs (cur.toList.take cs.length) ∧ ∀ q, φ b q = if l = true ∧ q < cs.length then cur[q]? else none := by
  have ho := hi.obj i _ h
  simp only [ObjOK] at ho
  simp only [Rep] at hr
  rcases ho with ⟨h1, _⟩ | ⟨b, n, cur, h1, h2, h3, h4, h5, h6⟩
  · simp [h1] at hr
  · simp [h1] at hr
    refine ⟨b, n, cur, h1, hr, h2, h3, h4, ?_, h6⟩
    split at h5
    · exact h5.up
    · exact h5

theorem not_sound {x : AV} {u : Value} {K : AV → Prop} (hx : Rep φ bl x u) (h : notP x K) : Gives P φ bl (Op.unary .not u) w K := by
  cases x <;> simp only [notP] at h
  simp only [Rep] at hx
  subst hx
  exact ⟨_, _, by simp [Op.unary], rep_bool, h⟩

theorem neg_sound {x : AV} {u : Value} {K : AV → Prop} (hx : Rep φ bl x u) (h : negP x K) : Gives P φ bl (Op.unary .neg u) w K := by
  cases x <;> simp only [negP] at h
  simp only [Rep] at hx
  subst hx
  exact ⟨.int _ _, .int _ _, by simp only [Op.unary, Op.intArith]; rfl, rep_int, h⟩

theorem equalIn_bool {t : TypeId} (ht : P.underlying t = some .bool) (d : Nat) (a b : Bool) (w : World) : (Op.equalIn (d + 1) t (.bool a) (.bool b)).run P w = .ok (a == b) w := by
  simp [Op.equalIn, run_underlying ht]
theorem equalIn_slnil {t e : TypeId} (ht : P.underlying t = some (.slice e)) (d : Nat) (p : Option Addr) (l c : Nat) (w : World) : (Op.equalIn (d + 1) t (.slice p l c) (.slice none 0 0)).run P w = .ok p.isNone w := by
  cases p <;> simp [Op.equalIn, run_underlying ht]

theorem eqb_sound {n : Bool} {x y : AV} {u v : Value} {K : AV → Prop} (hx : Rep φ bl x u) (hy : Rep φ bl y v) (h : eqbP n x y K) {t : TypeId} (ht : P.underlying t = some .bool) (X Y : Operand) {op : BinOp} (ho : op = .eql ∧ n = false ∨ op = .neq ∧ n = true) :
    Gives P φ bl (do eqGuard op t X Y u v; binOp op t u v) w K := by
  cases x <;> cases y <;> simp only [eqbP] at h
  rename_i a b
  simp only [Rep] at hx hy
  subst hx hy
  have he : (Op.equal t (.bool a) (.bool b)).run P w = .ok (a == b) w := equalIn_bool ht 9999 a b w
  rcases ho with ⟨rfl, rfl⟩ | ⟨rfl, rfl⟩
  · exact ⟨.bool (a == b), .bool (a == b), by simp [eqGuard, binOp, he], rep_bool, by simpa using h⟩
  · exact ⟨.bool (!(a == b)), .bool (!(a == b)), by simp [eqGuard, binOp, he], rep_bool, by simpa using h⟩

theorem eqpn_sound (hi : Inv G φ bl H w) {n : Bool} {x : AV} {u : Value} {K : AV → Prop} (hx : Rep φ bl x u) (h : eqpnP H n x K) {t e : TypeId} (ht : P.underlying t = some (.pointer e)) (X Y : Operand) {op : BinOp} (ho : op = .eql ∧ n = false ∨ op = .neq ∧ n = true) :
    Gives P φ bl (do eqGuard op t X Y u (.pointer none); binOp op t u (.pointer none)) w K := by
  have ht' : P.underlying t = some (.pointer (P.pointee t)) := by simp [Program.pointee, ht]
  have key : ∀ p : Option Addr, K (.bool (p.isNone != n)) → Gives P φ bl (do eqGuard op t X Y (.pointer p) (.pointer none); binOp op t (.pointer p) (.pointer none)) w K := by
    intro p hK
    rcases ho with ⟨rfl, rfl⟩ | ⟨rfl, rfl⟩
    · exact ⟨.bool p.isNone, .bool p.isNone, by simp [eqGuard, run_eql_pointer_nil w t p ht'], rep_bool, by simpa using hK⟩
    · exact ⟨.bool (!p.isNone), .bool (!p.isNone), by simp [eqGuard, run_neq_pointer_nil w t p ht'], rep_bool, by simpa using hK⟩
  cases x <;> simp only [eqpnP] at h
  case nilp =>
    simp only [Rep] at hx
    subst hx
    exact key none (by simpa using h)
  case ptr cs o =>
    simp only [Rep] at hx
    obtain ⟨b, o', rfl, _⟩ := hx
    exact key (some _) (by simpa using h)
  case own i o =>
    obtain ⟨hK, t', es, l, cs, hl⟩ := live h
    obtain ⟨b, m, cur, _, rfl, _⟩ := own_rep hi hx hl
    exact key (some _) (by simpa using hK)

theorem eqsn_sound (hi : Inv G φ bl H w) {n : Bool} {x : AV} {u : Value} {K : AV → Prop} (hx : Rep φ bl x u) (h : eqsnP H n x K) {t e : TypeId} (ht : P.underlying t = some (.slice e)) (X Y : Operand) {op : BinOp} (ho : op = .eql ∧ n = false ∨ op = .neq ∧ n = true) :
    Gives P φ bl (do eqGuard op t X Y u (.slice none 0 0); binOp op t u (.slice none 0 0)) w K := by
  have key : ∀ (p : Option Addr) (l c : Nat), K (.bool (p.isNone != n)) → Gives P φ bl (do eqGuard op t X Y (.slice p l c) (.slice none 0 0); binOp op t (.slice p l c) (.slice none 0 0)) w K := by
    intro p l c hK
    have he : (Op.equal t (.slice p l c) (.slice none 0 0)).run P w = .ok p.isNone w := equalIn_slnil ht 9999 p l c w
    rcases ho with ⟨rfl, rfl⟩ | ⟨rfl, rfl⟩
    · exact ⟨.bool p.isNone, .bool p.isNone, by simp [eqGuard, binOp, he], rep_bool, by simpa using hK⟩
    · exact ⟨.bool (!p.isNone), .bool (!p.isNone), by simp [eqGuard, binOp, he], rep_bool, by simpa using hK⟩
  cases x <;> simp only [eqsnP] at h
  case nils =>
    simp only [Rep] at hx
    subst hx
    exact key none 0 0 (by simpa using h)
  case sl len cs =>
    simp only [Rep] at hx
    rcases hx with ⟨_, h0, _⟩ | ⟨b, o', cap, rfl, _⟩
    · omega
    · exact key (some _) _ _ (by simpa using h.2)
  case osl i o len =>
    obtain ⟨⟨h0, hK⟩, t', es, l, cs, hl⟩ := live h
    simp only [Rep] at hx
    have hob := hi.obj i _ hl
    simp only [ObjOK] at hob
    rcases hob with ⟨h1, _⟩ | ⟨b, m, cur, h1, _⟩
    · simp [h1] at hx; omega
    · simp [h1] at hx
      obtain ⟨cap, rfl, _⟩ := hx
      exact key (some _) _ _ (by simpa using hK)

theorem conv_sound {k : IntKind} {x : AV} {u : Value} {K : AV → Prop} (hx : Rep φ bl x u) (h : convP k x K) {src dst : TypeId} {k0 : IntKind} (hs : P.underlying src = some (.int k0)) (hd : P.underlying dst = some (.int k)) :
    Gives P φ bl (convert src dst u) w K := by
  cases x <;> simp only [convP] at h
  simp only [Rep] at hx
  subst hx
  exact ⟨.int _ _, .int _ _, by simp [convert, run_underlying hs, run_underlying hd, Conv.intToInt], rep_int, h⟩

theorem nilck_sound (hi : Inv G φ bl H w) {x : AV} {u : Value} {K : AV → Prop} (hx : Rep φ bl x u) (h : nilckP H x K) : ∃ r p, u = .pointer (some p) ∧ Rep φ bl r u ∧ K r := by
  cases x <;> simp only [nilckP] at h
  case ptr cs o =>
    have hx' := hx
    simp only [Rep] at hx
    obtain ⟨b, o', rfl, _⟩ := hx
    exact ⟨_, _, rfl, hx', h⟩
  case own i o =>
    obtain ⟨hK, t', es, l, cs, hl⟩ := live h
    obtain ⟨b, m, cur, _, rfl, _⟩ := own_rep hi hx hl
    exact ⟨_, _, rfl, hx, hK⟩

theorem fld_sound (hi : Inv G φ bl H w) {x : AV} {u : Value} {K : AV → Prop} {s : TypeId} {fields : Array Field} {i sz : Nat} {f : Field} (hs : P.underlying s = some (.struct fields)) (hf : fields[i]? = some f) (hz : szOf P f.type = some sz) (h0 : sz ≠ 0)
    (hx : Rep φ bl x u) (h : fldP H f.offset x K) : Gives P φ bl (Instr.fieldAt s u i) w K := by
  have key : ∀ b o, (Instr.fieldAt s (.pointer (some ⟨b, o, none⟩)) i).run P w = .ok (.pointer (some ⟨b, o + f.offset, none⟩)) w := by
    intro b o
    simp [Instr.fieldAt, run_underlying hs, hf, Instr.sureAddr, fieldPlace, run_szOf hz, h0, addr_add]
  cases x <;> simp only [fldP] at h
  case ptr cs o =>
    simp only [Rep] at hx
    obtain ⟨b, o', rfl, hr⟩ := hx
    refine ⟨_, _, key b _, ?_, h⟩
    simp only [Rep]
    exact ⟨b, o', by rw [Nat.add_assoc], hr⟩
  case own j o =>
    obtain ⟨hK, t', es, l, cs, hl⟩ := live h
    obtain ⟨b, m, cur, hb, rfl, _⟩ := own_rep hi hx hl
    refine ⟨_, _, key b _, ?_, hK⟩
    simp [Rep, hb]

theorem idxA_sound (hi : Inv G φ bl H w) {x y : AV} {u v : Value} {K : AV → Prop} {t e : TypeId} {sz : Nat} (ht : P.underlying t = some (.slice e)) (hz : szOf P e = some sz)
    (hx : Rep φ bl x u) (hy : Rep φ bl y v) (h : idxAP H sz x y K) : Gives P φ bl (Instr.indexAt t u v) w K := by
  have key : ∀ (b o len cap : Nat) (k : IntKind) (n : Int), 0 ≤ n → n < (len : Int) → (Instr.indexAt t (.slice (some ⟨b, o, none⟩) len cap) (.int k n)).run P w = .ok (.pointer (some ⟨b, o + n.toNat * sz, none⟩)) w := by
    intro b o len cap k n h0 h1
    simp [Instr.indexAt, run_underlying ht, asIntOf, h0, h1, run_szOf hz, addr_add]
  cases x <;> cases y <;> simp only [idxAP] at h
  case sl.int len cs k n =>
    obtain ⟨⟨h0, h1⟩, hK⟩ := h
    simp only [Rep] at hx hy
    subst hy
    rcases hx with ⟨_, h2, _⟩ | ⟨b, o, cap, rfl, _, _, hr⟩
    · omega
    · refine ⟨_, _, key b o len cap k n h0 h1, ?_, hK⟩
      simp only [Rep]
      exact ⟨b, o, rfl, hr⟩
  case osl.int j o len k n =>
    obtain ⟨⟨⟨h0, h1⟩, hK⟩, t', es, l, cs, hl⟩ := live h
    simp only [Rep] at hx hy
    subst hy
    have hob := hi.obj j _ hl
    simp only [ObjOK] at hob
    rcases hob with ⟨h2, _⟩ | ⟨b, m, cur, h2, _⟩
    · simp [h2] at hx; omega
    · simp [h2] at hx
      obtain ⟨cap, rfl, _⟩ := hx
      refine ⟨_, _, key b o len cap k n h0 h1, ?_, hK⟩
      simp [Rep, h2]

theorem idxP_sound (hi : Inv G φ bl H w) {x y : AV} {u v : Value} {K : AV → Prop} {t e : TypeId} {m sz : Nat} (ht : P.underlying t = some (.array m e)) (hm : ¬ m ≤ 1) (hz : szOf P e = some sz)
    (hx : Rep φ bl x u) (hy : Rep φ bl y v) (h : idxPP H m sz x y K) : Gives P φ bl (Instr.indexAt t u v) w K := by
  have key : ∀ (b o : Nat) (k : IntKind) (n : Int), 0 ≤ n → n < (m : Int) → (Instr.indexAt t (.pointer (some ⟨b, o, none⟩)) (.int k n)).run P w = .ok (.pointer (some ⟨b, o + n.toNat * sz, none⟩)) w := by
    intro b o k n h0 h1
    simp [Instr.indexAt, run_underlying ht, asIntOf, h0, h1, run_szOf hz, addr_add, Instr.sureAddr]
  cases x <;> cases y <;> simp only [idxPP] at h
  case ptr.int cs o k n =>
    obtain ⟨⟨h0, h1⟩, hK⟩ := h
    simp only [Rep] at hx hy
    subst hy
    obtain ⟨b, o', rfl, hr⟩ := hx
    refine ⟨_, _, key b _ k n h0 h1, ?_, hK⟩
    simp only [Rep]
    exact ⟨b, o', by rw [Nat.add_assoc], hr⟩
  case own.int j o k n =>
    obtain ⟨⟨⟨h0, h1⟩, hK⟩, t', es, l, cs, hl⟩ := live h
    obtain ⟨b, m', cur, hb, rfl, _⟩ := own_rep hi hx hl
    simp only [Rep] at hy
    subst hy
    refine ⟨_, _, key b o k n h0 h1, ?_, hK⟩
    simp [Rep, hb]

theorem idxS_sound {x y : AV} {u v : Value} {K : AV → Prop} {t : TypeId} (ht : P.underlying t = some .string)
    (hx : Rep φ bl x u) (hy : Rep φ bl y v) (h : idxSP x y K) : Gives P φ bl (Instr.index t u v) w K := by
  cases x <;> cases y <;> simp only [idxSP] at h
  case str.int s k n =>
    obtain ⟨⟨h0, h1⟩, hK⟩ := h
    simp only [Rep] at hx hy
    subst hx hy
    obtain ⟨m, rfl⟩ := Int.eq_ofNat_of_zero_le h0
    have hm : m < s.length := by omega
    refine ⟨.int _ _, .int .u8 ((s[m]'hm).toNat : Int), ?_, rep_int, ?_⟩
    · have : (⟨s.toArray⟩ : ByteArray)[m]? = some s[m] := by
        rw [getElem?_pos _ m (show m < s.toArray.size by simpa using hm)]
        rfl
      simp [Instr.index, run_underlying ht, asIntOf, this]
    · simpa [List.getD_eq_getElem?_getD, List.getElem?_eq_getElem hm] using hK

theorem len_sound (hi : Inv G φ bl H w) {x : AV} {u : Value} {K : AV → Prop} {t ty e : TypeId} (he : P.underlying t = some (.slice e))
    (hx : Rep φ bl x u) (h : lenP H x K) : Gives P φ bl (Builtin.len_ #[t] ty #[u]) w K := by
  have key : ∀ p l c, (Builtin.len_ #[t] ty #[.slice p l c]).run P w = .ok (.int .i64 l) w := by
    intro p l c
    simp [Builtin.len_, run_underlying he, goInt]
  cases x <;> simp only [lenP] at h
  case nils =>
    simp only [Rep] at hx
    subst hx
    exact ⟨.int _ _, _, key _ _ _, rep_int, h⟩
  case sl len cs =>
    simp only [Rep] at hx
    rcases hx with ⟨rfl, rfl, _⟩ | ⟨b, o, cap, rfl, h1, h2, _⟩
    · exact ⟨.int _ _, _, key _ _ _, rep_int, h (by omega)⟩
    · exact ⟨.int _ _, _, key _ _ _, rep_int, h (by unfold maxLen at h2; omega)⟩
  case osl j o len =>
    obtain ⟨hK, t', es, l, cs, hl⟩ := live h
    simp only [Rep] at hx
    have hob := hi.obj j _ hl
    simp only [ObjOK] at hob
    rcases hob with ⟨h2, _⟩ | ⟨b, m, cur, h2, _⟩
    · simp [h2] at hx
      obtain ⟨rfl, rfl, _⟩ := hx
      exact ⟨.int _ _, _, key _ _ _, rep_int, hK (by omega)⟩
    · simp [h2] at hx
      obtain ⟨cap, rfl, h3, h4, _⟩ := hx
      exact ⟨.int _ _, _, key _ _ _, rep_int, hK (by unfold maxLen at h4; omega)⟩

theorem lenS_sound {x : AV} {u : Value} {K : AV → Prop} {t ty : TypeId} (he : P.underlying t = some .string)
    (hx : Rep φ bl x u) (h : lenSP x K) : Gives P φ bl (Builtin.len_ #[t] ty #[u]) w K := by
  cases x <;> simp only [lenSP] at h
  simp only [Rep] at hx
  subst hx
  rename_i l
  have hk : (Builtin.len_ #[t] ty #[.string ⟨l.toArray⟩]).run P w = .ok (goInt (⟨l.toArray⟩ : ByteArray).size) w := by simp [Builtin.len_, run_underlying he]
  exact ⟨.int .i64 l.length, goInt (⟨l.toArray⟩ : ByteArray).size, hk, rep_int, h⟩

end Go.Avm
/- The operations of the abstract machine are those of the model: loads, slices, what is built. -/
set_option linter.unusedSimpArgs false
set_option linter.unusedVariables false
namespace Go.Avm
open Go
variable {P : Program} {G : Glob} {φ : Phi} {bl : Nat → BL} {H : List AObj} {w : World}

theorem pick_sound {c a b : AV} {u v x : Value} {K : AV → Prop} (hc : Rep φ bl c x) (ha : Rep φ bl a u) (hb : Rep φ bl b v) (h : pickP c a b K) :
    Gives P φ bl (do pure (if ← asBool x then u else v)) w K := by
  cases c <;> simp only [pickP] at h
  rename_i t
  simp only [Rep] at hc
  subst hc
  cases t
  · exact ⟨b, v, by simp [asBool], hb, by simpa using h⟩
  · exact ⟨a, u, by simp [asBool], ha, by simpa using h⟩

theorem ext_sound {x : AV} {u : Value} {i : Nat} {K : AV → Prop} (hx : Rep φ bl x u) (h : extP x i K) : Gives P φ bl (Instr.extract u i) w K := by
  cases x <;> simp only [extP] at h
  rename_i vs
  simp only [Rep] at hx
  obtain ⟨us, rfl, hr⟩ := hx
  obtain ⟨v, hv, hrv⟩ := hr.get h.1
  exact ⟨_, v, by simp [Instr.extract, hv], hrv, h.2⟩

theorem max_sound {x y : AV} {u v : Value} {K : AV → Prop} (hx : Rep φ bl x u) (hy : Rep φ bl y v) (h : maxP x y K) (ts : Array TypeId) (t : TypeId) : Gives P φ bl (Builtin.max_ ts t #[u, v]) w K := by
  cases x <;> cases y <;> simp only [maxP] at h
  rename_i k a k' b
  simp only [Rep] at hx hy
  subst hx hy
  exact ⟨.int k _, .int k (if b > a then b else a), by simp [Builtin.max_, Builtin.max2], rep_int, h⟩

theorem min_sound {x y : AV} {u v : Value} {K : AV → Prop} (hx : Rep φ bl x u) (hy : Rep φ bl y v) (h : minP x y K) (ts : Array TypeId) (t : TypeId) : Gives P φ bl (Builtin.min_ ts t #[u, v]) w K := by
  cases x <;> cases y <;> simp only [minP] at h
  rename_i k a k' b
  simp only [Rep] at hx hy
  subst hx hy
  exact ⟨.int k _, .int k (if b < a then b else a), by simp [Builtin.min_, Builtin.min2], rep_int, h⟩

/-! ### Loads -/
theorem RepRow.vals : ∀ {cs : List AV} {b o : Nat}, RepRow φ cs b o → ∃ vs : List Value, RepL φ nob cs vs ∧ ∀ (j : Nat) v, vs[j]? = some v → φ b (o + j) = some v
  | [], _, _, _ => ⟨[], by simp only [RepL], by simp⟩
  | c :: cs, b, o, h => by
    simp only [RepRow] at h
    obtain ⟨⟨u, hu, hr⟩, hrest⟩ := h
    obtain ⟨vs, hv, hf⟩ := RepRow.vals hrest
    refine ⟨u :: vs, ?_, fun j v hj => ?_⟩
    · simp only [RepL]
      exact ⟨u, vs, rfl, hr, hv⟩
    · cases j with
      | zero => simp at hj; subst hj; exact hu
      | succ j => rw [show o + (j + 1) = o + 1 + j from by omega]; exact hf j v (by simpa using hj)

/-- A row of cells that lies in memory, whoever it belongs to. -/
theorem loadC_sound {q : Option Nat} {cs : List AV} {b base o : Nat} {K : AV → Prop} {t : TypeId} {vs : List Value} (hr : RepL φ bl cs vs) (hc : ∀ (j : Nat) v, vs[j]? = some v → w.cell? ⟨b, base + j, none⟩ = some v)
    (hq : match q with | none => isAggT P t = some false | some m => isAggT P t = some true ∧ szOf P t = some m) (h : loadC q cs o K) :
    Gives P φ bl (Instr.loadAt t (.pointer (some ⟨b, base + o, none⟩))) w K := by
  cases q with
  | none =>
    simp only [loadC] at h
    obtain ⟨v, hv, hrv⟩ := hr.get h.1
    have := hc o v hv
    exact ⟨_, v, by simp [Instr.loadAt, Instr.sureAddr, loadVar, isAgg_run hq, this], hrv, h.2⟩
  | some m =>
    simp only [loadC] at h
    obtain ⟨hle, hK⟩ := h
    have hl := hr.length
    have hsub : RepL φ bl ((cs.drop o).take m) ((vs.drop o).take m) := (hr.drop o).take m
    have hlen : ((vs.drop o).take m).length = m := by simp; omega
    have hcells := run_loadCells_list (P := P) w ⟨b, base + o, none⟩ ((vs.drop o).take m) (fun j v hj => by
      rw [addr_add, Nat.add_assoc]
      rw [List.getElem?_take] at hj
      split at hj
      · rw [List.getElem?_drop] at hj
        exact hc _ v hj
      · simp at hj)
    rw [hlen] at hcells
    refine ⟨.agg _, .agg ((vs.drop o).take m).toArray, ?_, ?_, hK⟩
    · simp [Instr.loadAt, Instr.sureAddr, loadVar, isAgg_run hq.1, run_szOf hq.2, hcells]
    · simp only [Rep]
      exact ⟨_, rfl, hsub⟩

theorem load_sound (hi : Inv G φ bl H w) {q : Option Nat} {x : AV} {u : Value} {K : AV → Prop} {t : TypeId}
    (hq : match q with | none => isAggT P t = some false | some m => isAggT P t = some true ∧ szOf P t = some m) (hx : Rep φ bl x u) (h : loadP H q x K) :
    Gives P φ bl (Instr.loadAt t u) w K := by
  cases x <;> simp only [loadP] at h
  case ptr cs o =>
    simp only [Rep] at hx
    obtain ⟨b, o', rfl, hr⟩ := hx
    obtain ⟨vs, hv, hf⟩ := hr.vals
    exact loadC_sound hv.up (fun j v hj => hi.fr _ _ _ (hf j v hj)) hq h
  case own i o =>
    cases ho : H[i]? with
    | none => simp [List.getD_eq_getElem?_getD, ho, loadO] at h
    | some ob =>
      cases ob with
      | dead => simp [List.getD_eq_getElem?_getD, ho, loadO] at h
      | mp _ _ => simp [List.getD_eq_getElem?_getD, ho, loadO] at h
      | arr t' es l cs =>
        simp [List.getD_eq_getElem?_getD, ho, loadO] at h
        obtain ⟨b, n, cur, hb, rfl, hheap, hsz, hle, hrep, _⟩ := own_rep hi hx ho
        have := loadC_sound (P := P) (b := b) (base := 0) (o := o) (t := t) (q := q) (K := K) hrep (fun j v hj => by
          rw [Nat.zero_add, cell_of_row w b j cur t' (0, 0) hheap]
          rw [List.getElem?_take] at hj
          split at hj
          · simpa using hj
          · simp at hj) hq h
        simpa using this

/-! ### Slicing -/
theorem bd_sound {d : Int} {x : Option AV} {K : Int → Prop} {v : Option Value} (hx : match x, v with | none, none => True | some y, some u => Rep φ bl y u | _, _ => False) (h : bdP d x K) :
    ∃ n, K n ∧ ((v = none ∧ n = d) ∨ ∃ k, v = some (.int k n)) := by
  cases x with
  | none =>
    cases v with
    | none => exact ⟨d, by simpa [bdP] using h, .inl ⟨rfl, rfl⟩⟩
    | some u => simp at hx
  | some y =>
    cases v with
    | none => simp at hx
    | some u =>
      cases y <;> simp only [bdP] at h
      simp only [Rep] at hx
      subst hx
      exact ⟨_, h, .inr ⟨_, rfl⟩⟩

theorem run_sl {t e : TypeId} {sz : Nat} (ht : P.underlying t = some (.slice e)) (hz : szOf P e = some sz) (A : Option Addr) (len cap : Nat) {lo hi : Option Value} {l h : Int}
    (hl : (lo = none ∧ l = 0) ∨ ∃ k, lo = some (.int k l)) (hh : (hi = none ∧ h = len) ∨ ∃ k, hi = some (.int k h)) (h0 : 0 ≤ l) (h1 : l ≤ h) (h2 : h ≤ len) (h3 : len ≤ cap) (w : World) :
    (Instr.sliceAt t (.slice A len cap) lo hi none).run P w = .ok (.slice (if cap = l.toNat then A else A.map (·.add (l.toNat * sz))) (h.toNat - l.toNat) (cap - l.toNat)) w := by
  obtain ⟨a, rfl⟩ := Int.eq_ofNat_of_zero_le h0
  obtain ⟨b, rfl⟩ := Int.eq_ofNat_of_zero_le (show 0 ≤ h by omega)
  have e1 : ((b : Int) ≤ (cap : Int)) := by omega
  have e2 : ((a : Int) ≤ (b : Int)) := by omega
  have e3 : b ≤ cap := by omega
  have e4 : a ≤ b := by omega
  rcases hl with ⟨rfl, hl⟩ | ⟨k, rfl⟩ <;> rcases hh with ⟨rfl, hh⟩ | ⟨k', rfl⟩ <;>
    simp [Instr.sliceAt, run_underlying ht, Instr.slice, Instr.sliceBounds, Instr.sliceBound, asIntOf, run_szOf hz, e1, e2, e3, e4]
  · have : a = 0 := by omega
    have hb : b = len := by omega
    subst this hb
    simp
  · have : a = 0 := by omega
    subst this
    simp
  · have hb : b = len := by omega
    subst hb
    simp [e4]

theorem slc_sound (hi : Inv G φ bl H w) {t e : TypeId} {sz : Nat} (ht : P.underlying t = some (.slice e)) (hz : szOf P e = some sz) {x : AV} {u : Value} {lo hi' : Option AV} {vl vh : Option Value} {K : AV → Prop}
    (hx : Rep φ bl x u) (hlo : match lo, vl with | none, none => True | some y, some u => Rep φ bl y u | _, _ => False) (hhi : match hi', vh with | none, none => True | some y, some u => Rep φ bl y u | _, _ => False)
    (h : slcP H sz x lo hi' K) : Gives P φ bl (Instr.sliceAt t u vl vh none) w K := by
  cases x <;> simp only [slcP] at h
  case nils =>
    simp only [Rep] at hx
    subst hx
    obtain ⟨l, h, hl⟩ := bd_sound hlo h
    obtain ⟨r, h, hh⟩ := bd_sound hhi h
    obtain ⟨⟨rfl, rfl⟩, hK⟩ := h
    refine ⟨.nils, _, run_sl (l := 0) (h := 0) ht hz none 0 0 hl (by simpa using hh) (by omega) (by omega) (by simp) (by omega) w, ?_, hK⟩
    simp [Rep]
  case sl len cs =>
    obtain ⟨l, h, hl⟩ := bd_sound hlo h
    obtain ⟨r, h, hh⟩ := bd_sound hhi h
    obtain ⟨⟨h0, h1, h2, h3⟩, hK⟩ := h
    simp only [Rep] at hx
    obtain ⟨l', rfl⟩ := Int.eq_ofNat_of_zero_le h0
    obtain ⟨r', rfl⟩ := Int.eq_ofNat_of_zero_le (show 0 ≤ r by omega)
    rcases hx with ⟨rfl, rfl, rfl⟩ | ⟨b, o, cap, rfl, hc, hm, hr⟩
    · have hr0 : r' = 0 := by omega
      have hl0 : l' = 0 := by omega
      subst hr0 hl0
      refine ⟨_, _, run_sl ht hz none 0 0 hl hh (by omega) (by omega) (by simp) (by omega) w, ?_, hK⟩
      simp [Rep]
    · refine ⟨_, _, run_sl ht hz (some ⟨b, o, none⟩) len cap hl hh (by omega) h1 h2 hc w, ?_, hK⟩
      have hsub := hr.sub (l' * sz) ((r' - l') * sz)
      have e : ((r' : Int) - (l' : Int)).toNat = r' - l' := by omega
      rw [e]
      simp only [Int.toNat_natCast, Rep]
      by_cases hcl : cap = l'
      · have hrl : r' = l' := by omega
        have hz0 : (r' - l') * sz = 0 := by rw [hrl]; simp
        rw [if_pos hcl]
        refine .inr ⟨b, o, cap - l', rfl, by omega, by omega, ?_⟩
        rw [hz0]
        simp [RepRow]
      · rw [if_neg hcl]
        refine .inr ⟨b, o + l' * sz, cap - l', by simp [addr_add], by omega, by omega, hsub⟩
  case osl id off len =>
    obtain ⟨l, h, hl⟩ := bd_sound hlo h
    obtain ⟨r, h, hh⟩ := bd_sound hhi h
    cases ho : H[id]? with
    | none => simp [List.getD_eq_getElem?_getD, ho, slcO] at h
    | some ob =>
      cases ob with
      | dead => simp [List.getD_eq_getElem?_getD, ho, slcO] at h
      | mp _ _ => simp [List.getD_eq_getElem?_getD, ho, slcO] at h
      | arr t' es lent cs =>
        simp [List.getD_eq_getElem?_getD, ho, slcO] at h
        obtain ⟨⟨rfl, h0, h1, h2⟩, hK0, hK1⟩ := h
        obtain ⟨l', rfl⟩ := Int.eq_ofNat_of_zero_le h0
        obtain ⟨r', rfl⟩ := Int.eq_ofNat_of_zero_le (show 0 ≤ r by omega)
        have e : ((r' : Int) - (l' : Int)).toNat = r' - l' := by omega
        simp only [Rep] at hx
        have hob := hi.obj id _ ho
        simp only [ObjOK] at hob
        rcases hob with ⟨hb, _⟩ | ⟨b, n, cur, hb, _⟩
        · simp [hb] at hx
          obtain ⟨rfl, rfl, rfl⟩ := hx
          have hr0 : r' = 0 := by omega
          have hl0 : l' = 0 := by omega
          subst hr0 hl0
          refine ⟨_, _, run_sl ht hz none 0 0 hl hh (by omega) (by omega) (by simp) (by omega) w, ?_, hK0 rfl⟩
          simp [Rep]
        · simp [hb] at hx
          obtain ⟨cap, rfl, hc, hm, hcap⟩ := hx
          have hrun := run_sl ht hz (some ⟨b, off, none⟩) len cap hl hh (by omega) h1 h2 hc w
          by_cases hlr : l' = r'
          · refine ⟨.sl 0 [], _, hrun, ?_, hK0 (by omega)⟩
            subst hlr
            simp only [Int.toNat_natCast, Rep, Nat.sub_self]
            by_cases hcl : cap = l'
            · rw [if_pos hcl]
              exact .inr ⟨b, off, cap - l', rfl, by omega, by omega, by simp [RepRow]⟩
            · rw [if_neg hcl]
              exact .inr ⟨b, off + l' * es, cap - l', by simp [addr_add], by omega, by omega, by simp [RepRow]⟩
          · refine ⟨.osl id (off + l' * es) (r' - l'), _, hrun, ?_, by have := hK1 (by omega); rwa [e] at this⟩
            simp only [Int.toNat_natCast, Rep, hb]
            rw [if_neg (by omega)]
            refine ⟨cap - l', by simp [addr_add], by omega, by omega, ?_⟩
            have : l' * es + (cap - l') * es = cap * es := by rw [← Nat.add_mul]; congr 1; omega
            omega

theorem slcS_sound {t : TypeId} (ht : P.underlying t = some .string) {x : AV} {u : Value} {lo hi' : Option AV} {vl vh : Option Value} {K : AV → Prop}
    (hx : Rep φ bl x u) (hlo : match lo, vl with | none, none => True | some y, some u => Rep φ bl y u | _, _ => False) (hhi : match hi', vh with | none, none => True | some y, some u => Rep φ bl y u | _, _ => False)
    (h : slcSP x lo hi' K) : Gives P φ bl (Instr.sliceAt t u vl vh none) w K := by
  cases x <;> simp only [slcSP] at h
  case str s =>
    simp only [Rep] at hx
    subst hx
    obtain ⟨l, h, hl⟩ := bd_sound hlo h
    obtain ⟨r, h, hh⟩ := bd_sound hhi h
    obtain ⟨⟨h0, h1, h2⟩, hK⟩ := h
    obtain ⟨l', rfl⟩ := Int.eq_ofNat_of_zero_le h0
    obtain ⟨r', rfl⟩ := Int.eq_ofNat_of_zero_le (show 0 ≤ r by omega)
    have hs : (⟨s.toArray⟩ : ByteArray).size = s.length := rfl
    have e1 : r' ≤ s.length := by omega
    have e2 : l' ≤ r' := by omega
    have key : (Instr.sliceAt t (.string ⟨s.toArray⟩) vl vh none).run P w = .ok (.string ((⟨s.toArray⟩ : ByteArray).extract l' r')) w := by
      rcases hl with ⟨rfl, hl⟩ | ⟨k, rfl⟩ <;> rcases hh with ⟨rfl, hh⟩ | ⟨k', rfl⟩ <;>
        simp [Instr.sliceAt, run_underlying ht, Instr.slice, Instr.sliceBounds, Instr.sliceBound, asIntOf, hs, e1, e2]
      · have : l' = 0 := by omega
        have hb : r' = s.length := by omega
        subst this hb
        simp [ByteArray.ext_iff, ← Array.toList_inj]
      · have : l' = 0 := by omega
        subst this
        rfl
      · have hb : r' = s.length := by omega
        subst hb
        simp [e2, hs]
    refine ⟨.str _, _, key, ?_, hK⟩
    have e : ((r' : Int) - (l' : Int)).toNat = r' - l' := by omega
    simp only [Rep, e, Int.toNat_natCast]
    congr 1
    simp [ByteArray.ext_iff, List.extract_eq_take_drop]

end Go.Avm
/- The operations of the abstract machine are those of the model: what is kept where memory is made and written. -/
set_option linter.unusedSimpArgs false
set_option linter.unusedVariables false
namespace Go.Avm
open Go
variable {P : Program} {G : Glob} {φ : Phi} {bl : Nat → BL} {H : List AObj} {w : World}

/-! ### Names fall away -/
mutual
theorem Rep.kill {φ φ' : Phi} {bl bl' : Nat → BL} {i : Nat} (hp : φ.le φ') (hb : ∀ j, j ≠ i → bl j = .unused ∨ bl' j = bl j) : ∀ (x : AV) (v : Value), Rep φ bl x v → Rep φ' bl' (kill i x) v
  | .int _ _, _, h => by simpa only [Avm.kill, Rep] using h
  | .bool _, _, h => by simpa only [Avm.kill, Rep] using h
  | .str _, _, h => by simpa only [Avm.kill, Rep] using h
  | .nilp, _, h => by simpa only [Avm.kill, Rep] using h
  | .nils, _, h => by simpa only [Avm.kill, Rep] using h
  | .raw _, _, h => by simpa only [Avm.kill, Rep] using h
  | .mref j, _, h => by
    simp only [Avm.kill]
    split
    · simp only [Rep]
    · rename_i hj
      simp only [Rep] at h ⊢
      rcases hb j hj with e | e
      · simp [e] at h
      · rw [e]; exact h
  | .junk, _, h => by simp only [Avm.kill, Rep]
  | .ptr cs _, _, h => by
    simp only [Avm.kill, Rep] at h ⊢
    obtain ⟨b, o, e, hr⟩ := h
    exact ⟨b, o, e, hr.mono hp⟩
  | .sl _ cs, _, h => by
    simp only [Avm.kill, Rep] at h ⊢
    rcases h with h | ⟨b, o, cap, e, h1, h2, hr⟩
    · exact .inl h
    · exact .inr ⟨b, o, cap, e, h1, h2, hr.mono hp⟩
  | .own j _, _, h => by
    simp only [Avm.kill]
    split
    · simp only [Rep]
    · rename_i hj
      simp only [Rep] at h ⊢
      rcases hb j hj with e | e
      · simp [e] at h
      · rw [e]; exact h
  | .osl j _ _, _, h => by
    simp only [Avm.kill]
    split
    · simp only [Rep]
    · rename_i hj
      simp only [Rep] at h ⊢
      rcases hb j hj with e | e
      · simp [e] at h
      · rw [e]; exact h
  | .agg cs, _, h => by
    simp only [Avm.kill, Rep] at h ⊢
    obtain ⟨vs, e, hr⟩ := h
    exact ⟨vs, e, RepL.kill hp hb cs vs hr⟩
  | .tup cs, _, h => by
    simp only [Avm.kill, Rep] at h ⊢
    obtain ⟨vs, e, hr⟩ := h
    exact ⟨vs, e, RepL.kill hp hb cs vs hr⟩
  | .fn _ cs, _, h => by
    simp only [Avm.kill, Rep] at h ⊢
    obtain ⟨vs, e, hr⟩ := h
    exact ⟨vs, e, RepL.kill hp hb cs vs hr⟩
theorem RepL.kill {φ φ' : Phi} {bl bl' : Nat → BL} {i : Nat} (hp : φ.le φ') (hb : ∀ j, j ≠ i → bl j = .unused ∨ bl' j = bl j) : ∀ (cs : List AV) (vs : List Value), RepL φ bl cs vs → RepL φ' bl' (killL i cs) vs
  | [], _, h => by simpa only [killL, RepL] using h
  | c :: cs, _, h => by
    simp only [killL, RepL] at h ⊢
    obtain ⟨u, us, e, hr, hrest⟩ := h
    exact ⟨u, us, e, Rep.kill hp hb c u hr, RepL.kill hp hb cs us hrest⟩
end

theorem killL_length (i : Nat) : ∀ cs : List AV, (killL i cs).length = cs.length
  | [] => rfl
  | c :: cs => by simp [killL, killL_length i cs]

mutual
theorem kill_frz (i : Nat) : ∀ x : AV, Frz x → kill i x = x
  | .int _ _, _ => rfl
  | .bool _, _ => rfl
  | .str _, _ => rfl
  | .nilp, _ => rfl
  | .ptr _ _, _ => rfl
  | .nils, _ => rfl
  | .sl _ _, _ => rfl
  | .own _ _, h => by simp only [Frz] at h
  | .osl _ _ _, h => by simp only [Frz] at h
  | .agg cs, h => by simp only [Frz] at h; simp only [kill, killL_frz i cs h]
  | .tup cs, h => by simp only [Frz] at h; simp only [kill, killL_frz i cs h]
  | .fn _ cs, h => by simp only [Frz] at h; simp only [kill, killL_frz i cs h]
  | .raw _, _ => rfl
  | .mref _, h => by simp only [Frz] at h
  | .junk, _ => rfl
theorem killL_frz (i : Nat) : ∀ cs : List AV, FrzL cs → killL i cs = cs
  | [], _ => rfl
  | c :: cs, h => by simp only [FrzL] at h; simp only [killL, kill_frz i c h.1, killL_frz i cs h.2]
end

/-! ### Where objects lie -/
def updB (bl : Nat → BL) (i : Nat) (b : BL) : Nat → BL := fun j => if j = i then b else bl j

theorem updB_same (bl : Nat → BL) (i : Nat) (b : BL) : updB bl i b i = b := by simp [updB]
theorem updB_other (bl : Nat → BL) {i j : Nat} (b : BL) (h : j ≠ i) : updB bl i b j = bl j := by simp [updB, h]

theorem inv_lt (hi : Inv G φ bl H w) {i b n es : Nat} (h : bl i = .blk b n es) : b < w.heap.size := by
  rcases Nat.lt_or_ge i H.length with hl | hl
  · have := hi.obj i _ (List.getElem?_eq_getElem hl)
    generalize H[i] = o at this
    cases o with
    | dead => simp [ObjOK, h] at this
    | mp k es =>
      simp only [ObjOK, h] at this
      obtain ⟨b', ents, clock, h1, h2, _⟩ := this
      injection h1 with h1; subst h1
      exact (Array.getElem?_eq_some_iff.1 h2).1
    | arr t es' l cs =>
      simp only [ObjOK, h] at this
      rcases this with ⟨h1, _⟩ | ⟨b', n', cur, h1, h2, _⟩
      · cases h1
      · injection h1 with h1; subst h1
        exact (Array.getElem?_eq_some_iff.1 h2).1
  · rw [hi.out i hl] at h; cases h

theorem phi_lt (hi : Inv G φ bl H w) {b o : Nat} {u : Value} (h : φ b o = some u) : b < w.heap.size := by
  have := hi.fr b o u h
  exact World.block_lt_of_cell? w _ this

theorem RepM.mono {φ φ' : Phi} (hp : φ.le φ') {k : IntKind} : ∀ {cs : List (Int × AV)} {es : List MapEntry}, RepM φ k cs es → RepM φ' k cs es
  | [], _, h => by simpa only [RepM] using h
  | c :: cs, _, h => by
    simp only [RepM] at h ⊢
    obtain ⟨e, es', h1, h2, h3, h4⟩ := h
    exact ⟨e, es', h1, h2, Rep.mono hp (BLle.refl _) _ _ h3, RepM.mono hp h4⟩

theorem ObjOK.mono {φ φ' : Phi} {bl bl' : Nat → BL} {w w' : World} {id : Nat} {o : AObj} (hp : φ.le φ') (hb : BLle bl bl') (hid : bl' id = bl id)
    (hw : ∀ b n es, bl id = .blk b n es → w'.heap[b]? = w.heap[b]? ∧ φ' b = φ b) (h : ObjOK φ bl w id o) : ObjOK φ' bl' w' id o := by
  cases o with
  | dead => simp only [ObjOK] at h ⊢; rw [hid, h]
  | mp k es =>
    simp only [ObjOK] at h ⊢
    obtain ⟨b, ents, clock, h1, h2, h3, h4⟩ := h
    obtain ⟨e1, e2⟩ := hw b 0 0 h1
    exact ⟨b, ents, clock, hid.trans h1, e1.trans h2, RepM.mono hp h3, fun o => by rw [e2]; exact h4 o⟩
  | arr t es l cs =>
    simp only [ObjOK] at h ⊢
    rcases h with ⟨h1, h2⟩ | ⟨b, n, cur, h1, h2, h3, h4, h5, h6⟩
    · exact .inl ⟨hid.trans h1, h2⟩
    · obtain ⟨e1, e2⟩ := hw b n es h1
      refine .inr ⟨b, n, cur, hid.trans h1, e1.trans h2, h3, h4, ?_, fun q => by rw [e2]; exact h6 q⟩
      split at h5
      · rename_i hl; simp only [hl, if_true]; exact RepL.mono hp (BLle.refl _) _ _ h5
      · rename_i hl; simp only [hl, if_false]; exact RepL.mono hp hb _ _ h5

/-- A new block of the call's own. -/
theorem inv_new (hi : Inv G φ bl H w) {w' : World} {t es : TypeId} {cs : List AV} {cur : Array Value} (hh : w'.heap = w.heap.push (.cells cur t (0, 0))) (ho : w'.os = w.os) (ht : w'.tape = w.tape) (hou : w'.output = w.output)
    (hle : cs.length ≤ cur.size) (hr : RepL φ bl cs (cur.toList.take cs.length)) :
    Inv G φ (updB bl H.length (.blk w.heap.size cur.size es)) (H ++ [.arr t es false cs]) w' ∧ Fr φ bl w φ (updB bl H.length (.blk w.heap.size cur.size es)) w' := by
  have hun := hi.out H.length (Nat.le_refl _)
  have hbl : BLle bl (updB bl H.length (.blk w.heap.size cur.size es)) := fun j => by
    by_cases e : j = H.length
    · subst e; exact .inl hun
    · exact .inr (.inl (updB_other _ _ e))
  have hold : ∀ b, b < w.heap.size → w'.heap[b]? = w.heap[b]? := fun b hb => by rw [hh, Array.getElem?_push, if_neg (by omega)]
  have hnew : w'.heap[w.heap.size]? = some (.cells cur t (0, 0)) := by rw [hh]; simp
  have hsz : w'.heap.size = w.heap.size + 1 := by rw [hh]; simp
  refine ⟨⟨fun b hb => ?_, by rw [hsz]; have := hi.gsz; omega, fun id b n es' hb => ?_, fun b o u hu => ?_, fun id o ho => ?_, fun i j b n m es' fs h1 h2 => ?_, fun id hid => ?_⟩, ⟨ho, ht, hou, by omega, fun b hb _ => ⟨hold b hb, rfl⟩, fun id b n es' hb => ?_, Phi.le_refl _, hbl⟩⟩
  · rw [hold b (Nat.lt_of_lt_of_le hb hi.gsz)]; exact hi.glo b hb
  · by_cases e : id = H.length
    · subst e; rw [updB_same] at hb; injection hb with hb; subst hb; exact hi.gsz
    · rw [updB_other _ _ e] at hb; exact hi.gow id b n es' hb
  · have := hi.fr b o u hu
    rw [← this]
    exact World.cell?_of_block (hold b (phi_lt hi hu))
  · rcases Nat.lt_or_ge id H.length with hl | hl
    · rw [List.getElem?_append_left hl] at ho
      exact (hi.obj id o ho).mono (Phi.le_refl _) hbl (updB_other _ _ (by omega)) (fun b n es' hb => ⟨hold b (inv_lt hi hb), rfl⟩)
    · rw [List.getElem?_append_right hl] at ho
      have hid : id = H.length := by
        rcases Nat.eq_or_lt_of_le hl with e | e
        · exact e.symm
        · rw [List.getElem?_eq_none (by simp; omega)] at ho; cases ho
      subst hid
      simp at ho
      subst ho
      simp only [ObjOK, updB_same]
      refine .inr ⟨w.heap.size, cur.size, cur, rfl, hnew, rfl, hle, ?_, fun q => ?_⟩
      · simp only [Bool.false_eq_true, if_false]
        exact RepL.mono (Phi.le_refl _) hbl _ _ hr
      · simp only [Bool.false_eq_true, false_and, if_false]
        cases hq : φ w.heap.size q with
        | none => rfl
        | some u => exact absurd (phi_lt hi hq) (by omega)
  · by_cases e1 : i = H.length <;> by_cases e2 : j = H.length
    · omega
    · subst e1
      rw [updB_same] at h1
      rw [updB_other _ _ e2] at h2
      injection h1 with h1; subst h1
      exact absurd (inv_lt hi h2) (by omega)
    · subst e2
      rw [updB_same] at h2
      rw [updB_other _ _ e1] at h1
      injection h2 with h2; subst h2
      exact absurd (inv_lt hi h1) (by omega)
    · rw [updB_other _ _ e1] at h1
      rw [updB_other _ _ e2] at h2
      exact hi.inj i j b n m es' fs h1 h2
  · simp at hid
    rw [updB_other _ _ (by omega)]
    exact hi.out id (by omega)
  · by_cases e : id = H.length
    · subst e; rw [updB_same] at hb; injection hb with hb; subst hb; exact .inl (Nat.le_refl _)
    · rw [updB_other _ _ e] at hb; exact .inr ⟨n, es', hb⟩

/-- A nil slice that will grow. -/
theorem inv_nil (hi : Inv G φ bl H w) (t es : TypeId) :
    Inv G φ (updB bl H.length .nil) (H ++ [.arr t es false []]) w ∧ Fr φ bl w φ (updB bl H.length .nil) w := by
  have hun := hi.out H.length (Nat.le_refl _)
  have hbl : BLle bl (updB bl H.length .nil) := fun j => by
    by_cases e : j = H.length
    · subst e; exact .inl hun
    · exact .inr (.inl (updB_other _ _ e))
  refine ⟨⟨hi.glo, hi.gsz, fun id b n es' hb => ?_, hi.fr, fun id o ho => ?_, fun i j b n m es' fs h1 h2 => ?_, fun id hid => ?_⟩, ⟨rfl, rfl, rfl, Nat.le_refl _, fun b hb _ => ⟨rfl, rfl⟩, fun id b n es' hb => ?_, Phi.le_refl _, hbl⟩⟩
  · by_cases e : id = H.length
    · subst e; rw [updB_same] at hb; cases hb
    · rw [updB_other _ _ e] at hb; exact hi.gow id b n es' hb
  · rcases Nat.lt_or_ge id H.length with hl | hl
    · rw [List.getElem?_append_left hl] at ho
      exact (hi.obj id o ho).mono (Phi.le_refl _) hbl (updB_other _ _ (by omega)) (fun b n es' hb => ⟨rfl, rfl⟩)
    · rw [List.getElem?_append_right hl] at ho
      have hid : id = H.length := by
        rcases Nat.eq_or_lt_of_le hl with e | e
        · exact e.symm
        · rw [List.getElem?_eq_none (by simp; omega)] at ho; cases ho
      subst hid
      simp at ho
      subst ho
      simp [ObjOK, updB_same]
  · by_cases e1 : i = H.length
    · subst e1; rw [updB_same] at h1; cases h1
    · by_cases e2 : j = H.length
      · subst e2; rw [updB_same] at h2; cases h2
      · rw [updB_other _ _ e1] at h1
        rw [updB_other _ _ e2] at h2
        exact hi.inj i j b n m es' fs h1 h2
  · simp at hid
    rw [updB_other _ _ (by omega)]
    exact hi.out id (by omega)
  · by_cases e : id = H.length
    · subst e; rw [updB_same] at hb; cases hb
    · rw [updB_other _ _ e] at hb; exact .inr ⟨n, es', hb⟩

/-- An object's cells are written. -/
theorem inv_set (hi : Inv G φ bl H w) {id : Nat} {t es : TypeId} {cs cs' : List AV} (ho : H[id]? = some (.arr t es false cs)) {b n : Nat} {cur cur' : Array Value} (hb : bl id = .blk b n es)
    (hheap : w.heap[b]? = some (.cells cur t (0, 0))) (hs : cur'.size = cur.size) (hl : cs'.length ≤ cur.size) (hr : RepL φ bl cs' (cur'.toList.take cs'.length)) :
    Inv G φ bl (H.set id (.arr t es false cs')) (w.setRow b cur') ∧ Fr φ bl w φ bl (w.setRow b cur') := by
  have hnew := setRow_heap w b cur cur' t (0, 0) hheap
  have hold : ∀ k, k ≠ b → (w.setRow b cur').heap[k]? = w.heap[k]? := fun k hk => setRow_other w b k cur' hk
  have hob := hi.obj id _ ho
  have hphi : ∀ q, φ b q = none := by
    simp only [ObjOK] at hob
    rcases hob with ⟨h1, _⟩ | ⟨b', n', cur0, h1, h2, h3, h4, h5, h6⟩
    · rw [hb] at h1; cases h1
    · rw [hb] at h1; injection h1 with h1; subst h1
      intro q
      simpa using h6 q
  have hn : cur.size = n := by
    simp only [ObjOK] at hob
    rcases hob with ⟨h1, _⟩ | ⟨b', n', cur0, h1, h2, h3, h4, h5, h6⟩
    · rw [hb] at h1; cases h1
    · rw [hb] at h1; injection h1 with h1 h1'; subst h1 h1'
      rw [hheap] at h2; injection h2 with h2; injection h2 with h2; rw [h2]; exact h3
  have hidl : id < H.length := by
    rcases Nat.lt_or_ge id H.length with h | h
    · exact h
    · rw [List.getElem?_eq_none h] at ho; cases ho
  refine ⟨⟨fun k hk => ?_, by rw [setRow_size]; exact hi.gsz, hi.gow, fun k o u hu => ?_, fun k o hk => ?_, hi.inj, fun k hk => hi.out k (by simpa using hk)⟩,
    ⟨rfl, rfl, rfl, by rw [setRow_size]; exact Nat.le_refl _, fun k hk hno => ⟨hold k (fun e => hno id n es (e ▸ hb)), rfl⟩, fun k c m es' hk => .inr ⟨m, es', hk⟩, Phi.le_refl _, BLle.refl _⟩⟩
  · rw [hold k (fun e => by have := hi.gow id b n es hb; omega)]; exact hi.glo k hk
  · rw [← hi.fr k o u hu]
    refine World.cell?_of_block (hold k (fun e => ?_))
    rw [e, hphi] at hu; cases hu
  · rw [List.getElem?_set] at hk
    by_cases e : id = k
    · subst e
      simp [hidl] at hk
      subst hk
      simp only [ObjOK]
      refine .inr ⟨b, n, cur', hb, hnew, hs.trans hn, by omega, ?_, fun q => by simpa using hphi q⟩
      simpa using hr
    · rw [if_neg e] at hk
      refine (hi.obj k o hk).mono (Phi.le_refl _) (BLle.refl _) rfl (fun c m es' hc => ⟨hold c (fun e' => e ?_), rfl⟩)
      subst e'
      exact hi.inj id k c n m es es' hb hc

end Go.Avm
/- The operations of the abstract machine are those of the model: stores, new memory, append. -/
set_option linter.unusedSimpArgs false
set_option linter.unusedVariables false
namespace Go.Avm
open Go
variable {P : Program} {G : Glob} {n0 : Nat} {φ : Phi} {bl : Nat → BL} {H : List AObj} {w : World}

theorem osl_rep (hi : Inv G φ bl H w) {i o len : Nat} {u : Value} (hr : Rep φ bl (.osl i o len) u) {t es l cs} (h : H[i]? = some (.arr t es l cs)) :
    (bl i = .nil ∧ cs = [] ∧ u = .slice none 0 0 ∧ len = 0 ∧ o = 0) ∨
    ∃ b n cur cap, bl i = .blk b n es ∧ u = .slice (some ⟨b, o, none⟩) len cap ∧ len ≤ cap ∧ cap ≤ maxLen ∧ o + cap * es ≤ n ∧ w.heap[b]? = some (.cells cur t (0, 0)) ∧ cur.size = n ∧ cs.length ≤ n ∧
      RepL φ bl cs (cur.toList.take cs.length) ∧ ∀ q, φ b q = if l = true ∧ q < cs.length then cur[q]? else none := by
  have ho := hi.obj i _ h
  simp only [ObjOK] at ho
  simp only [Rep] at hr
  rcases ho with ⟨h1, h2⟩ | ⟨b, n, cur, h1, h2, h3, h4, h5, h6⟩
  · simp [h1] at hr
    exact .inl ⟨h1, h2, hr.1, hr.2.1, hr.2.2⟩
  · simp [h1] at hr
    obtain ⟨cap, e, k1, k2, k3⟩ := hr
    refine .inr ⟨b, n, cur, cap, h1, e, k1, k2, k3, h2, h3, h4, ?_, h6⟩
    split at h5
    · exact h5.up
    · exact h5

theorem one_rep (hi : Inv G φ bl H w) {x : AV} {v : Value} (h : Rep φ bl x v) (h1 : OneC H x) : v.oneCell' = true ∧ v.cells = #[v] := by
  cases x <;> simp only [OneC] at h1
  case own i o =>
    obtain ⟨_, t, es, l, cs, ho⟩ := live h1
    obtain ⟨b, n, cur, _, rfl, _⟩ := own_rep hi h ho
    exact ⟨rfl, rfl⟩
  case osl i o len =>
    obtain ⟨_, t, es, l, cs, ho⟩ := live h1
    rcases osl_rep hi h ho with ⟨_, _, rfl, _⟩ | ⟨b, n, cur, cap, _, rfl, _⟩ <;> exact ⟨rfl, rfl⟩
  case raw u =>
    simp only [Rep] at h
    subst h
    refine ⟨h1, ?_⟩
    cases v <;> first | rfl | (simp [Value.oneCell'] at h1)
  case sl len cs =>
    simp only [Rep] at h
    rcases h with ⟨rfl, _⟩ | ⟨_, _, _, rfl, _⟩ <;> exact ⟨rfl, rfl⟩
  case ptr cs o =>
    simp only [Rep] at h
    obtain ⟨_, _, rfl, _⟩ := h
    exact ⟨rfl, rfl⟩
  case fn f cs =>
    simp only [Rep] at h
    obtain ⟨_, rfl, _⟩ := h
    exact ⟨rfl, rfl⟩
  all_goals
    simp only [Rep] at h
    subst h
    exact ⟨rfl, rfl⟩

theorem oneL_rep (hi : Inv G φ bl H w) : ∀ {cs : List AV} {vs : List Value}, RepL φ bl cs vs → OneL H cs → ∀ v ∈ vs, v.oneCell' = true
  | [], _, h, _, v, hv => by simp only [RepL] at h; subst h; cases hv
  | c :: cs, _, h, h1, v, hv => by
    simp only [RepL] at h
    obtain ⟨u, us, rfl, hr, hrest⟩ := h
    rcases List.mem_cons.1 hv with rfl | hv
    · exact (one_rep hi hr (h1 c (by simp))).1
    · exact oneL_rep hi hrest (fun x hx => h1 x (by simp [hx])) v hv

theorem cells_rep (hi : Inv G φ bl H w) {x : AV} {v : Value} (h : Rep φ bl x v) {sz : Nat} (hl : (cellsOf x).length = sz) (h0 : 0 < sz) (h1 : OneL H (cellsOf x)) : RepL φ bl (cellsOf x) v.cells.toList ∧ v.cells.size = sz := by
  by_cases ha : ∃ cs, x = .agg cs
  · obtain ⟨cs, rfl⟩ := ha
    simp only [Rep] at h
    obtain ⟨vs, rfl, hr⟩ := h
    simp only [cellsOf] at hl ⊢
    exact ⟨by simpa [Value.cells] using hr, by rw [← hl, hr.length]; simp [Value.cells]⟩
  · have hc : cellsOf x = [x] := by
      cases x <;> simp only [cellsOf, List.length_nil] at hl ⊢ <;> first | omega | (exact absurd ⟨_, rfl⟩ ha)
    rw [hc] at hl h1 ⊢
    have hv := (one_rep hi h (h1 x (by simp))).2
    refine ⟨?_, by rw [hv, ← hl]; rfl⟩
    rw [hv]
    simp only [RepL]
    exact ⟨v, [], rfl, h, rfl⟩

theorem putAt_length (l : List AV) : ∀ (cs : List AV) (o : Nat), (putAt cs o l).length = cs.length := by
  induction l with
  | nil => intro cs o; rfl
  | cons x xs ih => intro cs o; simp [putAt, ih]

/-- The cells of a row, some written. -/
theorem putAt_rep {l : List AV} {us : List Value} (hu : RepL φ bl l us) : ∀ {cs : List AV} {vs : List Value} {o : Nat}, RepL φ bl cs vs → o + l.length ≤ cs.length → RepL φ bl (putAt cs o l) (vs.take o ++ us ++ vs.drop (o + us.length)) := by
  induction l generalizing us with
  | nil =>
    intro cs vs o h hle
    simp only [RepL] at hu
    subst hu
    simpa [putAt] using h
  | cons x xs ih =>
    intro cs vs o h hle
    simp only [RepL] at hu
    obtain ⟨u, us', rfl, hr, hrest⟩ := hu
    have hl := h.length
    simp at hle
    have := ih hrest (h.set hr o) (o := o + 1) (by simp; omega)
    simp only [putAt]
    have e : (vs.set o u).take (o + 1) ++ us' ++ (vs.set o u).drop (o + 1 + us'.length) = vs.take o ++ (u :: us') ++ vs.drop (o + (u :: us').length) := by
      have h1 : (vs.set o u).take (o + 1) = vs.take o ++ [u] := by
        rw [List.take_succ_eq_append_getElem (by simp; omega)]
        simp [List.take_set_of_le]
      have h2 : (vs.set o u).drop (o + 1 + us'.length) = vs.drop (o + 1 + us'.length) := by
        apply List.ext_getElem?
        intro j
        rw [List.getElem?_drop, List.getElem?_drop, List.getElem?_set]
        rw [if_neg (by omega)]
      rw [h1, h2]
      simp [Nat.add_assoc, Nat.add_comm 1]
    rwa [e] at this

def GivesM (P : Program) (G : Glob) (n0 : Nat) (φ : Phi) (bl : Nat → BL) (w : World) (us : List Value) (m : Sem Value) (K : AV → St → Prop) : Prop :=
  ∃ r z w' φ' bl' s', m.run P w = .ok z w' ∧ Rep φ' bl' r z ∧ RepL φ' bl' s'.f us ∧ Inv G φ' bl' s'.H w' ∧ Adv n0 φ bl w φ' bl' w' ∧ K r s'

theorem Gives.toM {us : List Value} {m : Sem Value} {K : AV → St → Prop} {s : St} (hi : Inv G φ bl s.H w) (hf : RepL φ bl s.f us) (h : Gives P φ bl m w (K · s)) : GivesM P G n0 φ bl w us m K := by
  obtain ⟨r, z, h1, h2, h3⟩ := h
  exact ⟨r, z, w, φ, bl, s, h1, h2, hf, hi, Adv.refl n0 φ bl w, h3⟩

theorem store_sound {s : St} {us : List Value} (hi : Inv G φ bl s.H w) (hf : RepL φ bl s.f us) {x y : AV} {u v : Value} {sz : Nat} {t : TypeId} {K : AV → St → Prop} (hz : szOf P t = some sz)
    (hx : Rep φ bl x u) (hy : Rep φ bl y v) (h : storeP s.H sz x y fun H => K (.tup []) ⟨s.f, H⟩) :
    ∃ w' s', (Instr.storeAt t u v).run P w = .ok () w' ∧ RepL φ bl s'.f us ∧ Inv G φ bl s'.H w' ∧ Fr φ bl w φ bl w' ∧ K (.tup []) s' := by
  cases x <;> simp only [storeP] at h
  case own id o =>
    cases ho : s.H[id]? with
    | none => simp [List.getD_eq_getElem?_getD, ho, storeO] at h
    | some ob =>
      cases ob with
      | dead => simp [List.getD_eq_getElem?_getD, ho, storeO] at h
      | mp _ _ => simp [List.getD_eq_getElem?_getD, ho, storeO] at h
      | arr t' es l cs =>
        cases l with
        | true => simp [List.getD_eq_getElem?_getD, ho, storeO] at h
        | false =>
          simp [List.getD_eq_getElem?_getD, ho, storeO] at h
          obtain ⟨⟨h1, h2, h3, h4⟩, hK⟩ := h
          obtain ⟨b, n, cur, hb, rfl, hheap, hsz, hle, hrep, hphi⟩ := own_rep hi hx ho
          obtain ⟨hcr, hcs⟩ := cells_rep hi hy h1 h2 h4
          have hrun := run_storeCells_at P b o t' v.cells.toList 0 cur w hheap (by simp; omega) (oneL_rep hi hcr h4)
          simp only [Nat.add_zero] at hrun
          have hrun' : (Instr.storeAt t (.pointer (some ⟨b, o, none⟩)) v).run P w = .ok () (w.setRow b (cur.toList.take o ++ v.cells.toList ++ cur.toList.drop (o + v.cells.toList.length)).toArray) := by
            simp only [Instr.storeAt, Instr.sureAddr, storeVar, Sem.run_bind, Sem.run_pure, Result.andThen_ok, run_szOf hz]
            simp only [hcs, ne_eq, not_true_eq_false, if_false, Sem.run_bind, Sem.run_pure, Result.andThen_ok]
            exact hrun
          have hvl : v.cells.toList.length = sz := by simp [hcs]
          have hkeep := putAt_rep hcr hrep (o := o) (by omega)
          have hset := inv_set hi ho (cs' := putAt cs o (cellsOf y)) (cur' := (cur.toList.take o ++ v.cells.toList ++ cur.toList.drop (o + v.cells.toList.length)).toArray) hb hheap (by simp; omega) (by rw [putAt_length]; omega) (by
            rw [putAt_length]
            have e : (cur.toList.take o ++ v.cells.toList ++ cur.toList.drop (o + v.cells.toList.length)).take cs.length = (cur.toList.take cs.length).take o ++ v.cells.toList ++ (cur.toList.take cs.length).drop (o + v.cells.toList.length) := by
              rw [List.take_append, List.take_append, List.take_take, List.take_take, List.drop_take]
              have e1 : min cs.length o = o := by omega
              have e2 : min o cs.length = o := by omega
              rw [e1, e2, List.take_of_length_le (show v.cells.toList.length ≤ cs.length - (cur.toList.take o).length by simp; omega)]
              congr 2
              simp
              omega
            rw [List.toList_toArray, e]
            exact hkeep)
          exact ⟨_, ⟨s.f, s.H.set id (.arr t' es false (putAt cs o (cellsOf y)))⟩, hrun', hf, hset.1, hset.2, hK⟩

/-- What is made, is told. -/
theorem new_sound {s : St} {us : List Value} (hi : Inv G φ bl s.H w) (hf : RepL φ bl s.f us) {w' : World} {t es : TypeId} {cs : List AV} {cur : Array Value} (hh : w'.heap = w.heap.push (.cells cur t (0, 0))) (ho : w'.os = w.os) (ht : w'.tape = w.tape) (hou : w'.output = w.output)
    (hle : cs.length ≤ cur.size) (hr : RepL φ bl cs (cur.toList.take cs.length)) :
    ∃ bl', bl' s.H.length = .blk w.heap.size cur.size es ∧ RepL φ bl' s.f us ∧ Inv G φ bl' (s.H ++ [.arr t es false cs]) w' ∧ Fr φ bl w φ bl' w' := by
  have := inv_new (es := es) hi hh ho ht hou hle hr
  exact ⟨_, updB_same _ _ _, RepL.mono (Phi.le_refl _) this.2.ids _ _ hf, this.1, this.2⟩

theorem zero_rep {t : TypeId} {z : List AV} (h : zeroOf P t = some z) : ∃ v, (∀ w : World, (zeroValue t).run P w = .ok v w) ∧ (∃ i, P.info? t = some i ∧ i.zero = some v) ∧ ∀ φ bl, RepL φ bl z v.cells.toList := by
  unfold zeroOf at h
  cases hi : P.info? t with
  | none => simp [hi] at h
  | some i =>
    cases hz : i.zero with
    | none => simp [hi, hz] at h
    | some v =>
      simp [hi, hz] at h
      refine ⟨v, fun w => by simp [zeroValue, typeInfo, hi, hz], ⟨i, rfl, hz⟩, fun φ bl => ?_⟩
      subst h
      generalize v.cells.toList = l
      induction l with
      | nil => simp only [List.map_nil, RepL]
      | cons c cs ih =>
        simp only [List.map_cons, RepL]
        exact ⟨c, cs, rfl, constAV_rep φ bl c, ih⟩

theorem alloc_sound {s : St} {us : List Value} (hi : Inv G φ bl s.H w) (hf : RepL φ bl s.f us) {t : TypeId} {z : List AV} (hz : zeroOf P t = some z) {K : AV → St → Prop}
    (h : K (.own s.H.length 0) ⟨s.f, s.H ++ [.arr t z.length false z]⟩) : GivesM P G n0 φ bl w us (Instr.alloc t true (.tuple #[])) K := by
  obtain ⟨v, hv, _, hr⟩ := zero_rep hz
  have hl := (hr φ bl).length
  obtain ⟨bl', h1, h2, h3, h4⟩ := new_sound (s := s) (t := t) (es := z.length) (cs := z) (cur := v.cells) hi hf (w' := w.alloc (.cells v.cells t)) rfl rfl rfl rfl (by rw [hl]; simp) (by rw [hl, List.take_length]; exact hr φ bl)
  refine ⟨.own s.H.length 0, .pointer (some ⟨w.heap.size, 0, none⟩), _, φ, bl', ⟨s.f, s.H ++ [.arr t z.length false z]⟩, ?_, ?_, h2, h3, h4.adv n0, h⟩
  · simp [Instr.alloc, hv, newVar, newRow]
  · simp [Rep, h1]

theorem box_sound {s : St} {us : List Value} (hi : Inv G φ bl s.H w) (hf : RepL φ bl s.f us) {t sz : TypeId} {x : AV} {v : Value} {K : AV → St → Prop} (hx : Rep φ bl x v)
    (h : (((cellsOf x).length = sz ∧ 0 < sz ∧ OneL s.H (cellsOf x)) ∧ K (.own s.H.length 0) ⟨s.f, s.H ++ [.arr t sz false (cellsOf x)]⟩)) : GivesM P G n0 φ bl w us (Instr.box t v) K := by
  obtain ⟨⟨g1, g2, g3⟩, hK⟩ := h
  obtain ⟨hr, hs⟩ := cells_rep hi hx g1 g2 g3
  obtain ⟨bl', h1, h2, h3, h4⟩ := new_sound (s := s) (t := t) (es := sz) (cs := cellsOf x) (cur := v.cells) hi hf (w' := w.alloc (.cells v.cells t)) rfl rfl rfl rfl (by omega) (by rw [hr.length, List.take_length]; exact hr)
  refine ⟨.own s.H.length 0, .pointer (some ⟨w.heap.size, 0, none⟩), _, φ, bl', ⟨s.f, s.H ++ [.arr t sz false (cellsOf x)]⟩, ?_, ?_, h2, h3, h4.adv n0, hK⟩
  · simp [Instr.box, newVar, newRow]
  · simp [Rep, h1]

end Go.Avm
/- The operations of the abstract machine are those of the model: literals, make, append. -/
set_option linter.unusedSimpArgs false
set_option linter.unusedVariables false
namespace Go.Avm
open Go
variable {P : Program} {G : Glob} {n0 : Nat} {φ : Phi} {bl : Nat → BL} {H : List AObj} {w : World}

theorem foldl_set (off : Nat) : ∀ (l : List Value) (k : Nat) (cells : Array Value), off + k + l.length ≤ cells.size →
    ((l.zipIdx k).foldl (fun cs (p : Value × Nat) => cs.setIfInBounds (off + p.2) p.1) cells).toList = cells.toList.take (off + k) ++ l ++ cells.toList.drop (off + k + l.length)
  | [], k, cells, _ => by simp
  | v :: rest, k, cells, h => by
    simp only [List.zipIdx_cons, List.foldl_cons]
    rw [foldl_set off rest (k + 1) (cells.setIfInBounds (off + k) v) (by simp at h ⊢; omega)]
    have e := list_seg_step cells.toList (off + k) v rest (by simp at h ⊢; omega)
    simpa [Array.toList_setIfInBounds, Nat.add_assoc] using e

theorem fill_one (off : Nat) (v : Value) (cells : Array Value) (h : off + v.cells.size ≤ cells.size) :
    (v.cells.zipIdx.foldl (fun cs (p : Value × Nat) => cs.setIfInBounds (off + p.2) p.1) cells).toList = cells.toList.take off ++ v.cells.toList ++ cells.toList.drop (off + v.cells.toList.length) := by
  rw [← Array.foldl_toList, Array.toList_zipIdx]
  simpa using foldl_set off v.cells.toList 0 cells (by simpa using h)

theorem fill_rep (hi : Inv G φ bl H w) {f : List AV} {a : Act} (hf : RepL φ bl f a.tmps.toList) (place : Nat → Option (Nat × Nat)) : ∀ (parts : List (Nat × Operand)) (ps : List (Nat × Nat × IA)),
    (parts.mapM fun (p : Nat × Operand) => (place p.1).bind fun q => (lowA p.2).map fun x => (q.1, q.2, x)) = some ps → ∀ (cells : Array Value) (zs : List AV), RepL φ bl zs cells.toList → fillOk H zs.length (evP f ps) →
    ∃ cells', Instr.fill place cells (parts.map fun p => (p.1, a.eval p.2)) = some cells' ∧ cells'.size = cells.size ∧ RepL φ bl (fillP zs (evP f ps)) cells'.toList
  | [], ps, h, cells, zs, hr, _ => by
    simp at h
    subst h
    exact ⟨cells, by simp [Instr.fill], rfl, by simpa [evP, fillP] using hr⟩
  | p :: parts, ps, h, cells, zs, hr, hok => by
    simp only [List.mapM_cons] at h
    cases hp : place p.1 with
    | none => simp [hp] at h
    | some q =>
      cases hx : lowA p.2 with
      | none => simp [hp, hx] at h
      | some x =>
        cases hrest : (parts.mapM fun (p : Nat × Operand) => (place p.1).bind fun q => (lowA p.2).map fun x => (q.1, q.2, x)) with
        | none => simp [hp, hx, hrest] at h
        | some ps' =>
          simp [hp, hx, hrest] at h
          subst h
          simp only [evP, List.map_cons, fillOk] at hok
          obtain ⟨⟨h1, h2, h3, h4⟩, hok'⟩ := hok
          have hv := lowA_rep hf hx
          obtain ⟨hcr, hcs⟩ := cells_rep hi hv h1 h2 h4
          have hl := hr.length
          simp at hl
          have hone := fill_one q.1 (a.eval p.2) cells (by omega)
          have hput := putAt_rep hcr hr (o := q.1) (by omega)
          rw [← hone] at hput
          obtain ⟨cells', e1, e2, e3⟩ := fill_rep hi hf place parts ps' hrest _ _ hput (by rw [putAt_length]; exact hok')
          refine ⟨cells', ?_, ?_, ?_⟩
          · simp only [List.map_cons, Instr.fill, hp]
            rw [if_neg (by simp [hcs]; omega)]
            exact e1
          · rw [e2, ← Array.length_toList, hone]
            simp
            omega
          · simpa [evP, fillP] using e3

theorem reps_succ (n : Nat) (z : List AV) : reps (n + 1) z = z ++ reps n z := by simp [reps, List.replicate_succ]
theorem reps_length (n : Nat) (z : List AV) : (reps n z).length = n * z.length := by
  induction n with
  | zero => simp [reps]
  | succ n ih => rw [reps_succ, List.length_append, ih, Nat.succ_mul, Nat.add_comm]
theorem reps_get (z : List AV) : ∀ (n i : Nat), i < n * z.length → (reps n z)[i]? = z[i % z.length]?
  | 0, i, h => by omega
  | n + 1, i, h => by
    rw [reps_succ]
    rcases Nat.lt_or_ge i z.length with hi | hi
    · rw [List.getElem?_append_left hi, Nat.mod_eq_of_lt hi]
    · rw [List.getElem?_append_right hi, reps_get z n (i - z.length) (by rw [Nat.succ_mul] at h; omega), Nat.mod_eq_sub_mod hi]

theorem made_rep {z : List AV} {zc : Array Value} (hz : RepL φ bl z zc.toList) (n m : Nat) (hnm : n ≤ m) : RepL φ bl (reps n z) ((madeCells zc (m * z.length)).toList.take (n * z.length)) := by
  have hl := hz.length
  simp at hl
  refine RepL.iff.2 ⟨?_, fun i c v hc hv => ?_⟩
  · rw [reps_length]
    simp [madeCells]
    rw [Nat.min_eq_left hnm]
  · have hi : i < n * z.length := by
      rcases Nat.lt_or_ge i (n * z.length) with h | h
      · exact h
      · rw [List.getElem?_eq_none (by rw [reps_length]; exact h)] at hc; cases hc
    rw [reps_get z n i hi] at hc
    have h0 : 0 < z.length := by
      rcases Nat.eq_zero_or_pos z.length with h | h
      · rw [h] at hi; omega
      · exact h
    have hm : i % z.length < zc.size := by rw [← hl]; exact Nat.mod_lt _ h0
    have him : i < m * z.length := Nat.lt_of_lt_of_le hi (Nat.mul_le_mul_right _ hnm)
    rw [List.getElem?_take, if_pos hi] at hv
    simp [madeCells, him] at hv
    have hv' : zc[i % z.length]? = some v := by
      rw [← hv, ← hl, getElem!_pos zc _ hm]
      exact Array.getElem?_eq_getElem hm
    exact (RepL.iff.1 hz).2 (i % z.length) c v hc (by simpa using hv')

theorem mk_sound {s : St} {us : List Value} (hi : Inv G φ bl s.H w) (hf : RepL φ bl s.f us) {t e : TypeId} {sz bytes : Nat} {z : List AV} (ht : P.underlying t = some (.slice e)) (hsz : szOf P e = some sz) (hby : bytesOf P e = some bytes) (hz : zeroOf P e = some z)
    (hb0 : bytes ≠ 0) (hzl : z.length = sz) {x y : AV} {u v : Value} {K : AV → St → Prop} (hx : Rep φ bl x u) (hy : Rep φ bl y v) (h : mkP s e sz bytes z x y K) : GivesM P G n0 φ bl w us (Instr.makeSlice t u v) K := by
  cases x <;> cases y <;> simp only [mkP] at h
  rename_i k nl k' nc
  obtain ⟨⟨h0, h1, h2⟩, hK⟩ := h
  simp only [Rep] at hx hy
  subst hx hy
  obtain ⟨zv, _, ⟨i, hie, hiz⟩, hzr⟩ := zero_rep hz
  have hisz : i.size = sz := by simpa [szOf, hie] using hsz
  have hiby : i.bytes = bytes := by simpa [bytesOf, hie] using hby
  have hle : nc ≤ nc * bytes := by
    have : (1 : Int) ≤ bytes := by omega
    have h3 := Int.mul_le_mul_of_nonneg_left this (show 0 ≤ nc by omega)
    simpa using h3
  have hrun := run_make w t e i zv ht hie hiz k k' nl nc h0 h1 (by rw [hiby, Int.mul_comm]; omega) (by omega)
  rw [hisz] at hrun
  have hm := made_rep (hzr φ bl) nl.toNat nc.toNat (by omega)
  rw [hzl] at hm
  obtain ⟨bl', g1, g2, g3, g4⟩ := new_sound (s := s) (t := e) (es := sz) (cs := reps nl.toNat z) (cur := madeCells zv.cells (nc.toNat * sz)) hi hf (w' := w.alloc (.cells (madeCells zv.cells (nc.toNat * sz)) e)) rfl rfl rfl rfl (by rw [reps_length, hzl, size_madeCells]; exact Nat.mul_le_mul_right _ (by omega)) (by rw [reps_length, hzl]; exact hm)
  refine ⟨.osl s.H.length 0 nl.toNat, .slice (some ⟨w.heap.size, 0, none⟩) nl.toNat nc.toNat, _, φ, bl', ⟨s.f, s.H ++ [.arr e sz false (reps nl.toNat z)]⟩, hrun, ?_, g2, g3, g4.adv n0, hK⟩
  simp only [Rep, g1]
  exact ⟨nc.toNat, rfl, by omega, by unfold maxLen; omega, by rw [size_madeCells]; omega⟩


/-! ### Append -/
/-- What is appended, as the model reads it. -/
theorem src_sound (hi : Inv G φ bl H w) {e' tx : TypeId} (hk : P.underlying tx = some (.slice e')) {sz : Nat} {x : AV} {u : Value} {K : Nat → List AV → Prop} (hx : Rep φ bl x u) (h : srcP H sz x K) :
    ∃ m src news, K m src ∧ RepL φ bl src news ∧ (OneL H src → Src P sz tx u m news w) := by
  cases x <;> simp only [srcP] at h
  case nils =>
    simp only [Rep] at hx
    subst hx
    exact ⟨0, [], [], h, by simp only [RepL], fun _ => Src.ofNil w hk 0⟩
  case sl len cs =>
    simp only [Rep] at hx
    obtain ⟨hl, hK⟩ := h
    rcases hx with ⟨rfl, rfl, rfl⟩ | ⟨b, o, cap, rfl, h1, h2, hr⟩
    · exact ⟨0, [], [], hK, by simp only [RepL], fun _ => Src.ofNil w hk 0⟩
    · obtain ⟨vs, hv, hf⟩ := hr.vals
      refine ⟨len, cs, vs, hK, hv.up, fun h1 => Src.ofSlice w hk ⟨b, o, none⟩ len cap vs (by rw [← hv.length, hl]) (fun j v hj => ?_) (oneL_rep hi (bl := bl) hv.up h1)⟩
      rw [addr_add]
      exact hi.fr _ _ _ (hf j v hj)
  case osl id off len =>
    cases ho : H[id]? with
    | none => simp [List.getD_eq_getElem?_getD, ho, srcO] at h
    | some ob =>
      cases ob with
      | dead => simp [List.getD_eq_getElem?_getD, ho, srcO] at h
      | mp _ _ => simp [List.getD_eq_getElem?_getD, ho, srcO] at h
      | arr t' es l cs =>
        simp [List.getD_eq_getElem?_getD, ho, srcO] at h
        obtain ⟨hle, hK⟩ := h
        rcases osl_rep hi hx ho with ⟨_, rfl, rfl, rfl, rfl⟩ | ⟨b, n, cur, cap, hb, rfl, h1, h2, h3, hheap, hcs, hcl, hrep, _⟩
        · exact ⟨0, _, [], hK, by simp [RepL], fun _ => Src.ofNil w hk 0⟩
        · have hsub : RepL φ bl ((cs.drop off).take (len * sz)) (((cur.toList.take cs.length).drop off).take (len * sz)) := (hrep.drop off).take _
          refine ⟨len, _, _, hK, hsub, fun h1 => Src.ofSlice w hk ⟨b, off, none⟩ len cap _ (by rw [← hsub.length]; simp; omega) (fun j v hj => ?_) (oneL_rep hi hsub h1)⟩
          rw [addr_add, cell_of_row w b _ cur t' (0, 0) hheap]
          rw [List.getElem?_take] at hj
          split at hj
          · rw [List.getElem?_drop, List.getElem?_take] at hj
            split at hj
            · simpa using hj
            · simp at hj
          · simp at hj

theorem setCells_nil (w : World) (b o : Nat) : w.setCells b o [] = w := by simp [World.setCells]

theorem setCells_row {b o : Nat} {t : TypeId} {vs : List Value} {cur : Array Value} (hh : w.heap[b]? = some (.cells cur t (0, 0))) (hl : o + vs.length ≤ cur.size) (h1 : ∀ v ∈ vs, v.oneCell' = true) :
    w.setCells b o vs = w.setRow b (cur.toList.take o ++ vs ++ cur.toList.drop (o + vs.length)).toArray := by
  have e1 := run_storeCells_at (default : Program) b o t vs 0 cur w hh (by simpa using hl) h1
  have e2 := run_storeCells_cells (P := (default : Program)) b o vs 0 w (fun j hj => by
    rw [Nat.add_zero, cell_of_row w b _ cur t (0, 0) hh]
    simp
    omega) (fun j hj => frozen_of_row w b _ cur t hh) h1
  rw [e1] at e2
  simp only [Nat.add_zero] at e2
  injection e2 with _ e2
  exact e2.symm

end Go.Avm
/- The operations of the abstract machine are those of the model: append. -/
set_option linter.unusedSimpArgs false
set_option linter.unusedVariables false
namespace Go.Avm
open Go
variable {P : Program} {G : Glob} {n0 : Nat} {φ : Phi} {bl : Nat → BL} {H : List AObj} {w : World}

def phiAt (φ : Phi) (b : Nat) (l : Bool) (n : Nat) (cur : Array Value) : Phi := fun k o => if k = b then (if l = true ∧ o < n then cur[o]? else none) else φ k o

theorem killO_get (H : List AObj) (id : Nat) (x : AObj) (k : Nat) : ((H.map (killO id)).set id x)[k]? = if id = k then (if id < H.length then some x else none) else (H[k]?).map (killO id) := by
  rw [List.getElem?_set]
  simp

theorem ObjOK.kill {φ φ' : Phi} {bl bl' : Nat → BL} {w w' : World} {i k : Nat} {o : AObj} (hp : φ.le φ') (hb : ∀ j, j ≠ i → bl j = .unused ∨ bl' j = bl j) (hk : bl' k = bl k)
    (hw : ∀ b n es, bl k = .blk b n es → w'.heap[b]? = w.heap[b]? ∧ φ' b = φ b) (h : ObjOK φ bl w k o) : ObjOK φ' bl' w' k (killO i o) := by
  cases o with
  | dead => simp only [killO, ObjOK] at h ⊢; rw [hk, h]
  | mp k es =>
    simp only [killO, ObjOK] at h ⊢
    obtain ⟨b, ents, clock, h1, h2, h3, h4⟩ := h
    obtain ⟨e1, e2⟩ := hw b 0 0 h1
    exact ⟨b, ents, clock, hk.trans h1, e1.trans h2, RepM.mono hp h3, fun o => by rw [e2]; exact h4 o⟩
  | arr t es l cs =>
    simp only [killO, ObjOK] at h ⊢
    rcases h with ⟨h1, h2⟩ | ⟨b, n, cur, h1, h2, h3, h4, h5, h6⟩
    · exact .inl ⟨hk.trans h1, by rw [h2]; rfl⟩
    · obtain ⟨e1, e2⟩ := hw b n es h1
      refine .inr ⟨b, n, cur, hk.trans h1, e1.trans h2, h3, by rw [killL_length]; exact h4, ?_, fun q => by rw [e2, killL_length]; exact h6 q⟩
      rw [killL_length]
      cases l with
      | true =>
        simp only [if_true] at h5 ⊢
        exact RepL.kill hp (fun j _ => .inl rfl) _ _ h5
      | false =>
        simp only [Bool.false_eq_true, if_false] at h5 ⊢
        exact RepL.kill hp hb _ _ h5

theorem inv_re_new (hi : Inv G φ bl H w) {id : Nat} {t es : TypeId} {l : Bool} {cs cs' : List AV} (ho : H[id]? = some (.arr t es l cs)) {w' : World} {cur : Array Value} (hh : w'.heap = w.heap.push (.cells cur t (0, 0))) (hos : w'.os = w.os) (hta : w'.tape = w.tape) (hou : w'.output = w.output)
    (hle : cs'.length ≤ cur.size) (hr : RepL φ (if l = true then nob else bl) cs' (cur.toList.take cs'.length)) (hn : n0 ≤ id) :
    ∃ φ' bl', φ.le φ' ∧ (∀ j, j ≠ id → bl j = .unused ∨ bl' j = bl j) ∧ bl' id = .blk w.heap.size cur.size es ∧
      Inv G φ' bl' ((H.map (killO id)).set id (.arr t es l (killL id cs'))) w' ∧ Adv n0 φ bl w φ' bl' w' := by
  have hidl : id < H.length := by
    rcases Nat.lt_or_ge id H.length with h | h
    · exact h
    · rw [List.getElem?_eq_none h] at ho; cases ho
  have hold : ∀ b, b < w.heap.size → w'.heap[b]? = w.heap[b]? := fun b hb => by rw [hh, Array.getElem?_push, if_neg (by omega)]
  have hnew : w'.heap[w.heap.size]? = some (.cells cur t (0, 0)) := by rw [hh]; simp
  have hsz : w'.heap.size = w.heap.size + 1 := by rw [hh]; simp
  have hp : φ.le (phiAt φ w.heap.size l cs'.length cur) := fun b o u hu => by
    unfold phiAt
    rw [if_neg (by have := phi_lt hi hu; omega)]
    exact hu
  have hb : ∀ j, j ≠ id → bl j = .unused ∨ updB bl id (.blk w.heap.size cur.size es) j = bl j := fun j hj => .inr (updB_other _ _ hj)
  refine ⟨phiAt φ w.heap.size l cs'.length cur, updB bl id (.blk w.heap.size cur.size es), hp, hb, updB_same _ _ _, ⟨fun b hb => ?_, by rw [hsz]; have := hi.gsz; omega, fun k b n es' hb => ?_, fun b o u hu => ?_, fun k o hk => ?_, fun i j b n m es' fs h1 h2 => ?_, fun k hk => ?_⟩, ?_⟩
  · rw [hold b (Nat.lt_of_lt_of_le hb hi.gsz)]; exact hi.glo b hb
  · by_cases e : k = id
    · subst e; rw [updB_same] at hb; injection hb with hb; subst hb; exact hi.gsz
    · rw [updB_other _ _ e] at hb; exact hi.gow k b n es' hb
  · unfold phiAt at hu
    by_cases e : b = w.heap.size
    · subst e
      rw [if_pos rfl] at hu
      split at hu
      · rw [cell_of_row w' _ o cur t (0, 0) hnew]; exact hu
      · cases hu
    · rw [if_neg e] at hu
      rw [← hi.fr b o u hu]
      exact World.cell?_of_block (hold b (phi_lt hi hu))
  · rw [killO_get] at hk
    by_cases e : id = k
    · subst e
      rw [if_pos rfl, if_pos hidl] at hk
      injection hk with hk
      subst hk
      simp only [ObjOK, updB_same]
      refine .inr ⟨w.heap.size, cur.size, cur, rfl, hnew, rfl, by rw [killL_length]; exact hle, ?_, fun q => by rw [killL_length]; simp [phiAt]⟩
      rw [killL_length]
      cases l with
      | true =>
        simp only [if_true] at hr ⊢
        exact RepL.kill hp (fun j _ => .inl rfl) _ _ hr
      | false =>
        simp only [Bool.false_eq_true, if_false] at hr ⊢
        exact RepL.kill hp hb _ _ hr
    · rw [if_neg e] at hk
      cases hq : H[k]? with
      | none => simp [hq] at hk
      | some o' =>
        simp [hq] at hk
        subst hk
        refine (hi.obj k o' hq).kill hp hb (updB_other _ _ (Ne.symm e)) (fun b n es' hc => ⟨hold b (inv_lt hi hc), ?_⟩)
        have := inv_lt hi hc
        funext q
        unfold phiAt
        rw [if_neg (by omega)]
  · by_cases e1 : i = id <;> by_cases e2 : j = id
    · omega
    · subst e1
      rw [updB_same] at h1
      rw [updB_other _ _ e2] at h2
      injection h1 with h1; subst h1
      exact absurd (inv_lt hi h2) (by omega)
    · subst e2
      rw [updB_same] at h2
      rw [updB_other _ _ e1] at h1
      injection h2 with h2; subst h2
      exact absurd (inv_lt hi h1) (by omega)
    · rw [updB_other _ _ e1] at h1
      rw [updB_other _ _ e2] at h2
      exact hi.inj i j b n m es' fs h1 h2
  · simp at hk
    rw [updB_other _ _ (by omega)]
    exact hi.out k hk
  · intro φ0 bl0 w0 hn0 f
    refine ⟨hos.trans f.os, hta.trans f.tape, hou.trans f.output, by have := f.size; omega, fun b hb hno => ?_, fun k b n es' hk => ?_, Phi.le_trans f.phi hp, fun j => ?_⟩
    · have hlt := Nat.lt_of_lt_of_le hb f.size
      have := f.old b hb hno
      refine ⟨(hold b hlt).trans this.1, ?_⟩
      rw [← this.2]
      funext q
      unfold phiAt
      rw [if_neg (by omega)]
    · by_cases e : k = id
      · subst e; rw [updB_same] at hk; injection hk with hk; subst hk; exact .inl f.size
      · rw [updB_other _ _ e] at hk; exact f.own k b n es' hk
    · by_cases e : j = id
      · subst e; exact .inl (hn0 j hn)
      · rw [updB_other _ _ e]; exact f.ids j

theorem inv_re_set (hi : Inv G φ bl H w) {id : Nat} {t es : TypeId} {l : Bool} {cs cs' : List AV} (ho : H[id]? = some (.arr t es l cs)) {b n : Nat} {cur cur' : Array Value} (hbl : bl id = .blk b n es) (hheap : w.heap[b]? = some (.cells cur t (0, 0))) (hs : cur'.size = cur.size)
    (hpre : ∀ q, q < cs.length → cur'[q]? = cur[q]?) (hcc : cs.length ≤ cs'.length) (hle : cs'.length ≤ cur.size) (hr : RepL φ (if l = true then nob else bl) cs' (cur'.toList.take cs'.length)) (hn : n0 ≤ id) :
    ∃ φ', φ.le φ' ∧ Inv G φ' bl ((H.map (killO id)).set id (.arr t es l (killL id cs'))) (w.setRow b cur') ∧ Adv n0 φ bl w φ' bl (w.setRow b cur') := by
  have hidl : id < H.length := by
    rcases Nat.lt_or_ge id H.length with h | h
    · exact h
    · rw [List.getElem?_eq_none h] at ho; cases ho
  have hnew := setRow_heap w b cur cur' t (0, 0) hheap
  have hold : ∀ k, k ≠ b → (w.setRow b cur').heap[k]? = w.heap[k]? := fun k hk => setRow_other w b k cur' hk
  have hob := hi.obj id _ ho
  have hphi : (∀ q, φ b q = if l = true ∧ q < cs.length then cur[q]? else none) ∧ cur.size = n := by
    simp only [ObjOK] at hob
    rcases hob with ⟨h1, _⟩ | ⟨b', n', cur0, h1, h2, h3, h4, h5, h6⟩
    · rw [hbl] at h1; cases h1
    · rw [hbl] at h1; injection h1 with h1 h1'; subst h1 h1'
      rw [hheap] at h2; injection h2 with h2; injection h2 with h2; subst h2
      exact ⟨h6, h3⟩
  have hp : φ.le (phiAt φ b l cs'.length cur') := fun k o u hu => by
    unfold phiAt
    by_cases e : k = b
    · subst e
      rw [if_pos rfl]
      rw [hphi.1 o] at hu
      split at hu
      · rename_i hq
        rw [if_pos ⟨hq.1, by omega⟩, hpre o hq.2]
        exact hu
      · cases hu
    · rw [if_neg e]; exact hu
  have hb : ∀ j, j ≠ id → bl j = .unused ∨ bl j = bl j := fun j _ => .inr rfl
  refine ⟨phiAt φ b l cs'.length cur', hp, ⟨fun k hk => ?_, by rw [setRow_size]; exact hi.gsz, hi.gow, fun k o u hu => ?_, fun k o hk => ?_, hi.inj, fun k hk => hi.out k (by simpa using hk)⟩, ?_⟩
  · rw [hold k (fun e => by have := hi.gow id b n es hbl; omega)]; exact hi.glo k hk
  · unfold phiAt at hu
    by_cases e : k = b
    · subst e
      rw [if_pos rfl] at hu
      split at hu
      · rw [cell_of_row _ _ o cur' t (0, 0) hnew]; exact hu
      · cases hu
    · rw [if_neg e] at hu
      rw [← hi.fr k o u hu]
      exact World.cell?_of_block (hold k e)
  · rw [killO_get] at hk
    by_cases e : id = k
    · subst e
      rw [if_pos rfl, if_pos hidl] at hk
      injection hk with hk
      subst hk
      simp only [ObjOK]
      refine .inr ⟨b, n, cur', hbl, hnew, hs.trans hphi.2, by rw [killL_length, ← hphi.2]; exact hle, ?_, fun q => by rw [killL_length]; simp [phiAt]⟩
      rw [killL_length]
      cases l with
      | true =>
        simp only [if_true] at hr ⊢
        exact RepL.kill hp (fun j _ => .inl rfl) _ _ hr
      | false =>
        simp only [Bool.false_eq_true, if_false] at hr ⊢
        exact RepL.kill hp hb _ _ hr
    · rw [if_neg e] at hk
      cases hq : H[k]? with
      | none => simp [hq] at hk
      | some o' =>
        simp [hq] at hk
        subst hk
        refine (hi.obj k o' hq).kill hp hb rfl (fun c m es' hc => ?_)
        have hne : c ≠ b := fun e' => e (by subst e'; exact hi.inj id k c n m es es' hbl hc)
        refine ⟨hold c hne, ?_⟩
        funext q
        unfold phiAt
        rw [if_neg hne]
  · intro φ0 bl0 w0 hn0 f
    have hge : w0.heap.size ≤ b := by
      rcases f.own id b n es hbl with h | ⟨n', es', h⟩
      · exact h
      · rw [hn0 id hn] at h; cases h
    refine ⟨f.os, f.tape, f.output, by rw [setRow_size]; exact f.size, fun k hk hno => ?_, f.own, Phi.le_trans f.phi hp, f.ids⟩
    have := f.old k hk hno
    refine ⟨(hold k (by omega)).trans this.1, ?_⟩
    rw [← this.2]
    funext q
    unfold phiAt
    rw [if_neg (by omega)]

theorem cap_le (w : World) (need old : Nat) (e : TypeId) (h : need ≤ 9223372036854775807) : need ≤ grownCap w need old e ∧ grownCap w need old e ≤ maxLen := by
  unfold grownCap maxLen
  simp only [Question.cut]
  have : 0 < 2 ^ 63 - need := by omega
  have := Nat.mod_lt (w.tape w.drawn (.appendCap need old e)) this
  omega

theorem nil_heap_drew (w : World) (o : Obj) : (w.drew.alloc o).heap = w.heap.push o := rfl

/-- The cells of a grown row. -/
theorem grown_cur {olds news : List Value} {z : Array Value} {sz need cap : Nat} (hl : (olds ++ news).length = need * sz) (hz : z.size = sz) (hc : need ≤ cap) :
    ((olds ++ news).toArray ++ Builtin.zeroCells z (cap - need)).size = cap * sz ∧ ((olds ++ news).toArray ++ Builtin.zeroCells z (cap - need)).toList.take (need * sz) = olds ++ news := by
  constructor
  · rw [Array.size_append, size_zeroCells, hz, List.size_toArray, hl, ← Nat.add_mul]
    congr 1
    omega
  · rw [Array.toList_append, List.toList_toArray, ← hl, List.take_append_of_le_length (Nat.le_refl _), List.take_length]

theorem run_app_none {t e : TypeId} {i : TypeInfo} (ht : P.underlying t = some (.slice e)) (hie : P.info? e = some i) {x : Value} {news : List Value} (hs : Src P i.size t x 0 news w) (ty : TypeId) (w' : World) :
    (Builtin.append_ #[t, t] ty #[.slice none 0 0, x]).run P w = .ok (.slice none 0 0) w := by
  rcases hs.kind with ⟨e', hk⟩ | hk <;> simp [Builtin.append_, run_underlying ht, run_underlying hk, sizeOf, typeInfo, hie, hs.len, hs.cells]

theorem app_sound {s : St} {us : List Value} (hi : Inv G φ bl s.H w) (hf : RepL φ bl s.f us) {t e ty : TypeId} {sz bytes : Nat} {z : List AV} (ht : P.underlying t = some (.slice e)) (hsz : szOf P e = some sz) (hby : bytesOf P e = some bytes) (hz : zeroOf P e = some z)
    (hb0 : bytes ≠ 0) (hzl : z.length = sz) {b x : AV} {u v : Value} {K : AV → St → Prop} (hb : Rep φ bl b u) (hx : Rep φ bl x v) (h : appP n0 s e sz bytes b x K) : GivesM P G n0 φ bl w us (Builtin.append_ #[t, t] ty #[u, v]) K := by
  unfold appP at h
  obtain ⟨m, src, news, h, hrep, hsrc⟩ := src_sound hi ht hx h
  obtain ⟨zv, _, ⟨i, hie, hiz⟩, hzr⟩ := zero_rep hz
  have hisz : i.size = sz := by simpa [szOf, hie] using hsz
  have hiby : i.bytes = bytes := by simpa [bytesOf, hie] using hby
  have hzs : zv.cells.size = sz := by have := (hzr φ bl).length; simp at this; omega
  cases b <;> simp only [appB] at h
  case nils =>
    obtain ⟨⟨h1, h2⟩, hK⟩ := h
    simp only [Rep] at hb
    subst hb
    have hS := hsrc h2
    rw [← hisz] at hS
    have hnl : news.length = m * sz := by rw [← hisz]; exact hS.newsLen
    have hsl : src.length = m * sz := by rw [hrep.length, hnl]
    rcases Nat.eq_zero_or_pos m with h0 | h0
    · subst h0
      have he : src = [] := List.eq_nil_of_length_eq_zero (by simpa using hsl)
      subst he
      obtain ⟨g1, g2⟩ := inv_nil hi e sz
      refine ⟨.osl s.H.length 0 0, _, _, φ, _, ⟨s.f, s.H ++ [.arr e sz false []]⟩, run_app_none ht hie hS ty w, ?_, RepL.mono (Phi.le_refl _) g2.ids _ _ hf, g1, g2.adv n0, hK⟩
      simp [Rep, updB_same]
    · have hm : m ≤ m * bytes := Nat.le_mul_of_pos_right _ (by omega)
      have hmz : Builtin.nextslicecap (0 + m) 0 * i.bytes ≤ 281474976710656 := by
        rw [Nat.zero_add, nextslicecap_zero h0, hiby]; omega
      have hrun := run_append_grow_src w t t ty e i zv ht hie hiz none 0 0 [] (by simp [Builtin.firstCells]) v m news hS (by omega) (by omega) hmz
      have hcap := cap_le w (0 + m) 0 e (by omega)
      have hcur := grown_cur (olds := []) (news := news) (z := zv.cells) (sz := sz) (need := 0 + m) (cap := grownCap w (0 + m) 0 e) (by simpa using hnl) hzs hcap.1
      obtain ⟨bl', g1, g2, g3, g4⟩ := new_sound (s := s) (t := e) (es := sz) (cs := src) hi hf (nil_heap_drew w _) rfl rfl rfl (by rw [hcur.1, hsl]; exact Nat.mul_le_mul_right _ (by omega)) (by
        rw [hsl]
        have := hcur.2
        rw [Nat.zero_add] at this ⊢
        rw [this]
        exact hrep)
      refine ⟨.osl s.H.length 0 m, _, _, φ, bl', ⟨s.f, s.H ++ [.arr e sz false src]⟩, hrun, ?_, g2, g3, g4.adv n0, hK⟩
      simp only [Rep, g1]
      refine ⟨grownCap w (0 + m) 0 e, by rw [Nat.zero_add], by omega, hcap.2, ?_⟩
      rw [hcur.1]
      omega
  case osl id off len _ =>
    cases ho : s.H[id]? with
    | none => simp [List.getD_eq_getElem?_getD, ho, appO] at h
    | some ob =>
      cases ob with
      | dead => simp [List.getD_eq_getElem?_getD, ho, appO] at h
      | mp _ _ => simp [List.getD_eq_getElem?_getD, ho, appO] at h
      | arr t' es l cs =>
        simp only [List.getD_eq_getElem?_getD, ho, Option.getD_some, appO] at h
        obtain ⟨⟨⟨hn, rfl, rfl, rfl, hcl, hone, hfr⟩, hbnd⟩, hK⟩ := h
        have hS := hsrc hone
        rw [← hisz] at hS
        have hnl : news.length = m * es := by rw [← hisz]; exact hS.newsLen
        have hsl : src.length = m * es := by rw [hrep.length, hnl]
        have hsrcl : RepL φ (if l = true then nob else bl) src news := by
          cases l with
          | true => simp only [if_true]; exact RepL.frz _ _ (hfr rfl) hrep
          | false => simpa using hrep
        have hlm : len + m ≤ (len + m) * bytes := Nat.le_mul_of_pos_right _ (by omega)
        rcases osl_rep hi hb ho with ⟨hbn, rfl, rfl, rfl, _⟩ | ⟨b, n, cur, cap, hbb, rfl, h1, h2, h3, hheap, hcs, hcn, hrepc, hphi⟩
        · rcases Nat.eq_zero_or_pos m with h0 | h0
          · subst h0
            have he : src = [] := List.eq_nil_of_length_eq_zero (by simpa using hsl)
            subst he
            have hinv : Inv G φ bl ((s.H.map (killO id)).set id (.arr t' es l (killL id ([] ++ [])))) w := by
              refine ⟨hi.glo, hi.gsz, hi.gow, hi.fr, fun k o hk => ?_, hi.inj, fun k hk => hi.out k (by simpa using hk)⟩
              rw [killO_get] at hk
              by_cases e : id = k
              · subst e
                simp at hk
                rw [← hk.2]
                simp [ObjOK, hbn, killL]
              · rw [if_neg e] at hk
                cases hq : s.H[k]? with
                | none => simp [hq] at hk
                | some o' =>
                  simp [hq] at hk
                  subst hk
                  exact (hi.obj k o' hq).kill (Phi.le_refl _) (fun j _ => .inr rfl) rfl (fun _ _ _ _ => ⟨rfl, rfl⟩)
            refine ⟨.osl id 0 (0 + 0), _, w, φ, bl, ⟨killL id s.f, _⟩, run_app_none ht hie hS ty w, ?_, RepL.kill (Phi.le_refl _) (fun j _ => .inr rfl) _ _ hf, hinv, Adv.refl n0 φ bl w, hK⟩
            simp [Rep, hbn]
          · have hmz : Builtin.nextslicecap (0 + m) 0 * i.bytes ≤ 281474976710656 := by
              rw [Nat.zero_add, nextslicecap_zero h0, hiby]
              have : m * bytes ≤ (0 + m) * bytes := by simp
              omega
            have hrun := run_append_grow_src w t t ty t' i zv ht hie hiz none 0 0 [] (by simp [Builtin.firstCells]) v m news hS (by omega) (by omega) hmz
            have hcap := cap_le w (0 + m) 0 t' (by omega)
            have hcur := grown_cur (olds := []) (news := news) (z := zv.cells) (sz := es) (need := 0 + m) (cap := grownCap w (0 + m) 0 t') (by simpa using hnl) hzs hcap.1
            obtain ⟨φ', bl', g1, g2, g3, g4, g5⟩ := inv_re_new (n0 := n0) hi ho (cs' := [] ++ src) (nil_heap_drew w _) rfl rfl rfl (by rw [hcur.1, List.nil_append, hsl]; exact Nat.mul_le_mul_right _ (by omega)) (by
              rw [List.nil_append, hsl]
              have := hcur.2
              rw [Nat.zero_add] at this ⊢
              rw [this]
              exact hsrcl) hn
            refine ⟨.osl id 0 (0 + m), _, _, φ', bl', ⟨killL id s.f, _⟩, hrun, ?_, RepL.kill g1 g2 _ _ hf, g4, g5, hK⟩
            simp only [Rep, g3]
            refine ⟨grownCap w (0 + m) 0 t', rfl, by omega, hcap.2, ?_⟩
            rw [hcur.1]
            omega
        · have hreplc : RepL φ (if l = true then nob else bl) cs (cur.toList.take cs.length) := by
            have hob := hi.obj id _ ho
            simp only [ObjOK] at hob
            rcases hob with ⟨k1, _⟩ | ⟨b', n', cur0, k1, k2, k3, k4, k5, k6⟩
            · rw [hbb] at k1; cases k1
            · rw [hbb] at k1; injection k1 with k1 k1'; subst k1 k1'
              rw [hheap] at k2; injection k2 with k2; injection k2 with k2; subst k2
              exact k5
          have holdlen : (cur.toList.take (len * es)).length = len * es := by
            simp
            omega
          by_cases hroom : len + m ≤ cap
          · have hfit : (len + m) * es ≤ cap * es := Nat.mul_le_mul_right _ hroom
            have hfit' : len * es + m * es ≤ n := by rw [← Nat.add_mul]; omega
            have hrun := run_append_room_src w t t ty t' i ht hie b 0 len cap v m news hS hroom (fun j hj => by
              rw [cell_of_row w b _ cur t' (0, 0) hheap, hisz]
              simp
              omega) (fun j hj => frozen_of_row w b _ cur t' hheap)
            rw [hisz, setCells_row hheap (by omega) hS.one] at hrun
            simp only [Nat.zero_add] at hrun
            obtain ⟨φ', g1, g2, g3⟩ := inv_re_set (n0 := n0) hi ho (cs' := cs ++ src) (cur' := (cur.toList.take (len * es) ++ news ++ cur.toList.drop (len * es + news.length)).toArray) hbb hheap (by simp; omega) (fun q hq => by
              rw [hcl] at hq
              simp only [List.getElem?_toArray]
              rw [List.append_assoc, List.getElem?_append_left (by rw [holdlen]; exact hq), List.getElem?_take, if_pos hq]
              simp) (by simp) (by simp; omega) (by
              have e1 : (cs ++ src).length = (cur.toList.take (len * es) ++ news).length := by simp; omega
              rw [List.toList_toArray, e1, List.take_append_of_le_length (Nat.le_refl _), List.take_length]
              rw [hcl] at hreplc
              exact hreplc.append hsrcl) hn
            refine ⟨.osl id 0 (len + m), _, _, φ', bl, ⟨killL id s.f, _⟩, hrun, ?_, RepL.kill g1 (fun j _ => .inr rfl) _ _ hf, g2, g3, hK⟩
            simp only [Rep, hbb]
            exact ⟨cap, rfl, hroom, h2, h3⟩
          · have hg : cap < len + m := by omega
            have hfits := growslice_fits (need := len + m) (old := cap) (bytes := bytes) hg hbnd
            have hold := run_firstCells_some (P := P) w.drew i.size len ⟨b, 0, none⟩ len cap (cur.toList.take (len * es)) (by rw [holdlen, hisz]) (fun j v hj => by
              rw [addr_add, Nat.zero_add]
              show w.drew.cell? _ = _
              rw [World.cell?_drew, cell_of_row w b _ cur t' (0, 0) hheap]
              rw [List.getElem?_take] at hj
              split at hj
              · simpa using hj
              · simp at hj)
            have hrun := run_append_grow_src w t t ty t' i zv ht hie hiz (some ⟨b, 0, none⟩) len cap (cur.toList.take (len * es)) hold v m news hS hg (by omega) (by rw [hiby]; exact hfits)
            have hcap := cap_le w (len + m) cap t' (by omega)
            have hcur := grown_cur (olds := cur.toList.take (len * es)) (news := news) (z := zv.cells) (sz := es) (need := len + m) (cap := grownCap w (len + m) cap t') (by rw [List.length_append, holdlen, hnl, Nat.add_mul]) hzs hcap.1
            obtain ⟨φ', bl', g1, g2, g3, g4, g5⟩ := inv_re_new (n0 := n0) hi ho (cs' := cs ++ src) (nil_heap_drew w _) rfl rfl rfl (by
                rw [hcur.1, List.length_append, hcl, hsl, ← Nat.add_mul]
                exact Nat.mul_le_mul_right _ hcap.1) (by
              rw [show (cs ++ src).length = (len + m) * es from by rw [List.length_append, hcl, hsl, ← Nat.add_mul], hcur.2]
              rw [hcl] at hreplc
              exact hreplc.append hsrcl) hn
            refine ⟨.osl id 0 (len + m), _, _, φ', bl', ⟨killL id s.f, _⟩, hrun, ?_, RepL.kill g1 g2 _ _ hf, g4, g5, hK⟩
            simp only [Rep, g3]
            refine ⟨grownCap w (len + m) cap t', rfl, hcap.1, hcap.2, ?_⟩
            rw [hcur.1]
            omega

end Go.Avm
/- The operations of the abstract machine are those of the model: maps, texts of bytes, errors that are nil. -/
set_option linter.unusedSimpArgs false
set_option linter.unusedVariables false
namespace Go.Avm
open Go
variable {P : Program} {G : Glob} {n0 : Nat} {φ : Phi} {bl : Nat → BL} {H : List AObj} {w : World}

theorem equalIn_ifnil {t : TypeId} {ms : Array (String × TypeId)} (ht : P.underlying t = some (.interface ms)) (d : Nat) (w : World) : (Op.equalIn (d + 1) t .nilIface .nilIface).run P w = .ok true w := by
  simp [Op.equalIn, run_underlying ht]
theorem equalIn_ifsome {t : TypeId} {ms : Array (String × TypeId)} (ht : P.underlying t = some (.interface ms)) (d : Nat) (u : TypeId) (v : Value) (w : World) : (Op.equalIn (d + 1) t (.iface u v) .nilIface).run P w = .ok false w := by
  simp [Op.equalIn, run_underlying ht]

theorem eqin_sound {n : Bool} {x : AV} {u : Value} {K : AV → Prop} (hx : Rep φ bl x u) (h : eqinP n x K) {t : TypeId} {ms : Array (String × TypeId)} (ht : P.underlying t = some (.interface ms)) (X : Operand) {op : BinOp}
    (hop : op = .eql ∧ n = false ∨ op = .neq ∧ n = true) : Gives P φ bl (do eqGuard op t X (.const .nilIface) u .nilIface; binOp op t u .nilIface) w K := by
  cases x <;> simp only [eqinP] at h
  rename_i v
  simp only [Rep] at hx
  subst hx
  cases u <;> simp only at h
  case iface t' v' =>
    have he : (Op.equal t (.iface t' v') .nilIface).run P w = .ok false w := equalIn_ifsome ht 9999 t' v' w
    rcases hop with ⟨rfl, rfl⟩ | ⟨rfl, rfl⟩
    · exact ⟨.bool false, .bool false, by simp [eqGuard, binOp, he], rep_bool, h⟩
    · exact ⟨.bool true, .bool true, by simp [eqGuard, binOp, he], rep_bool, h⟩
  case nilIface =>
    have he : (Op.equal t .nilIface .nilIface).run P w = .ok true w := equalIn_ifnil ht 9999 w
    rcases hop with ⟨rfl, rfl⟩ | ⟨rfl, rfl⟩
    · exact ⟨.bool true, .bool true, by simp [eqGuard, binOp, he], rep_bool, h⟩
    · exact ⟨.bool false, .bool false, by simp [eqGuard, binOp, he], rep_bool, h⟩

/-! ### Texts of bytes -/
theorem bytesL_rep : ∀ {cs : List AV} {l : List UInt8} {vs : List Value}, bytesL cs = some l → RepL φ bl cs vs → ∃ ns : List Int, vs = ns.map (Value.int .u8) ∧ ns.map (fun n => UInt8.ofNat n.toNat) = l
  | [], l, vs, h, hr => by
    simp only [bytesL] at h
    injection h with h; subst h
    simp only [RepL] at hr
    subst hr
    exact ⟨[], rfl, rfl⟩
  | c :: cs, l, vs, h, hr => by
    simp only [RepL] at hr
    obtain ⟨u, us, rfl, hu, hr⟩ := hr
    cases c <;> try (simp [bytesL] at h; done)
    rename_i k n
    cases k <;> try (simp [bytesL] at h; done)
    simp only [bytesL] at h
    cases hb : bytesL cs with
    | none => simp [hb] at h
    | some l' =>
      simp [hb] at h
      subst h
      obtain ⟨ns, rfl, rfl⟩ := bytesL_rep hb hr
      simp only [Rep] at hu
      subst hu
      exact ⟨n :: ns, rfl, rfl⟩

theorem b2sC_sound {src e dst : TypeId} (hs : P.underlying src = some (.slice e)) (he : P.underlying e = some (.int .u8)) (hd : P.underlying dst = some .string) {len : Nat} {cs : List AV} {K : AV → Prop} (h : b2sC len cs K) {vs : List Value} (hr : RepL φ bl cs vs)
    {b o cap : Nat} (hc : ∀ (j : Nat) v, vs[j]? = some v → w.cell? ⟨b, o + j, none⟩ = some v) : Gives P φ bl (convert src dst (.slice (some ⟨b, o, none⟩) len cap)) w K := by
  unfold b2sC at h
  split at h
  · rename_i l hl
    obtain ⟨ns, rfl, rfl⟩ := bytesL_rep hl hr
    have hlen := hr.length
    simp at hlen
    refine ⟨.str _, .string (strOfNums ns), run_convert_bytes_arg w src e hs he b o len cap ns (by omega) (fun i hi => ?_) dst hd, ?_, h.2⟩
    · have hlt : i < ns.length := by omega
      exact hc i _ (by simp [List.getElem?_eq_getElem hlt])
    · simp only [Rep, strOfNums]
  · exact h.elim

theorem b2s_sound (hi : Inv G φ bl H w) {src e dst : TypeId} (hs : P.underlying src = some (.slice e)) (he : P.underlying e = some (.int .u8)) (hd : P.underlying dst = some .string) {x : AV} {u : Value} {K : AV → Prop} (hx : Rep φ bl x u) (h : b2sP H x K) :
    Gives P φ bl (convert src dst u) w K := by
  cases x <;> simp only [b2sP] at h
  case nils =>
    simp only [Rep] at hx
    subst hx
    refine ⟨.str [], .string ByteArray.empty, run_convert_bytes_nil w src e hs he 0 0 dst hd, ?_, h⟩
    simp only [Rep]
    rfl
  case sl len cs =>
    simp only [Rep] at hx
    rcases hx with ⟨rfl, rfl, rfl⟩ | ⟨b, o, cap, rfl, h1, h2, hr⟩
    · simp only [b2sC, bytesL] at h
      refine ⟨.str [], .string ByteArray.empty, run_convert_bytes_nil w src e hs he 0 0 dst hd, ?_, h.2⟩
      simp only [Rep]
      rfl
    · obtain ⟨vs, hv, hf⟩ := hr.vals
      exact b2sC_sound hs he hd h hv.up (fun j v hj => hi.fr _ _ _ (hf j v hj))
  case osl id off len =>
    cases ho : H[id]? with
    | none => simp [List.getD_eq_getElem?_getD, ho, b2sO] at h
    | some ob =>
      cases ob with
      | dead => simp [List.getD_eq_getElem?_getD, ho, b2sO] at h
      | mp _ _ => simp [List.getD_eq_getElem?_getD, ho, b2sO] at h
      | arr t' es l cs =>
        simp [List.getD_eq_getElem?_getD, ho, b2sO] at h
        obtain ⟨rfl, h⟩ := h
        have hob := hi.obj id _ ho
        simp only [ObjOK] at hob
        simp only [Rep] at hx
        rcases hob with ⟨h1, h2⟩ | ⟨b, n, cur, h1, h2, h3, h4, h5, h6⟩
        · rw [h1] at hx
          simp only at hx
          obtain ⟨rfl, rfl, rfl⟩ := hx
          subst h2
          simp [b2sC, bytesL] at h
          refine ⟨.str [], .string ByteArray.empty, run_convert_bytes_nil w src e hs he 0 0 dst hd, ?_, h⟩
          simp only [Rep]
          rfl
        · rw [h1] at hx
          simp only at hx
          obtain ⟨cap, rfl, _⟩ := hx
          have h5' : RepL φ bl cs (cur.toList.take cs.length) := by
            split at h5
            · exact h5.up
            · exact h5
          refine b2sC_sound hs he hd h ((h5'.drop off).take len) (fun j v hj => ?_)
          rw [List.getElem?_take] at hj
          split at hj
          · rw [List.getElem?_drop, List.getElem?_take] at hj
            split at hj
            · rw [cell_of_row w b (off + j) cur t' (0, 0) h2]
              simpa using hj
            · cases hj
          · cases hj

/-! ### Maps -/
theorem inv_newM (hi : Inv G φ bl H w) {w' : World} {k : IntKind} (hh : w'.heap = w.heap.push (.map #[] 0)) (ho : w'.os = w.os) (ht : w'.tape = w.tape) (hou : w'.output = w.output) :
    Inv G φ (updB bl H.length (.blk w.heap.size 0 0)) (H ++ [.mp k []]) w' ∧ Fr φ bl w φ (updB bl H.length (.blk w.heap.size 0 0)) w' := by
  have hun := hi.out H.length (Nat.le_refl _)
  have hbl : BLle bl (updB bl H.length (.blk w.heap.size 0 0)) := fun j => by
    by_cases e : j = H.length
    · subst e; exact .inl hun
    · exact .inr (.inl (updB_other _ _ e))
  have hold : ∀ b, b < w.heap.size → w'.heap[b]? = w.heap[b]? := fun b hb => by rw [hh, Array.getElem?_push, if_neg (by omega)]
  have hnew : w'.heap[w.heap.size]? = some (.map #[] 0) := by rw [hh]; simp
  have hsz : w'.heap.size = w.heap.size + 1 := by rw [hh]; simp
  refine ⟨⟨fun b hb => ?_, by rw [hsz]; have := hi.gsz; omega, fun id b n es' hb => ?_, fun b o u hu => ?_, fun id o ho => ?_, fun i j b n m es' fs h1 h2 => ?_, fun id hid => ?_⟩, ⟨ho, ht, hou, by omega, fun b hb _ => ⟨hold b hb, rfl⟩, fun id b n es' hb => ?_, Phi.le_refl _, hbl⟩⟩
  · rw [hold b (Nat.lt_of_lt_of_le hb hi.gsz)]; exact hi.glo b hb
  · by_cases e : id = H.length
    · subst e; rw [updB_same] at hb; injection hb with hb; subst hb; exact hi.gsz
    · rw [updB_other _ _ e] at hb; exact hi.gow id b n es' hb
  · have := hi.fr b o u hu
    rw [← this]
    exact World.cell?_of_block (hold b (phi_lt hi hu))
  · rcases Nat.lt_or_ge id H.length with hl | hl
    · rw [List.getElem?_append_left hl] at ho
      exact (hi.obj id o ho).mono (Phi.le_refl _) hbl (updB_other _ _ (by omega)) (fun b n es' hb => ⟨hold b (inv_lt hi hb), rfl⟩)
    · rw [List.getElem?_append_right hl] at ho
      have hid : id = H.length := by
        rcases Nat.eq_or_lt_of_le hl with e | e
        · exact e.symm
        · rw [List.getElem?_eq_none (by simp; omega)] at ho; cases ho
      subst hid
      simp at ho
      subst ho
      simp only [ObjOK, updB_same]
      refine ⟨w.heap.size, #[], 0, rfl, hnew, by simp only [RepM], fun q => ?_⟩
      cases hq : φ w.heap.size q with
      | none => rfl
      | some u => exact absurd (phi_lt hi hq) (by omega)
  · by_cases e1 : i = H.length <;> by_cases e2 : j = H.length
    · omega
    · subst e1
      rw [updB_same] at h1
      rw [updB_other _ _ e2] at h2
      injection h1 with h1; subst h1
      exact absurd (inv_lt hi h2) (by omega)
    · subst e2
      rw [updB_same] at h2
      rw [updB_other _ _ e1] at h1
      injection h2 with h2; subst h2
      exact absurd (inv_lt hi h1) (by omega)
    · rw [updB_other _ _ e1] at h1
      rw [updB_other _ _ e2] at h2
      exact hi.inj i j b n m es' fs h1 h2
  · simp at hid
    rw [updB_other _ _ (by omega)]
    exact hi.out id (by omega)
  · by_cases e : id = H.length
    · subst e; rw [updB_same] at hb; injection hb with hb; subst hb; exact .inl (Nat.le_refl _)
    · rw [updB_other _ _ e] at hb; exact .inr ⟨n, es', hb⟩

theorem inv_setM (hi : Inv G φ bl H w) {id : Nat} {k : IntKind} {es es' : List (Int × AV)} (ho : H[id]? = some (.mp k es)) {b : Nat} {ents ents' : Array MapEntry} {c c' : Nat} (hb : bl id = .blk b 0 0)
    (hheap : w.heap[b]? = some (.map ents c)) (hr : RepM φ k es' ents'.toList) :
    Inv G φ bl (H.set id (.mp k es')) { w with heap := w.heap.setIfInBounds b (.map ents' c') } ∧ Fr φ bl w φ bl { w with heap := w.heap.setIfInBounds b (.map ents' c') } := by
  have hlt : b < w.heap.size := (Array.getElem?_eq_some_iff.1 hheap).1
  have hnew : (w.heap.setIfInBounds b (.map ents' c'))[b]? = some (.map ents' c') := by simp [hlt]
  have hold : ∀ q, q ≠ b → (w.heap.setIfInBounds b (.map ents' c'))[q]? = w.heap[q]? := fun q hq => by rw [Array.getElem?_setIfInBounds_ne (Ne.symm hq)]
  have hob := hi.obj id _ ho
  have hphi : ∀ q, φ b q = none := by
    simp only [ObjOK] at hob
    obtain ⟨b', ents0, c0, h1, h2, h3, h4⟩ := hob
    rw [hb] at h1; injection h1 with h1; subst h1
    exact h4
  have hidl : id < H.length := by
    rcases Nat.lt_or_ge id H.length with h | h
    · exact h
    · rw [List.getElem?_eq_none h] at ho; cases ho
  refine ⟨⟨fun q hq => ?_, by simp only [Array.size_setIfInBounds]; exact hi.gsz, hi.gow, fun q o u hu => ?_, fun q o hq => ?_, hi.inj, fun q hq => hi.out q (by simpa using hq)⟩,
    ⟨rfl, rfl, rfl, by simp, fun q hq hno => ⟨hold q (fun e => hno id 0 0 (e ▸ hb)), rfl⟩, fun q c m fs hq => .inr ⟨m, fs, hq⟩, Phi.le_refl _, BLle.refl _⟩⟩
  · exact (hold q (fun e => by have := hi.gow id b 0 0 hb; omega)).trans (hi.glo q hq)
  · rw [← hi.fr q o u hu]
    refine World.cell?_of_block (hold q (fun e => ?_))
    rw [e, hphi] at hu; cases hu
  · rw [List.getElem?_set] at hq
    by_cases e : id = q
    · subst e
      simp [hidl] at hq
      subst hq
      simp only [ObjOK]
      exact ⟨b, ents', c', hb, hnew, hr, hphi⟩
    · rw [if_neg e] at hq
      refine (hi.obj q o hq).mono (Phi.le_refl _) (BLle.refl _) rfl (fun c m fs hc => ⟨hold c (fun e' => e ?_), rfl⟩)
      subst e'
      exact hi.inj id q c 0 m 0 fs hb hc

theorem findNow_rep {k k0 : IntKind} {n : Int} {x : AV} {v : Value} (hx : Rep φ nob x v) : ∀ {es : List (Int × AV)} {l : List MapEntry}, RepM φ k es l → ∀ i,
    (Instr.findNow (.int k0) (.int k n) l i = some none ∧ mget es n = none ∧ ∀ born, RepM φ k (mset es n x) (l ++ [⟨.int k n, v, born⟩])) ∨
    ∃ j e y, Instr.findNow (.int k0) (.int k n) l i = some (some (i + j, e.val)) ∧ l[j]? = some e ∧ e.key = .int k n ∧ mget es n = some y ∧ Rep φ nob y e.val ∧ RepM φ k (mset es n x) (l.set j { e with key := .int k n, val := v })
  | [], l, h, i => by
    simp only [RepM] at h
    subst h
    refine .inl ⟨rfl, rfl, fun born => ?_⟩
    simp only [mset, List.nil_append, RepM]
    exact ⟨_, _, rfl, rfl, hx, rfl⟩
  | c :: es, l, h, i => by
    simp only [RepM] at h
    obtain ⟨e, l', rfl, hk, hv, hr⟩ := h
    by_cases hn : n = c.1
    · refine .inr ⟨0, e, c.2, ?_, rfl, by rw [hk, hn], by simp [mget, hn], hv, ?_⟩
      · simp [Instr.findNow, Instr.sameNow, hk, hn]
      · simp only [mset, if_pos hn, List.set_cons_zero, RepM]
        exact ⟨_, _, rfl, rfl, hx, hr⟩
    · have hs : Instr.sameNow (.int k0) (.int k n) e.key = some false := by rw [hk]; simp [Instr.sameNow, hn]
      rcases findNow_rep (n := n) hx (k0 := k0) hr (i + 1) with ⟨h1, h2, h3⟩ | ⟨j, e', y, h1, h2, h3, h4, h5, h6⟩
      · refine .inl ⟨by simp [Instr.findNow, hs, h1], by simp [mget, hn, h2], fun born => ?_⟩
        simp only [mset, if_neg hn, List.cons_append, RepM]
        exact ⟨e, _, rfl, hk, hv, h3 born⟩
      · refine .inr ⟨j + 1, e', y, by simp [Instr.findNow, hs, h1]; omega, by simpa using h2, h3, by simp [mget, hn, h4], h5, ?_⟩
        simp only [mset, if_neg hn, List.set_cons_succ, RepM]
        exact ⟨e, _, rfl, hk, hv, h6⟩

theorem mref_rep (hi : Inv G φ bl H w) {i : Nat} {u : Value} (hr : Rep φ bl (.mref i) u) {k es} (h : H[i]? = some (.mp k es)) :
    ∃ b ents c, bl i = .blk b 0 0 ∧ u = .map (some b) ∧ w.heap[b]? = some (.map ents c) ∧ RepM φ k es ents.toList := by
  have ho := hi.obj i _ h
  simp only [ObjOK] at ho
  obtain ⟨b, ents, c, h1, h2, h3, h4⟩ := ho
  simp only [Rep, h1] at hr
  exact ⟨b, ents, c, h1, hr, h2, h3⟩

theorem isKey_int {k : IntKind} {d : IntKind} {n : Int} (h : d = k) : MapKept.IsKey (.int d) (.int k n) := by
  subst h; simp [MapKept.IsKey]

theorem zero1_run {t : TypeId} {z : AV} (h : zero1 P t = some z) : ∃ v, (∀ w : World, (zeroValue t).run P w = .ok v w) ∧ ∀ φ bl, Rep φ bl z v := by
  unfold zero1 at h
  cases hi : P.info? t with
  | none => simp [hi] at h
  | some i =>
    cases hz : i.zero with
    | none => simp [hi, hz] at h
    | some v =>
      simp [hi, hz] at h
      refine ⟨v, fun w => by simp [zeroValue, typeInfo, hi, hz], fun φ bl => ?_⟩
      cases v <;> simp at h <;> subst h <;> simp only [Rep]

theorem run_key {kt : TypeId} {d k : IntKind} {n : Int} (hk : P.underlying kt = some (.int d)) (e : Bool) (w : World) : (Instr.checkKey e 10000 kt (.int k n)).run P w = .ok () w := by
  unfold Instr.checkKey
  simp only [Sem.run_bind, run_underlying hk, Result.andThen]
  rfl

theorem lkup_sound (hi : Inv G φ bl H w) {t kt et : TypeId} {d : IntKind} (ht : P.underlying t = some (.map kt et)) (hk : P.underlying kt = some (.int d)) {z : AV} (hz : zero1 P et = some z)
    {x y : AV} {u v : Value} {K : AV → Prop} (hx : Rep φ bl x u) (hy : Rep φ bl y v) (h : lkupP H z x y K) : Gives P φ bl (Instr.lookup t u v false) w K := by
  cases x <;> cases y <;> simp only [lkupP] at h
  rename_i id k n
  simp only [Rep] at hy
  subst hy
  cases ho : H[id]? with
  | none => simp [List.getD_eq_getElem?_getD, ho, lkupO] at h
  | some ob =>
    cases ob with
    | dead => simp [List.getD_eq_getElem?_getD, ho, lkupO] at h
    | arr _ _ _ _ => simp [List.getD_eq_getElem?_getD, ho, lkupO] at h
    | mp k' es =>
      simp [List.getD_eq_getElem?_getD, ho, lkupO] at h
      obtain ⟨rfl, hK⟩ := h
      obtain ⟨b, ents, c, hb, rfl, hheap, hrm⟩ := mref_rep hi hx ho
      obtain ⟨zv, hzrun, hzr⟩ := zero1_run hz
      rcases findNow_rep (k0 := d) (n := n) (x := .bool true) (v := .bool true) rep_bool hrm 0 with ⟨h1, h2, _⟩ | ⟨j, e, y, h1, _, _, h4, h5, _⟩
      · rw [h2] at hK
        exact ⟨z, zv, by simp [Instr.lookup, run_underlying ht, MapKept.run_getObj_map hheap, run_key hk, MapKept.run_findKey hk h1, Result.andThen, hzrun], hzr φ bl, hK⟩
      · rw [h4] at hK
        exact ⟨y, e.val, by simp [Instr.lookup, run_underlying ht, MapKept.run_getObj_map hheap, run_key hk, MapKept.run_findKey hk h1, Result.andThen], h5.up, hK⟩

theorem sameBits_int (k : IntKind) (n : Int) : Instr.sameBits 10000 (.int k n) (.int k n) = true := by simp [Instr.sameBits]

theorem mapup_sound {s : St} {us : List Value} (hi : Inv G φ bl s.H w) (hf : RepL φ bl s.f us) {t kt et : TypeId} {d : IntKind} (ht : P.underlying t = some (.map kt et)) (hk : P.underlying kt = some (.int d))
    {x y z : AV} {u v q : Value} {K : AV → St → Prop} (hx : Rep φ bl x u) (hy : Rep φ bl y v) (hz : Rep φ bl z q) (h : mapupP s.H x y z fun H => K (.tup []) ⟨s.f, H⟩) :
    ∃ w' s', (Instr.mapUpdate t u v q).run P w = .ok () w' ∧ RepL φ bl s'.f us ∧ Inv G φ bl s'.H w' ∧ Fr φ bl w φ bl w' ∧ K (.tup []) s' := by
  cases x <;> cases y <;> simp only [mapupP] at h
  rename_i id k n
  simp only [Rep] at hy
  subst hy
  cases ho : s.H[id]? with
  | none => simp [List.getD_eq_getElem?_getD, ho, mapupO] at h
  | some ob =>
    cases ob with
    | dead => simp [List.getD_eq_getElem?_getD, ho, mapupO] at h
    | arr _ _ _ _ => simp [List.getD_eq_getElem?_getD, ho, mapupO] at h
    | mp k' es =>
      simp only [List.getD_eq_getElem?_getD, ho, Option.getD_some, mapupO] at h
      obtain ⟨⟨rfl, hfz⟩, hK⟩ := h
      obtain ⟨b, ents, c, hb, rfl, hheap, hrm⟩ := mref_rep hi hx ho
      rcases findNow_rep (k0 := d) (n := n) (x := z) (v := q) (hz.frz _ _ hfz) hrm 0 with ⟨h1, h2, h3⟩ | ⟨j, e, y, h1, h2, h3, h4, h5, h6⟩
      · obtain ⟨g1, g2⟩ := inv_setM hi ho (ents' := ents.push ⟨.int k n, q, c⟩) (c' := c + 1) hb hheap (by simpa using h3 c)
        refine ⟨_, ⟨s.f, s.H.set id (.mp k (mset es n z))⟩, ?_, hf, g1, g2, hK⟩
        simp [Instr.mapUpdate, run_underlying ht, MapKept.run_getObj_map hheap, run_key hk, MapKept.run_findKey hk h1, Result.andThen, MapKept.run_setObj_map _ hheap]
      · have hj : ents[j]? = some e := by simpa using h2
        obtain ⟨g1, g2⟩ := inv_setM hi ho (ents' := ents.modify j fun e => { e with key := .int k n, val := q }) (c' := c) hb hheap (by
          rw [Array.toList_modify]
          rw [show ents.toList.modify j (fun e => { e with key := .int k n, val := q }) = ents.toList.set j { e with key := .int k n, val := q } from ?_]
          · exact h6
          · apply List.ext_getElem?
            intro i
            rw [List.getElem?_modify, List.getElem?_set]
            by_cases hij : j = i
            · subst hij
              have hlt : j < ents.size := (Array.getElem?_eq_some_iff.1 hj).1
              have he : ents[j] = e := by rw [Array.getElem?_eq_getElem hlt] at hj; injection hj
              simp [hj, hlt, he]
            · simp [hij])
        refine ⟨_, ⟨s.f, s.H.set id (.mp k (mset es n z))⟩, ?_, hf, g1, g2, hK⟩
        simp [Instr.mapUpdate, run_underlying ht, MapKept.run_getObj_map hheap, run_key hk, MapKept.run_findKey hk h1, Result.andThen, MapKept.run_setObj_map _ hheap, hj, h3, Instr.keyThatStays, sameBits_int]
end Go.Avm
