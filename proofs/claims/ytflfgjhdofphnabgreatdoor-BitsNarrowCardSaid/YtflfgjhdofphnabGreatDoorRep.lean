/- How trees stand for values in memory; what is kept from step to step. -/
import Derived.Test.YtflfgjhdofphnabGreatDoorSem
import Derived.WalkKit
namespace Go.Avm
open Go

/-- Where an object of the call's own lies: nowhere yet, nowhere any more, nowhere (nil), in block b of n cells, es an element. -/
inductive BL where
  | unused
  | dead
  | nil
  | blk (b n es : Nat)

/-- The cells that are never written again, and what they hold. -/
abbrev Phi := Nat → Nat → Option Value

def nob : Nat → BL := fun _ => .unused

mutual
def Rep (φ : Phi) : (Nat → BL) → AV → Value → Prop
  | _, .int k n, v => v = .int k n
  | _, .bool b, v => v = .bool b
  | _, .str s, v => v = .string ⟨s.toArray⟩
  | _, .nilp, v => v = .pointer none
  | _, .ptr cs off, v => ∃ b o, v = .pointer (some ⟨b, o + off, none⟩) ∧ RepRow φ cs b o
  | _, .nils, v => v = .slice none 0 0
  | _, .sl len cs, v => (v = .slice none 0 0 ∧ len = 0 ∧ cs = []) ∨ ∃ b o cap, v = .slice (some ⟨b, o, none⟩) len cap ∧ len ≤ cap ∧ cap ≤ maxLen ∧ RepRow φ cs b o
  | bl, .own id off, v => match bl id with
    | .unused => False
    | .dead => True
    | .nil => False
    | .blk b _ _ => v = .pointer (some ⟨b, off, none⟩)
  | bl, .osl id off len, v => match bl id with
    | .unused => False
    | .dead => True
    | .nil => v = .slice none 0 0 ∧ len = 0 ∧ off = 0
    | .blk b n es => ∃ cap, v = .slice (some ⟨b, off, none⟩) len cap ∧ len ≤ cap ∧ cap ≤ maxLen ∧ off + cap * es ≤ n
  | bl, .agg cs, v => ∃ vs : List Value, v = .agg vs.toArray ∧ RepL φ bl cs vs
  | bl, .tup cs, v => ∃ vs : List Value, v = .tuple vs.toArray ∧ RepL φ bl cs vs
  | bl, .fn f cs, v => ∃ vs : List Value, v = .func (.func f) #[] vs.toArray ∧ RepL φ bl cs vs
  | _, .raw u, v => v = u
  | bl, .mref id, v => match bl id with
    | .unused => False
    | .dead => True
    | .nil => False
    | .blk b _ _ => v = .map (some b)
  | _, .junk, _ => True
/-- A row of cells that are never written again: no name of the call's own is in them. -/
def RepRow (φ : Phi) : List AV → Nat → Nat → Prop
  | [], _, _ => True
  | c :: cs, b, o => (∃ u, φ b o = some u ∧ Rep φ nob c u) ∧ RepRow φ cs b (o + 1)
def RepL (φ : Phi) : (Nat → BL) → List AV → List Value → Prop
  | _, [], vs => vs = []
  | bl, c :: cs, vs => ∃ u us, vs = u :: us ∧ Rep φ bl c u ∧ RepL φ bl cs us
end

def Phi.le (φ φ' : Phi) : Prop := ∀ b o u, φ b o = some u → φ' b o = some u
theorem Phi.le_refl (φ : Phi) : φ.le φ := fun _ _ _ h => h
theorem Phi.le_trans {a b c : Phi} (h : a.le b) (k : b.le c) : a.le c := fun x o u hu => k x o u (h x o u hu)

def BLle (bl bl' : Nat → BL) : Prop := ∀ id, bl id = .unused ∨ bl' id = bl id ∨ bl' id = .dead
theorem BLle.refl (bl : Nat → BL) : BLle bl bl := fun _ => .inr (.inl rfl)
theorem BLle.trans {a b c : Nat → BL} (h : BLle a b) (k : BLle b c) : BLle a c := fun id => by
  rcases h id with h | h | h
  · exact .inl h
  · rcases k id with k | k | k
    · exact .inl (h ▸ k)
    · exact .inr (.inl (k.trans h))
    · exact .inr (.inr k)
  · rcases k id with k | k | k
    · rw [h] at k; cases k
    · exact .inr (.inr (k.trans h))
    · exact .inr (.inr k)

mutual
theorem Rep.mono {φ φ' : Phi} {bl bl' : Nat → BL} (hp : φ.le φ') (hb : BLle bl bl') : ∀ (x : AV) (v : Value), Rep φ bl x v → Rep φ' bl' x v
  | .int _ _, _, h => by simpa only [Rep] using h
  | .bool _, _, h => by simpa only [Rep] using h
  | .str _, _, h => by simpa only [Rep] using h
  | .nilp, _, h => by simpa only [Rep] using h
  | .ptr cs _, _, h => by
    simp only [Rep] at h ⊢
    obtain ⟨b, o, e, hr⟩ := h
    exact ⟨b, o, e, RepRow.mono hp cs b o hr⟩
  | .nils, _, h => by simpa only [Rep] using h
  | .sl _ cs, _, h => by
    simp only [Rep] at h ⊢
    rcases h with h | ⟨b, o, cap, e, h1, h2, hr⟩
    · exact .inl h
    · exact .inr ⟨b, o, cap, e, h1, h2, RepRow.mono hp cs b o hr⟩
  | .own id _, _, h => by
    simp only [Rep] at h ⊢
    rcases hb id with e | e | e
    · rw [e] at h; exact h.elim
    · rw [e]; exact h
    · rw [e]; trivial
  | .osl id _ _, _, h => by
    simp only [Rep] at h ⊢
    rcases hb id with e | e | e
    · rw [e] at h; exact h.elim
    · rw [e]; exact h
    · rw [e]; trivial
  | .agg cs, _, h => by
    simp only [Rep] at h ⊢
    obtain ⟨vs, e, hr⟩ := h
    exact ⟨vs, e, RepL.mono hp hb cs vs hr⟩
  | .tup cs, _, h => by
    simp only [Rep] at h ⊢
    obtain ⟨vs, e, hr⟩ := h
    exact ⟨vs, e, RepL.mono hp hb cs vs hr⟩
  | .fn _ cs, _, h => by
    simp only [Rep] at h ⊢
    obtain ⟨vs, e, hr⟩ := h
    exact ⟨vs, e, RepL.mono hp hb cs vs hr⟩
  | .raw _, _, h => by simpa only [Rep] using h
  | .mref id, _, h => by
    simp only [Rep] at h ⊢
    rcases hb id with e | e | e
    · rw [e] at h; exact h.elim
    · rw [e]; exact h
    · rw [e]; trivial
  | .junk, _, _ => by simp only [Rep]
theorem RepRow.mono {φ φ' : Phi} (hp : φ.le φ') : ∀ (cs : List AV) (b o : Nat), RepRow φ cs b o → RepRow φ' cs b o
  | [], _, _, _ => by simp only [RepRow]
  | c :: cs, b, o, h => by
    simp only [RepRow] at h ⊢
    obtain ⟨⟨u, hu, hr⟩, hrest⟩ := h
    exact ⟨⟨u, hp _ _ _ hu, Rep.mono hp (BLle.refl _) c u hr⟩, RepRow.mono hp cs b (o + 1) hrest⟩
theorem RepL.mono {φ φ' : Phi} {bl bl' : Nat → BL} (hp : φ.le φ') (hb : BLle bl bl') : ∀ (cs : List AV) (vs : List Value), RepL φ bl cs vs → RepL φ' bl' cs vs
  | [], _, h => by simpa only [RepL] using h
  | c :: cs, _, h => by
    simp only [RepL] at h ⊢
    obtain ⟨u, us, e, hr, hrest⟩ := h
    exact ⟨u, us, e, Rep.mono hp hb c u hr, RepL.mono hp hb cs us hrest⟩
end

theorem Rep.up {φ : Phi} {bl : Nat → BL} {x : AV} {v : Value} (h : Rep φ nob x v) : Rep φ bl x v := Rep.mono (Phi.le_refl _) (fun _ => .inl rfl) x v h
theorem RepL.up {φ : Phi} {bl : Nat → BL} {x : List AV} {v : List Value} (h : RepL φ nob x v) : RepL φ bl x v := RepL.mono (Phi.le_refl _) (fun _ => .inl rfl) x v h

mutual
/-- What names no object doesn't hang on where objects lie. -/
theorem Rep.frz {φ : Phi} {bl : Nat → BL} : ∀ (x : AV) (v : Value), Frz x → Rep φ bl x v → Rep φ nob x v
  | .int _ _, _, _, h => by simpa only [Rep] using h
  | .bool _, _, _, h => by simpa only [Rep] using h
  | .str _, _, _, h => by simpa only [Rep] using h
  | .nilp, _, _, h => by simpa only [Rep] using h
  | .ptr cs _, _, f, h => by simpa only [Rep] using h
  | .nils, _, _, h => by simpa only [Rep] using h
  | .sl _ cs, _, f, h => by simpa only [Rep] using h
  | .own _ _, _, f, _ => by simp only [Frz] at f
  | .osl _ _ _, _, f, _ => by simp only [Frz] at f
  | .agg cs, _, f, h => by
    simp only [Rep] at h ⊢
    simp only [Frz] at f
    obtain ⟨vs, e, hr⟩ := h
    exact ⟨vs, e, RepL.frz cs vs f hr⟩
  | .tup cs, _, f, h => by
    simp only [Rep] at h ⊢
    simp only [Frz] at f
    obtain ⟨vs, e, hr⟩ := h
    exact ⟨vs, e, RepL.frz cs vs f hr⟩
  | .fn _ cs, _, f, h => by
    simp only [Rep] at h ⊢
    simp only [Frz] at f
    obtain ⟨vs, e, hr⟩ := h
    exact ⟨vs, e, RepL.frz cs vs f hr⟩
  | .raw _, _, _, h => by simpa only [Rep] using h
  | .mref _, _, f, _ => by simp only [Frz] at f
  | .junk, _, f, _ => by simp only [Frz] at f
theorem RepL.frz {φ : Phi} {bl : Nat → BL} : ∀ (cs : List AV) (vs : List Value), FrzL cs → RepL φ bl cs vs → RepL φ nob cs vs
  | [], _, _, h => by simpa only [RepL] using h
  | c :: cs, _, f, h => by
    simp only [RepL] at h ⊢
    simp only [FrzL] at f
    obtain ⟨u, us, e, hr, hrest⟩ := h
    exact ⟨u, us, e, Rep.frz c u f.1 hr, RepL.frz cs us f.2 hrest⟩
end

theorem FrzL.iff {cs : List AV} : FrzL cs ↔ ∀ x ∈ cs, Frz x := by
  induction cs with
  | nil => simp [FrzL]
  | cons c cs ih => simp [FrzL, ih]

/-! ### Lists of trees -/
theorem RepL.length {φ : Phi} {bl : Nat → BL} : ∀ {cs : List AV} {vs : List Value}, RepL φ bl cs vs → cs.length = vs.length
  | [], _, h => by simp only [RepL] at h; subst h; rfl
  | c :: cs, _, h => by
    simp only [RepL] at h
    obtain ⟨u, us, rfl, _, hr⟩ := h
    simp [RepL.length hr]

theorem RepL.iff {φ : Phi} {bl : Nat → BL} : ∀ {cs : List AV} {vs : List Value}, RepL φ bl cs vs ↔ cs.length = vs.length ∧ ∀ (i : Nat) (c : AV) (v : Value), cs[i]? = some c → vs[i]? = some v → Rep φ bl c v
  | [], vs => by
    simp only [RepL]
    constructor
    · rintro rfl; simp
    · rintro ⟨h, _⟩; exact List.eq_nil_of_length_eq_zero (by simpa using h.symm)
  | c :: cs, vs => by
    simp only [RepL]
    constructor
    · rintro ⟨u, us, rfl, hr, hrest⟩
      have ih := (RepL.iff (cs := cs) (vs := us)).1 hrest
      refine ⟨by simp [ih.1], fun i d v hd hv => ?_⟩
      cases i with
      | zero => simp at hd hv; subst hd; subst hv; exact hr
      | succ i => exact ih.2 i d v (by simpa using hd) (by simpa using hv)
    · rintro ⟨hl, h⟩
      cases vs with
      | nil => simp at hl
      | cons u us =>
        refine ⟨u, us, rfl, h 0 c u rfl rfl, RepL.iff.2 ⟨by simpa using hl, fun i d v hd hv => h (i + 1) d v (by simpa using hd) (by simpa using hv)⟩⟩

theorem RepL.get {φ : Phi} {bl : Nat → BL} {cs : List AV} {vs : List Value} (h : RepL φ bl cs vs) {i : Nat} (hi : i < cs.length) : ∃ v, vs[i]? = some v ∧ Rep φ bl (cs.getD i .junk) v := by
  have hl := h.length
  refine ⟨vs[i]'(by omega), List.getElem?_eq_getElem (by omega), ?_⟩
  refine (RepL.iff.1 h).2 i _ _ ?_ (List.getElem?_eq_getElem (by omega))
  simp [List.getD_eq_getElem?_getD, List.getElem?_eq_getElem hi]

theorem RepL.set {φ : Phi} {bl : Nat → BL} {cs : List AV} {vs : List Value} (h : RepL φ bl cs vs) {x : AV} {v : Value} (hx : Rep φ bl x v) (i : Nat) : RepL φ bl (cs.set i x) (vs.set i v) := by
  have h' := RepL.iff.1 h
  refine RepL.iff.2 ⟨by simp [h'.1], fun j c u hc hu => ?_⟩
  rw [List.getElem?_set] at hc hu
  by_cases e : i = j
  · subst e
    simp only [if_true] at hc hu
    split at hc
    · split at hu
      · simp at hc hu; subst hc; subst hu; exact hx
      · simp at hu
    · simp at hc
  · simp only [e, if_false] at hc hu
    exact h'.2 j c u hc hu

theorem RepL.append {φ : Phi} {bl : Nat → BL} {cs ds : List AV} {vs us : List Value} (h : RepL φ bl cs vs) (k : RepL φ bl ds us) : RepL φ bl (cs ++ ds) (vs ++ us) := by
  induction cs generalizing vs with
  | nil => simp only [RepL] at h; subst h; simpa using k
  | cons c cs ih =>
    simp only [RepL] at h
    obtain ⟨u, vs', rfl, hr, hrest⟩ := h
    simp only [List.cons_append, RepL]
    exact ⟨u, vs' ++ us, rfl, hr, ih hrest⟩

theorem RepL.take {φ : Phi} {bl : Nat → BL} {cs : List AV} {vs : List Value} (h : RepL φ bl cs vs) (n : Nat) : RepL φ bl (cs.take n) (vs.take n) := by
  have h' := RepL.iff.1 h
  refine RepL.iff.2 ⟨by simp [h'.1], fun j c u hc hu => ?_⟩
  rw [List.getElem?_take] at hc hu
  split at hc
  · rename_i hj
    rw [if_pos hj] at hu
    exact h'.2 j c u hc hu
  · simp at hc

theorem RepL.drop {φ : Phi} {bl : Nat → BL} {cs : List AV} {vs : List Value} (h : RepL φ bl cs vs) (n : Nat) : RepL φ bl (cs.drop n) (vs.drop n) := by
  have h' := RepL.iff.1 h
  refine RepL.iff.2 ⟨by simp [h'.1], fun j c u hc hu => ?_⟩
  rw [List.getElem?_drop] at hc hu
  exact h'.2 _ c u hc hu

theorem RepRow.iff {φ : Phi} : ∀ {cs : List AV} {b o : Nat}, RepRow φ cs b o ↔ ∀ (i : Nat) (c : AV), cs[i]? = some c → ∃ u, φ b (o + i) = some u ∧ Rep φ nob c u
  | [], b, o => by simp [RepRow]
  | c :: cs, b, o => by
    simp only [RepRow]
    constructor
    · rintro ⟨h0, h⟩ i d hd
      cases i with
      | zero => simp at hd; subst hd; exact h0
      | succ i =>
        obtain ⟨u, hu, hr⟩ := RepRow.iff.1 h i d (by simpa using hd)
        exact ⟨u, by rw [show o + (i + 1) = o + 1 + i from by omega]; exact hu, hr⟩
    · intro h
      refine ⟨h 0 c rfl, RepRow.iff.2 fun i d hd => ?_⟩
      obtain ⟨u, hu, hr⟩ := h (i + 1) d (by simpa using hd)
      exact ⟨u, by rw [show o + 1 + i = o + (i + 1) from by omega]; exact hu, hr⟩

theorem RepRow.get {φ : Phi} {cs : List AV} {b o : Nat} (h : RepRow φ cs b o) {i : Nat} (hi : i < cs.length) : ∃ u, φ b (o + i) = some u ∧ Rep φ nob (cs.getD i .junk) u := by
  refine RepRow.iff.1 h i _ ?_
  simp [List.getD_eq_getElem?_getD, List.getElem?_eq_getElem hi]

theorem RepRow.sub {φ : Phi} {cs : List AV} {b o : Nat} (h : RepRow φ cs b o) (d n : Nat) : RepRow φ ((cs.drop d).take n) b (o + d) := by
  refine RepRow.iff.2 fun i c hc => ?_
  rw [List.getElem?_take] at hc
  split at hc
  · rw [List.getElem?_drop] at hc
    obtain ⟨u, hu, hr⟩ := RepRow.iff.1 h (d + i) c hc
    exact ⟨u, by rw [show o + d + i = o + (d + i) from by omega]; exact hu, hr⟩
  · simp at hc

/-! ### What is kept -/
/-- A map's entries. -/
def RepM (φ : Phi) (k : IntKind) : List (Int × AV) → List MapEntry → Prop
  | [], es => es = []
  | c :: cs, es => ∃ e es', es = e :: es' ∧ e.key = .int k c.1 ∧ Rep φ nob c.2 e.val ∧ RepM φ k cs es'
def ObjOK (φ : Phi) (bl : Nat → BL) (w : World) (id : Nat) : AObj → Prop
  | .dead => bl id = .dead
  | .arr t es lent cs => (bl id = .nil ∧ cs = []) ∨ ∃ (b n : Nat) (cur : Array Value), bl id = .blk b n es ∧ w.heap[b]? = some (.cells cur t (0, 0)) ∧ cur.size = n ∧ cs.length ≤ n ∧
      RepL φ (if lent = true then nob else bl) cs (cur.toList.take cs.length) ∧ ∀ o, φ b o = if lent = true ∧ o < cs.length then cur[o]? else none
  | .mp k es => ∃ (b : Nat) (ents : Array MapEntry) (clock : Nat), bl id = .blk b 0 0 ∧ w.heap[b]? = some (.map ents clock) ∧ RepM φ k es ents.toList ∧ ∀ o, φ b o = none

/-- The package-level variables: so many blocks, and what they hold from first to last. -/
structure Glob where
  n : Nat
  at_ : Nat → Option Obj

structure Inv (G : Glob) (φ : Phi) (bl : Nat → BL) (H : List AObj) (w : World) : Prop where
  glo : ∀ b, b < G.n → w.heap[b]? = G.at_ b
  gsz : G.n ≤ w.heap.size
  gow : ∀ id b n es, bl id = .blk b n es → G.n ≤ b
  fr : ∀ b o u, φ b o = some u → w.cell? ⟨b, o, none⟩ = some u
  obj : ∀ id o, H[id]? = some o → ObjOK φ bl w id o
  inj : ∀ i j b n m es fs, bl i = .blk b n es → bl j = .blk b m fs → i = j
  out : ∀ id, H.length ≤ id → bl id = .unused

/-- A state and a frame. -/
structure Rel (G : Glob) (φ : Phi) (bl : Nat → BL) (s : St) (a : Act) (w : World) : Prop where
  f : RepL φ bl s.f a.tmps.toList
  d : a.defers = []
  inv : Inv G φ bl s.H w

/-- What the call owes to what was there before: φ0, bl0, w0: at its begin. -/
structure Fr (φ0 : Phi) (bl0 : Nat → BL) (w0 : World) (φ : Phi) (bl : Nat → BL) (w : World) : Prop where
  os : w.os = w0.os
  tape : w.tape = w0.tape
  output : w.output = w0.output
  size : w0.heap.size ≤ w.heap.size
  old : ∀ b, b < w0.heap.size → (∀ id n es, bl0 id ≠ .blk b n es) → w.heap[b]? = w0.heap[b]? ∧ φ b = φ0 b
  own : ∀ id b n es, bl id = .blk b n es → w0.heap.size ≤ b ∨ ∃ n es, bl0 id = .blk b n es
  phi : φ0.le φ
  ids : BLle bl0 bl

theorem Fr.refl (φ : Phi) (bl : Nat → BL) (w : World) : Fr φ bl w φ bl w :=
  ⟨rfl, rfl, rfl, Nat.le_refl _, fun _ _ _ => ⟨rfl, rfl⟩, fun _ _ n es h => .inr ⟨n, es, h⟩, Phi.le_refl _, BLle.refl _⟩

theorem Fr.trans {φ0 φ1 φ2 : Phi} {bl0 bl1 bl2 : Nat → BL} {w0 w1 w2 : World} (h : Fr φ0 bl0 w0 φ1 bl1 w1) (k : Fr φ1 bl1 w1 φ2 bl2 w2) : Fr φ0 bl0 w0 φ2 bl2 w2 := by
  refine ⟨k.os.trans h.os, k.tape.trans h.tape, k.output.trans h.output, Nat.le_trans h.size k.size, fun b hb hn => ?_, fun id b n es e => ?_, Phi.le_trans h.phi k.phi, h.ids.trans k.ids⟩
  · have h1 := h.old b hb hn
    have h2 := k.old b (Nat.lt_of_lt_of_le hb h.size) (fun id n es e => by
      rcases h.own id b n es e with h3 | ⟨n', es', h3⟩
      · omega
      · exact hn id n' es' h3)
    exact ⟨h2.1.trans h1.1, h2.2.trans h1.2⟩
  · rcases k.own id b n es e with h3 | ⟨n', es', h3⟩
    · exact .inl (Nat.le_trans h.size h3)
    · exact h.own id b n' es' h3

/-- What is owed from the call's begin on is owed still; n0: how many objects came in with the call. -/
def Adv (n0 : Nat) (φ : Phi) (bl : Nat → BL) (w : World) (φ' : Phi) (bl' : Nat → BL) (w' : World) : Prop :=
  ∀ φ0 bl0 w0, (∀ j, n0 ≤ j → bl0 j = .unused) → Fr φ0 bl0 w0 φ bl w → Fr φ0 bl0 w0 φ' bl' w'
theorem Adv.refl (n0 : Nat) (φ : Phi) (bl : Nat → BL) (w : World) : Adv n0 φ bl w φ bl w := fun _ _ _ _ h => h
theorem Adv.trans {n0 : Nat} {φ1 φ2 φ3 : Phi} {bl1 bl2 bl3 : Nat → BL} {w1 w2 w3 : World} (h : Adv n0 φ1 bl1 w1 φ2 bl2 w2) (k : Adv n0 φ2 bl2 w2 φ3 bl3 w3) : Adv n0 φ1 bl1 w1 φ3 bl3 w3 :=
  fun φ0 bl0 w0 hn f => k φ0 bl0 w0 hn (h φ0 bl0 w0 hn f)
theorem Fr.adv {φ φ' : Phi} {bl bl' : Nat → BL} {w w' : World} (h : Fr φ bl w φ' bl' w') (n0 : Nat) : Adv n0 φ bl w φ' bl' w' := fun _ _ _ _ f => f.trans h

/-- The contract of a function: called with trees args, with objects H of its own: it returns x, and objects H', such that R x H'. -/
def AC (P : Program) (G : Glob) (f : FuncId) (args : List AV) (H : List AObj) (R : AV → List AObj → Prop) : Prop :=
  ∀ φ bl w vs, Inv G φ bl H w → RepL φ bl args vs → Calls P f vs.toArray w fun e w' =>
    ∃ v φ' bl' x H', e = .returned v ∧ R x H' ∧ Inv G φ' bl' H' w' ∧ Rep φ' bl' x v ∧ Fr φ bl w φ' bl' w'

theorem AC.mono {P : Program} {G : Glob} {f : FuncId} {args : List AV} {H : List AObj} {R R' : AV → List AObj → Prop} (h : AC P G f args H R) (k : ∀ x H', R x H' → R' x H') : AC P G f args H R' :=
  fun φ bl w vs hi hr => (h φ bl w vs hi hr).mono fun _ _ ⟨v, φ', bl', x, H', e, r, i, p, f⟩ => ⟨v, φ', bl', x, H', e, k x H' r, i, p, f⟩

/-- The same memory, told otherwise. -/
def Gh (G : Glob) (n0 : Nat) (s s' : St) : Prop := ∀ φ bl vs w, Inv G φ bl s.H w → RepL φ bl s.f vs → ∃ φ' bl', Inv G φ' bl' s'.H w ∧ RepL φ' bl' s'.f vs ∧ Adv n0 φ bl w φ' bl' w

theorem Gh.refl (G : Glob) (n0 : Nat) (s : St) : Gh G n0 s s := fun φ bl _ w hi hr => ⟨φ, bl, hi, hr, Adv.refl n0 φ bl w⟩
theorem Gh.trans {G : Glob} {n0 : Nat} {a b c : St} (h : Gh G n0 a b) (k : Gh G n0 b c) : Gh G n0 a c := fun φ bl vs w hi hr => by
  obtain ⟨φ1, bl1, i1, r1, f1⟩ := h φ bl vs w hi hr
  obtain ⟨φ2, bl2, i2, r2, f2⟩ := k φ1 bl1 vs w i1 r1
  exact ⟨φ2, bl2, i2, r2, f1.trans f2⟩

end Go.Avm
