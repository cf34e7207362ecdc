/- What is known of calls, kept for later calls. -/
import Derived.Test.YtflfgjhdofphnabGreatDoorEv4
set_option linter.unusedSimpArgs false
set_option linter.unusedVariables false
namespace Go.Avm
open Go

def eqInt (a b : Int) : Bool := match a with
  | .ofNat m => match b with
    | .ofNat n => Nat.beq m n
    | .negSucc _ => false
  | .negSucc m => match b with
    | .ofNat _ => false
    | .negSucc n => Nat.beq m n
theorem eqInt_ok {a b : Int} (h : eqInt a b = true) : a = b := by
  cases a <;> cases b <;> simp only [eqInt] at h <;> first | (cases h; done) | (rw [Nat.eq_of_beq_eq_true h])
def eqS : List UInt8 → List UInt8 → Bool
  | [], [] => true
  | x :: a, y :: b => match Nat.beq x.toNat y.toNat with
    | true => eqS a b
    | false => false
  | _, _ => false
theorem eqS_ok : ∀ {a b : List UInt8}, eqS a b = true → a = b
  | [], [], _ => rfl
  | [], _ :: _, h => by simp [eqS] at h
  | _ :: _, [], h => by simp [eqS] at h
  | x :: a, y :: b, h => by
    simp only [eqS] at h
    cases hx : Nat.beq x.toNat y.toNat with
    | false => rw [hx] at h; cases h
    | true =>
      rw [hx] at h
      have := UInt8.toNat_inj.1 (Nat.eq_of_beq_eq_true hx)
      rw [this, eqS_ok h]
def eqBl (a b : Bool) : Bool := match a with
  | true => b
  | false => match b with
    | true => false
    | false => true
theorem eqBl_ok {a b : Bool} (h : eqBl a b = true) : a = b := by cases a <;> cases b <;> simp_all [eqBl]
mutual
def eqAV : AV → AV → Bool
  | .int k a, .int l b => match kEq k l with
    | true => eqInt a b
    | false => false
  | .bool a, .bool b => eqBl a b
  | .str a, .str b => eqS a b
  | .nilp, .nilp => true
  | .ptr a o, .ptr b p => match Nat.beq o p with
    | true => eqAVL a b
    | false => false
  | .nils, .nils => true
  | .sl n a, .sl m b => match Nat.beq n m with
    | true => eqAVL a b
    | false => false
  | .agg a, .agg b => eqAVL a b
  | .tup a, .tup b => eqAVL a b
  | .fn f a, .fn g b => match Nat.beq f g with
    | true => eqAVL a b
    | false => false
  | _, _ => false
def eqAVL : List AV → List AV → Bool
  | [], [] => true
  | x :: a, y :: b => match eqAV x y with
    | true => eqAVL a b
    | false => false
  | _, _ => false
end
mutual
theorem eqAV_ok : ∀ (x y : AV), eqAV x y = true → x = y
  | .int k a, y, h => by
    cases y <;> simp only [eqAV] at h <;> try (cases h; done)
    rename_i l b
    cases hk : kEq k l with
    | false => rw [hk] at h; cases h
    | true =>
      rw [hk] at h
      simp only [kEq, decide_eq_true_eq] at hk
      rw [hk, eqInt_ok h]
  | .bool a, y, h => by
    cases y <;> simp only [eqAV] at h <;> try (cases h; done)
    rw [eqBl_ok h]
  | .str a, y, h => by
    cases y <;> simp only [eqAV] at h <;> try (cases h; done)
    rw [eqS_ok h]
  | .nilp, y, h => by cases y <;> simp only [eqAV] at h <;> first | rfl | (cases h; done)
  | .ptr a o, y, h => by
    cases y <;> simp only [eqAV] at h <;> try (cases h; done)
    rename_i b p
    cases hk : Nat.beq o p with
    | false => rw [hk] at h; cases h
    | true => rw [hk] at h; rw [Nat.eq_of_beq_eq_true hk, eqAVL_ok a b h]
  | .nils, y, h => by cases y <;> simp only [eqAV] at h <;> first | rfl | (cases h; done)
  | .sl n a, y, h => by
    cases y <;> simp only [eqAV] at h <;> try (cases h; done)
    rename_i m b
    cases hk : Nat.beq n m with
    | false => rw [hk] at h; cases h
    | true => rw [hk] at h; rw [Nat.eq_of_beq_eq_true hk, eqAVL_ok a b h]
  | .own _ _, y, h => by cases y <;> simp [eqAV] at h
  | .osl _ _ _, y, h => by cases y <;> simp [eqAV] at h
  | .agg a, y, h => by
    cases y <;> simp only [eqAV] at h <;> try (cases h; done)
    rw [eqAVL_ok a _ h]
  | .tup a, y, h => by
    cases y <;> simp only [eqAV] at h <;> try (cases h; done)
    rw [eqAVL_ok a _ h]
  | .fn f a, y, h => by
    cases y <;> simp only [eqAV] at h <;> try (cases h; done)
    rename_i g b
    cases hk : Nat.beq f g with
    | false => rw [hk] at h; cases h
    | true => rw [hk] at h; rw [Nat.eq_of_beq_eq_true hk, eqAVL_ok a b h]
  | .raw _, y, h => by cases y <;> simp [eqAV] at h
  | .mref _, y, h => by cases y <;> simp [eqAV] at h
  | .junk, y, h => by cases y <;> simp [eqAV] at h
theorem eqAVL_ok : ∀ (a b : List AV), eqAVL a b = true → a = b
  | [], b, h => by cases b <;> simp [eqAVL] at h ⊢
  | x :: a, b, h => by
    cases b with
    | nil => simp [eqAVL] at h
    | cons y b =>
      simp only [eqAVL] at h
      cases hx : eqAV x y with
      | false => rw [hx] at h; cases h
      | true => rw [hx] at h; rw [eqAV_ok x y hx, eqAVL_ok a b h]
end

structure Mem where
  g : FuncId
  args : List AV
  v : AV
def memo (base : FuncId → List AV → Option AV) : List Mem → FuncId → List AV → Option AV
  | [], g, args => base g args
  | m :: l, g, args => match Nat.beq m.g g with
    | true => match eqAVL m.args args with
      | true => some m.v
      | false => memo base l g args
    | false => memo base l g args
def MemOK (P : Program) (G : Glob) (l : List Mem) : Prop := ∀ m ∈ l, PE P G m.g m.args m.v
theorem memo_ok {P : Program} {G : Glob} {base : FuncId → List AV → Option AV} (hb : ∀ g args v, FrzL args → base g args = some v → PE P G g args v) : ∀ {l : List Mem}, MemOK P G l → ∀ g args v, FrzL args → memo base l g args = some v → PE P G g args v
  | [], _, g, args, v, hz, h => hb g args v hz h
  | m :: l, hl, g, args, v, hz, h => by
    simp only [memo] at h
    have ih := memo_ok hb (l := l) (fun m hm => hl m (List.mem_cons_of_mem _ hm)) g args v hz
    cases h1 : Nat.beq m.g g with
    | false => rw [h1] at h; exact ih h
    | true =>
      rw [h1] at h
      simp only at h
      cases h2 : eqAVL m.args args with
      | false => rw [h2] at h; exact ih h
      | true =>
        rw [h2] at h
        simp only at h
        injection h with h; subst h
        have := hl m List.mem_cons_self
        rw [Nat.eq_of_beq_eq_true h1, eqAVL_ok _ _ h2] at this
        exact this

theorem PE_of_ev {P : Program} {G : Glob} (hm : P.follows .mixedOrders = true) {kp fz : FuncId → Bool} {t : Tb} (ht : t.OK P) {prim : FuncId → List AV → Option AV} (hp : ∀ g args v, FrzL args → prim g args = some v → PE P G g args v) {en : FuncId → Bool} (hen : ∀ g, en g = true → Ent P g) {fuel d : Nat}
    {g : FuncId} {args : List AV} {v : AV} (h : evFn kp fz t prim en fuel d g args [] = some (v, [])) (hz : isFrz v = true) : PE P G g args v :=
  ⟨isFrz_iff _ hz, AC.mono (evFn_sound (G := G) hm ht hp hen d g args [] v [] h) fun y _ ⟨e, _⟩ => by subst e; exact ⟨isFrz_iff _ hz, rfl⟩⟩
end Go.Avm
