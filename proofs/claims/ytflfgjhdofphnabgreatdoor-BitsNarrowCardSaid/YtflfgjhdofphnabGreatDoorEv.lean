/- A piece of the small code, run: what comes of it. -/
import Derived.Test.YtflfgjhdofphnabGreatDoorGh1
set_option linter.unusedSimpArgs false
set_option linter.unusedVariables false
namespace Go.Avm
open Go

/-! ### Frames -/
noncomputable def getF (l : List AV) : Nat → AV :=
  List.rec (motive := fun _ => Nat → AV) (fun _ => .junk) (fun x _ ih n => Nat.rec (motive := fun _ => AV) x (fun m _ => ih m) n) l
theorem getF_eq : ∀ (l : List AV) (n : Nat), getF l n = l.getD n .junk
  | [], n => by cases n <;> rfl
  | x :: l, 0 => rfl
  | x :: l, n + 1 => by
    show getF l n = _
    rw [getF_eq l n]
    simp [List.getD_eq_getElem?_getD]
noncomputable def setF {α : Type} (l : List AV) (n : Nat) (x : AV) (k : List AV → α) : α :=
  List.rec (motive := fun _ => Nat → (List AV → α) → α) (fun _ k => k []) (fun a l ih n k => Nat.rec (motive := fun _ => α) (k (x :: l)) (fun m _ => ih m fun l' => k (a :: l')) n) l n k
theorem setF_eq {α : Type} : ∀ (l : List AV) (n : Nat) (x : AV) (k : List AV → α), setF l n x k = k (l.set n x)
  | [], n, x, k => by cases n <;> rfl
  | a :: l, 0, x, k => rfl
  | a :: l, n + 1, x, k => by
    show setF l n x (fun l' => k (a :: l')) = _
    rw [setF_eq l n x]
    rfl

/-! ### Values, reckoned out -/
def frcInt {α : Type} (n : Int) (k : Int → α) : α := match n with
  | .ofNat m => frcN m fun m => k (.ofNat m)
  | .negSucc m => frcN m fun m => k (.negSucc m)
theorem frcInt_eq {α : Type} (n : Int) (k : Int → α) : frcInt n k = k n := by cases n <;> simp [frcInt, frcN_eq]
def spine {α β : Type} : List β → (List β → α) → α
  | [], k => k []
  | x :: l, k => spine l fun l => k (x :: l)
theorem spine_eq {α β : Type} : ∀ (l : List β) (k : List β → α), spine l k = k l
  | [], _ => rfl
  | x :: l, k => by simp only [spine, spine_eq l]
def frcU {α : Type} (b : UInt8) (k : UInt8 → α) : α := frcN b.toNat fun n => k (UInt8.ofNat n)
theorem frcU_eq {α : Type} (b : UInt8) (k : UInt8 → α) : frcU b k = k b := by simp [frcU, frcN_eq]
def frcS {α : Type} : List UInt8 → (List UInt8 → α) → α
  | [], k => k []
  | x :: l, k => frcU x fun x => frcS l fun l => k (x :: l)
theorem frcS_eq {α : Type} : ∀ (l : List UInt8) (k : List UInt8 → α), frcS l k = k l
  | [], _ => rfl
  | x :: l, k => by simp only [frcS, frcU_eq, frcS_eq l]
/-- The head, and the list of cells. -/
def frcV {α : Type} (x : AV) (k : AV → α) : α := match x with
  | .int t n => frcInt n fun n => k (.int t n)
  | .bool b => frcB b fun b => k (.bool b)
  | .str s => frcS s fun s => k (.str s)
  | .nilp => k .nilp
  | .ptr cs o => spine cs fun cs => frcN o fun o => k (.ptr cs o)
  | .nils => k .nils
  | .sl n cs => frcN n fun n => spine cs fun cs => k (.sl n cs)
  | .own i o => frcN i fun i => frcN o fun o => k (.own i o)
  | .osl i o n => frcN i fun i => frcN o fun o => frcN n fun n => k (.osl i o n)
  | .agg cs => spine cs fun cs => k (.agg cs)
  | .tup cs => spine cs fun cs => k (.tup cs)
  | .fn f cs => spine cs fun cs => k (.fn f cs)
  | .raw v => k (.raw v)
  | .mref i => frcN i fun i => k (.mref i)
  | .junk => k .junk
theorem frcV_eq {α : Type} (x : AV) (k : AV → α) : frcV x k = k x := by
  cases x <;> simp only [frcV, frcInt_eq, frcB_eq, frcS_eq, frcN_eq, spine_eq]
def frcObj {α : Type} (o : AObj) (k : AObj → α) : α := match o with
  | .dead => k .dead
  | .arr t es l cs => frcB l fun l => spine cs fun cs => k (.arr t es l cs)
  | .mp t es => spine es fun es => k (.mp t es)
theorem frcObj_eq {α : Type} (o : AObj) (k : AObj → α) : frcObj o k = k o := by
  cases o <;> simp only [frcObj, frcB_eq, spine_eq]
def frcH {α : Type} : List AObj → (List AObj → α) → α
  | [], k => k []
  | o :: l, k => frcObj o fun o => frcH l fun l => k (o :: l)
theorem frcH_eq {α : Type} : ∀ (l : List AObj) (k : List AObj → α), frcH l k = k l
  | [], _ => rfl
  | x :: l, k => by simp only [frcH, frcObj_eq, frcH_eq l]

/-! ### No names -/
mutual
def isFrz : AV → Bool
  | .int _ _ => true
  | .bool _ => true
  | .str _ => true
  | .nilp => true
  | .ptr cs _ => isFrzL cs
  | .nils => true
  | .sl _ cs => isFrzL cs
  | .own _ _ => false
  | .osl _ _ _ => false
  | .agg cs => isFrzL cs
  | .tup cs => isFrzL cs
  | .fn _ cs => isFrzL cs
  | .raw _ => true
  | .mref _ => false
  | .junk => false
def isFrzL : List AV → Bool
  | [] => true
  | c :: cs => match isFrz c with
    | true => isFrzL cs
    | false => false
end
mutual
theorem isFrz_iff : ∀ x : AV, isFrz x = true → Frz x
  | .int _ _, _ => by simp only [Frz]
  | .bool _, _ => by simp only [Frz]
  | .str _, _ => by simp only [Frz]
  | .nilp, _ => by simp only [Frz]
  | .ptr cs _, h => by simp only [Frz, isFrz] at h ⊢; exact isFrzL_iff cs h
  | .nils, _ => by simp only [Frz]
  | .sl _ cs, h => by simp only [Frz, isFrz] at h ⊢; exact isFrzL_iff cs h
  | .own _ _, h => by simp only [isFrz] at h; cases h
  | .osl _ _ _, h => by simp only [isFrz] at h; cases h
  | .agg cs, h => by simp only [Frz, isFrz] at h ⊢; exact isFrzL_iff cs h
  | .tup cs, h => by simp only [Frz, isFrz] at h ⊢; exact isFrzL_iff cs h
  | .fn _ cs, h => by simp only [Frz, isFrz] at h ⊢; exact isFrzL_iff cs h
  | .raw _, _ => by simp only [Frz]
  | .mref _, h => by simp only [isFrz] at h; cases h
  | .junk, h => by simp only [isFrz] at h; cases h
theorem isFrzL_iff : ∀ l : List AV, isFrzL l = true → FrzL l
  | [], _ => by simp only [FrzL]
  | c :: cs, h => by
    simp only [isFrzL] at h
    cases hc : isFrz c with
    | true => rw [hc] at h; simp only [FrzL]; exact ⟨isFrz_iff c hc, isFrzL_iff cs h⟩
    | false => rw [hc] at h; cases h
end

/-! ### One operation -/
def gif {α : Type} (b : Bool) (x : Option α) : Option α := match b with
  | true => x
  | false => none
theorem gif_some {α : Type} {b : Bool} {x : Option α} {y : α} (h : gif b x = some y) : b = true ∧ x = some y := by
  cases b <;> simp [gif] at h ⊢
  exact h
def kEq (a b : IntKind) : Bool := decide (a = b)

def binE (op : BinOp) (x y : AV) : Option AV := match x, y with
  | .int k a, .int k' b => match op with
    | .shl => gif (decide (0 ≤ b)) (some (.int k (k.wrap (a * 2 ^ (min b.toNat k.bits)))))
    | .shr => gif (decide (0 ≤ b)) (some (.int k (a.fdiv (2 ^ (min b.toNat k.bits)))))
    | .add => gif (kEq k k') (some (.int k (k.wrap (a + b))))
    | .sub => gif (kEq k k') (some (.int k (k.wrap (a - b))))
    | .mul => gif (kEq k k') (some (.int k (k.wrap (a * b))))
    | .quo => gif (kEq k k' && decide (b ≠ 0)) (some (.int k (k.wrap (a.tdiv b))))
    | .rem => gif (kEq k k' && decide (b ≠ 0)) (some (.int k (a.tmod b)))
    | .and => gif (kEq k k') (some (.int k (k.wrap (BitVec.ofInt k.bits a &&& BitVec.ofInt k.bits b).toNat)))
    | .or => gif (kEq k k') (some (.int k (k.wrap (BitVec.ofInt k.bits a ||| BitVec.ofInt k.bits b).toNat)))
    | .xor => gif (kEq k k') (some (.int k (k.wrap (BitVec.ofInt k.bits a ^^^ BitVec.ofInt k.bits b).toNat)))
    | .eql => gif (kEq k k') (some (.bool (decide (a = b))))
    | .neq => gif (kEq k k') (some (.bool (decide (a ≠ b))))
    | .lss => gif (kEq k k') (some (.bool (decide (a < b))))
    | .leq => gif (kEq k k') (some (.bool (decide (a ≤ b))))
    | .gtr => gif (kEq k k') (some (.bool (decide (b < a))))
    | .geq => gif (kEq k k') (some (.bool (decide (b ≤ a))))
    | _ => none
  | .str a, .str b => match op with
    | .add => gif (decide (a.length + b.length ≤ 9223372036854775807)) (some (.str (a ++ b)))
    | .eql => some (.bool (a == b))
    | .neq => some (.bool (!(a == b)))
    | _ => none
  | _, _ => none
theorem binE_sound {op : BinOp} {x y v : AV} (h : binE op x y = some v) {K : AV → Prop} (hk : K v) : binP op x y K := by
  cases x <;> cases y <;> simp only [binE] at h <;> try (cases h; done)
  case int.int k a k' b =>
    cases op <;> simp only [binP] at h ⊢ <;> first
      | (cases h; done)
      | (obtain ⟨h1, h2⟩ := gif_some h; injection h2 with h2; subst h2; simp only [kEq, Bool.and_eq_true, decide_eq_true_eq] at h1; exact ⟨h1, hk⟩)
  case str.str a b =>
    cases op <;> simp only [binP] at h ⊢ <;> first
      | (cases h; done)
      | (obtain ⟨h1, h2⟩ := gif_some h; injection h2 with h2; subst h2; simp only [decide_eq_true_eq] at h1; exact ⟨h1, hk⟩)
      | (injection h with h; subst h; exact hk)

def liveE {α : Type} (o : AObj) (x : Option α) : Option α := match o with
  | .arr _ _ _ _ => x
  | _ => none
theorem liveE_sound {α : Type} {o : AObj} {x : Option α} {y : α} (h : liveE o x = some y) : x = some y ∧ ∀ K : Prop, K → liveP o K := by
  cases o <;> simp only [liveE] at h <;> try (cases h; done)
  exact ⟨h, fun K k => k⟩
def getO (H : List AObj) (i : Nat) : AObj := H.getD i .dead

noncomputable def loadE (q : Option Nat) (cs : List AV) (o : Nat) : Option AV := match q with
  | none => gif (Nat.blt o cs.length) (some (getF cs o))
  | some m => gif (Nat.ble (o + m) cs.length) (some (.agg ((cs.drop o).take m)))
theorem loadE_sound {q : Option Nat} {cs : List AV} {o : Nat} {v : AV} (h : loadE q cs o = some v) {K : AV → Prop} (hk : K v) : loadC q cs o K := by
  cases q <;> simp only [loadE] at h <;> obtain ⟨h1, h2⟩ := gif_some h <;> injection h2 with h2 <;> subst h2 <;> simp only [loadC]
  · rw [getF_eq] at hk
    exact ⟨Nat.blt_eq.mp h1, hk⟩
  · exact ⟨Nat.le_of_ble_eq_true h1, hk⟩
def bdE (d : Int) (x : Option AV) : Option Int := match x with
  | none => some d
  | some (.int _ n) => some n
  | _ => none
theorem bdE_sound {d : Int} {x : Option AV} {n : Int} (h : bdE d x = some n) {K : Int → Prop} (hk : K n) : bdP d x K := by
  cases x with
  | none => simp only [bdE] at h; injection h with h; subst h; exact hk
  | some x =>
    cases x <;> simp only [bdE] at h <;> try (cases h; done)
    injection h with h; subst h; exact hk

/-- What reads. -/
noncomputable def evR (o : IOp) (e : IA → AV) (H : List AObj) : Option AV := match o with
  | .mov x => some (e x)
  | .pick c a b => match e c with
    | .bool t => match t with
      | true => some (e a)
      | false => some (e b)
    | _ => none
  | .bin op x y => binE op (e x) (e y)
  | .eqb n x y => match e x, e y with
    | .bool a, .bool b => some (.bool ((a == b) != n))
    | _, _ => none
  | .eqpn n x => match e x with
    | .nilp => some (.bool (!n))
    | .ptr _ _ => some (.bool n)
    | .own i _ => liveE (getO H i) (some (.bool n))
    | _ => none
  | .eqsn n x => match e x with
    | .nils => some (.bool (!n))
    | .sl len _ => gif (Nat.blt 0 len) (some (.bool n))
    | .osl i _ len => liveE (getO H i) (gif (Nat.blt 0 len) (some (.bool n)))
    | _ => none
  | .not x => match e x with
    | .bool b => some (.bool (!b))
    | _ => none
  | .neg x => match e x with
    | .int k n => some (.int k (k.wrap (0 - n)))
    | _ => none
  | .conv k x => match e x with
    | .int _ n => some (.int k (k.wrap n))
    | _ => none
  | .nilck x => match e x with
    | .ptr cs o => some (.ptr cs o)
    | .own i o => liveE (getO H i) (some (.own i o))
    | _ => none
  | .fld n x => match e x with
    | .ptr cs o => some (.ptr cs (o + n))
    | .own i o => liveE (getO H i) (some (.own i (o + n)))
    | _ => none
  | .idxA sz x i => match e x, e i with
    | .sl len cs, .int _ n => gif (decide (0 ≤ n) && decide (n < len)) (some (.ptr cs (n.toNat * sz)))
    | .osl id off len, .int _ n => liveE (getO H id) (gif (decide (0 ≤ n) && decide (n < len)) (some (.own id (off + n.toNat * sz))))
    | _, _ => none
  | .idxP m sz x i => match e x, e i with
    | .ptr cs o, .int _ n => gif (decide (0 ≤ n) && decide (n < m)) (some (.ptr cs (o + n.toNat * sz)))
    | .own id off, .int _ n => liveE (getO H id) (gif (decide (0 ≤ n) && decide (n < m)) (some (.own id (off + n.toNat * sz))))
    | _, _ => none
  | .idxS x i => match e x, e i with
    | .str s, .int _ n => gif (decide (0 ≤ n) && decide (n < s.length)) (some (.int .u8 (s.getD n.toNat 0).toNat))
    | _, _ => none
  | .load n x => match e x with
    | .ptr cs o => loadE n cs o
    | .own id o => match getO H id with
      | .arr _ _ _ cs => loadE n cs o
      | _ => none
    | _ => none
  | .len x => match e x with
    | .nils => some (.int .i64 0)
    | .sl len _ => gif (Nat.ble len 9223372036854775807) (some (.int .i64 len))
    | .osl id _ len => liveE (getO H id) (gif (Nat.ble len 9223372036854775807) (some (.int .i64 len)))
    | _ => none
  | .lenS x => match e x with
    | .str s => some (.int .i64 s.length)
    | _ => none
  | .max x y => match e x, e y with
    | .int k a, .int _ b => some (.int k (if b > a then b else a))
    | _, _ => none
  | .min x y => match e x, e y with
    | .int k a, .int _ b => some (.int k (if b < a then b else a))
    | _, _ => none
  | .slc sz x lo hi => match e x with
    | .nils => match bdE 0 (lo.map e), bdE 0 (hi.map e) with
      | some l, some h => gif (decide (l = 0) && decide (h = 0)) (some .nils)
      | _, _ => none
    | .sl len cs => match bdE 0 (lo.map e), bdE len (hi.map e) with
      | some l, some h => gif (decide (0 ≤ l) && decide (l ≤ h) && decide (h ≤ len) && Nat.beq cs.length (len * sz)) (some (.sl (h - l).toNat ((cs.drop (l.toNat * sz)).take ((h - l).toNat * sz))))
      | _, _ => none
    | .osl id off len => match bdE 0 (lo.map e), bdE len (hi.map e) with
      | some l, some h => match getO H id with
        | .arr _ es _ _ => gif (Nat.beq es sz && decide (0 ≤ l) && decide (l ≤ h) && decide (h ≤ len)) (match decide (l = h) with
          | true => some (.sl 0 [])
          | false => some (.osl id (off + l.toNat * sz) (h - l).toNat))
        | _ => none
      | _, _ => none
    | _ => none
  | .slcS x lo hi => match e x with
    | .str s => match bdE 0 (lo.map e), bdE s.length (hi.map e) with
      | some l, some h => gif (decide (0 ≤ l) && decide (l ≤ h) && decide (h ≤ s.length)) (some (.str ((s.drop l.toNat).take (h - l).toNat)))
      | _, _ => none
    | _ => none
  | .ext x i => match e x with
    | .tup vs => gif (Nat.blt i vs.length) (some (getF vs i))
    | _ => none
  | .mkfn f0 cap => some (.fn f0 (cap.map e))
  | .eqin n x => match e x with
    | .raw v => match v with
      | .nilIface => some (.bool (!n))
      | .iface _ _ => some (.bool n)
      | _ => none
    | _ => none
  | .lkup z x k => match e x, e k with
    | .mref id, .int k n => match getO H id with
      | .mp k' es => gif (kEq k k') (some ((mget es n).getD z))
      | _ => none
    | _, _ => none
  | _ => none

theorem evR_sound {o : IOp} {f : List AV} {H : List AObj} {v : AV} (h : evR o (ev f) H = some v) {K : AV → Prop} (hk : K v) : rop o f H K := by
  cases o <;> simp only [evR] at h <;> try (cases h; done)
  case mov x => injection h with h; subst h; exact hk
  case pick c a b =>
    simp only [rop]
    generalize ev f c = q at h
    cases q <;> simp only at h <;> try (cases h; done)
    rename_i t
    cases t <;> simp only at h <;> injection h with h <;> subst h <;> simpa [pickP] using hk
  case bin op x y => exact binE_sound h hk
  case eqb n x y =>
    simp only [rop]
    generalize ev f x = q at h
    generalize ev f y = r at h
    cases q <;> cases r <;> simp only at h <;> try (cases h; done)
    injection h with h; subst h; exact hk
  case eqpn n x =>
    simp only [rop]
    generalize ev f x = q at h
    cases q <;> simp only at h <;> try (cases h; done)
    · injection h with h; subst h; exact hk
    · injection h with h; subst h; exact hk
    · obtain ⟨h1, h2⟩ := liveE_sound h
      injection h1 with h1; subst h1; exact h2 _ hk
  case eqsn n x =>
    simp only [rop]
    generalize ev f x = q at h
    cases q <;> simp only at h <;> try (cases h; done)
    · injection h with h; subst h; exact hk
    · obtain ⟨h1, h2⟩ := gif_some h
      injection h2 with h2; subst h2; exact ⟨Nat.blt_eq.mp h1, hk⟩
    · obtain ⟨h1, h2⟩ := liveE_sound h
      obtain ⟨h3, h4⟩ := gif_some h1
      injection h4 with h4; subst h4; exact h2 _ ⟨Nat.blt_eq.mp h3, hk⟩
  case not x =>
    simp only [rop]
    generalize ev f x = q at h
    cases q <;> simp only at h <;> try (cases h; done)
    injection h with h; subst h; exact hk
  case neg x =>
    simp only [rop]
    generalize ev f x = q at h
    cases q <;> simp only at h <;> try (cases h; done)
    injection h with h; subst h; exact hk
  case conv k x =>
    simp only [rop]
    generalize ev f x = q at h
    cases q <;> simp only at h <;> try (cases h; done)
    injection h with h; subst h; exact hk
  case nilck x =>
    simp only [rop]
    generalize ev f x = q at h
    cases q <;> simp only at h <;> try (cases h; done)
    · injection h with h; subst h; exact hk
    · obtain ⟨h1, h2⟩ := liveE_sound h
      injection h1 with h1; subst h1; exact h2 _ hk
  case fld n x =>
    simp only [rop]
    generalize ev f x = q at h
    cases q <;> simp only at h <;> try (cases h; done)
    · injection h with h; subst h; exact hk
    · obtain ⟨h1, h2⟩ := liveE_sound h
      injection h1 with h1; subst h1; exact h2 _ hk
  case idxA n x i =>
    simp only [rop]
    generalize ev f x = q at h
    generalize ev f i = r at h
    cases q <;> cases r <;> simp only at h <;> try (cases h; done)
    · obtain ⟨h1, h2⟩ := gif_some h
      simp only [Bool.and_eq_true, decide_eq_true_eq] at h1
      injection h2 with h2; subst h2; exact ⟨h1, hk⟩
    · obtain ⟨h1, h2⟩ := liveE_sound h
      obtain ⟨h3, h4⟩ := gif_some h1
      simp only [Bool.and_eq_true, decide_eq_true_eq] at h3
      injection h4 with h4; subst h4; exact h2 _ ⟨h3, hk⟩
  case idxP m n x i =>
    simp only [rop]
    generalize ev f x = q at h
    generalize ev f i = r at h
    cases q <;> cases r <;> simp only at h <;> try (cases h; done)
    · obtain ⟨h1, h2⟩ := gif_some h
      simp only [Bool.and_eq_true, decide_eq_true_eq] at h1
      injection h2 with h2; subst h2; exact ⟨h1, hk⟩
    · obtain ⟨h1, h2⟩ := liveE_sound h
      obtain ⟨h3, h4⟩ := gif_some h1
      simp only [Bool.and_eq_true, decide_eq_true_eq] at h3
      injection h4 with h4; subst h4; exact h2 _ ⟨h3, hk⟩
  case idxS x i =>
    simp only [rop]
    generalize ev f x = q at h
    generalize ev f i = r at h
    cases q <;> cases r <;> simp only at h <;> try (cases h; done)
    obtain ⟨h1, h2⟩ := gif_some h
    simp only [Bool.and_eq_true, decide_eq_true_eq] at h1
    injection h2 with h2; subst h2; exact ⟨h1, hk⟩
  case load n x =>
    simp only [rop]
    generalize ev f x = q at h
    cases q <;> simp only at h <;> try (cases h; done)
    · exact loadE_sound h hk
    · simp only [loadP]
      simp only [getO] at h
      rename_i id o
      generalize H.getD id .dead = b at h
      cases b <;> simp only at h <;> try (cases h; done)
      exact loadE_sound h hk
  case len x =>
    simp only [rop]
    generalize ev f x = q at h
    cases q <;> simp only at h <;> try (cases h; done)
    · injection h with h; subst h; exact hk
    · obtain ⟨h1, h2⟩ := gif_some h
      injection h2 with h2; subst h2; exact ⟨Nat.le_of_ble_eq_true h1, hk⟩
    · obtain ⟨h1, h2⟩ := liveE_sound h
      obtain ⟨h3, h4⟩ := gif_some h1
      injection h4 with h4; subst h4; exact h2 _ ⟨Nat.le_of_ble_eq_true h3, hk⟩
  case lenS x =>
    simp only [rop]
    generalize ev f x = q at h
    cases q <;> simp only at h <;> try (cases h; done)
    injection h with h; subst h; exact hk
  case max x y =>
    simp only [rop]
    generalize ev f x = q at h
    generalize ev f y = r at h
    cases q <;> cases r <;> simp only at h <;> try (cases h; done)
    injection h with h; subst h; exact hk
  case min x y =>
    simp only [rop]
    generalize ev f x = q at h
    generalize ev f y = r at h
    cases q <;> cases r <;> simp only at h <;> try (cases h; done)
    injection h with h; subst h; exact hk
  case slc sz x lo hi =>
    simp only [rop]
    generalize ev f x = q at h
    generalize lo.map (ev f) = lo' at h
    generalize hi.map (ev f) = hi' at h
    cases q <;> simp only at h <;> try (cases h; done)
    · split at h <;> try (cases h; done)
      rename_i l m e1 e2
      obtain ⟨h1, h2⟩ := gif_some h
      simp only [Bool.and_eq_true, decide_eq_true_eq] at h1
      injection h2 with h2; subst h2
      simp only [slcP]
      refine bdE_sound e1 ?_
      refine bdE_sound e2 ?_
      exact ⟨h1, hk⟩
    · split at h <;> try (cases h; done)
      rename_i l m e1 e2
      obtain ⟨h1, h2⟩ := gif_some h
      simp only [Bool.and_eq_true, decide_eq_true_eq] at h1
      injection h2 with h2; subst h2
      simp only [slcP]
      refine bdE_sound e1 ?_
      refine bdE_sound e2 ?_
      exact ⟨⟨h1.1.1.1, h1.1.1.2, h1.1.2, Nat.eq_of_beq_eq_true h1.2⟩, hk⟩
    · rename_i id off len
      split at h <;> try (cases h; done)
      rename_i l m e1 e2
      simp only [slcP]
      refine bdE_sound e1 ?_
      refine bdE_sound e2 ?_
      simp only [getO] at h
      generalize H.getD id .dead = b at h
      cases b <;> simp only at h <;> try (cases h; done)
      obtain ⟨h1, h2⟩ := gif_some h
      simp only [Bool.and_eq_true, decide_eq_true_eq] at h1
      refine ⟨⟨Nat.eq_of_beq_eq_true h1.1.1.1, h1.1.1.2, h1.1.2, h1.2⟩, fun e => ?_, fun e => ?_⟩
      · rw [decide_eq_true e] at h2
        injection h2 with h2; subst h2; exact hk
      · rw [decide_eq_false (by omega)] at h2
        injection h2 with h2; subst h2; exact hk
  case slcS x lo hi =>
    simp only [rop]
    generalize ev f x = q at h
    generalize lo.map (ev f) = lo' at h
    generalize hi.map (ev f) = hi' at h
    cases q <;> simp only at h <;> try (cases h; done)
    split at h <;> try (cases h; done)
    rename_i l m e1 e2
    obtain ⟨h1, h2⟩ := gif_some h
    simp only [Bool.and_eq_true, decide_eq_true_eq] at h1
    injection h2 with h2; subst h2
    simp only [slcSP]
    refine bdE_sound e1 ?_
    refine bdE_sound e2 ?_
    exact ⟨⟨h1.1.1, h1.1.2, h1.2⟩, hk⟩
  case ext x i =>
    simp only [rop]
    generalize ev f x = q at h
    cases q <;> simp only at h <;> try (cases h; done)
    obtain ⟨h1, h2⟩ := gif_some h
    injection h2 with h2; subst h2
    rw [getF_eq] at hk
    exact ⟨Nat.blt_eq.mp h1, hk⟩
  case mkfn g cap => injection h with h; subst h; exact hk
  case eqin n x =>
    simp only [rop]
    generalize ev f x = q at h
    cases q <;> simp only at h <;> try (cases h; done)
    rename_i v'
    cases v' <;> simp only at h <;> try (cases h; done)
    · injection h with h; subst h; exact hk
    · injection h with h; subst h; exact hk
  case lkup z x k =>
    simp only [rop]
    generalize ev f x = q at h
    generalize ev f k = r at h
    cases q <;> cases r <;> simp only at h <;> try (cases h; done)
    rename_i id kk n
    simp only [lkupP]
    simp only [getO] at h
    generalize H.getD id .dead = b at h
    cases b <;> simp only at h <;> try (cases h; done)
    obtain ⟨h1, h2⟩ := gif_some h
    simp only [kEq, decide_eq_true_eq] at h1
    injection h2 with h2; subst h2
    exact ⟨h1, hk⟩
end Go.Avm
