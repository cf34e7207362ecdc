/- All unfolding lemmas, as two conjunctions. -/
import Derived.Test.YtflfgjhdofphnabGreatDoorSem
namespace Go.Avm
set_option linter.unusedVariables false
set_option linter.unusedSimpArgs false
set_option maxRecDepth 100000
universe u
/-- A call; what is behind it is not looked into. -/
inductive Tag {α : Sort u} (a : α) : Type where
  | mk
def ACallF (C : Ctx) (f : FuncId) (args : List AV) (s : St) (K : AV → St → Prop) (_ : Tag K) : Prop := ACall C f args s K
theorem v_call (C : Ctx) (f : FuncId) (args : List IA) (s : St) (K : AV → St → Prop) : aop C (.call f args) s K = ACallF C f (args.map (ev s.f)) s K .mk := rfl
theorem v_callv (C : Ctx) (f : FuncId) (cap args : List AV) (s : St) (K : AV → St → Prop) : callvP C (.fn f cap) args s K = (C.ent f ∧ ACallF C f (args ++ cap) s K .mk) := rfl
def FCallF (C : Ctx) (g : FuncId) (args : List AV) (K : AV → Prop) (_ : Tag K) : Prop := FrzL args ∧ ∃ v, C.pc g args v ∧ K v
theorem v_fcall (C : Ctx) (g : FuncId) (args : List IA) (f : List AV) (K : AV → Prop) : fop C (.call g args) f K = FCallF C g (args.map (ev f)) K .mk := rfl
theorem avmW :
  (∀ (C : Ctx) (K : St → Prop) (s : St), aops C K [] s = K s) ∧
  (∀ (C : Ctx) (K : St → Prop) (d : Option Nat) (op : IOp) (os : List IStep) (s : St), aops C K (⟨d, op, none⟩ :: os) s = aop C op s fun x s' => aops C K os ⟨put s'.f d x, s'.H⟩) ∧
  (∀ (C : Ctx) (K : St → Prop) (d : Option Nat) (op : IOp) (j : Nat) (b : Bool) (os : List IStep) (s : St), aops C K (⟨d, op, some (j, b)⟩ :: os) s = wantB b (s.f.getD j .junk) (aop C op s fun x s' => aops C K os ⟨put s'.f d x, s'.H⟩) (aops C K os ⟨put s.f d (.tup []), s.H⟩)) ∧
  (∀ (f : List AV) (x : AV), put f none x = f) ∧
  (∀ (f : List AV) (d : Nat) (x : AV), put f (some d) x = f.set d x) ∧
  (∀ (f : List AV) (i : Nat), ev f (.t i) = f.getD i .junk) ∧
  (∀ (f : List AV) (x : AV), ev f (.v x) = x) ∧
  (∀ (C : Ctx) (ops : List (IStep × Nat)) (K : Ex → St → Prop) (s : St), awp C (.regD ops) K s = dops C (K .normal) ops s) ∧
  (∀ (C : Ctx) (K : St → Prop) (s : St), dops C K [] s = K s) ∧
  (∀ (C : Ctx) (K : St → Prop) (d : Option Nat) (op : IOp) (os : List (IStep × Nat)) (s : St), dops C K ((⟨d, op, none⟩, 0) :: os) s = (fop C op s.f fun x => dops C K os ⟨put s.f d x, s.H⟩)) ∧
  (∀ (C : Ctx) (K : St → Prop) (d : Option Nat) (op : IOp) (j : Nat) (b : Bool) (os : List (IStep × Nat)) (s : St), dops C K ((⟨d, op, some (j, b)⟩, 0) :: os) s = wantB b (s.f.getD j .junk) (fop C op s.f fun x => dops C K os ⟨put s.f d x, s.H⟩) (dops C K os ⟨put s.f d (.tup []), s.H⟩)) ∧
  (∀ (C : Ctx) (K : St → Prop) (d : Option Nat) (op : IOp) (os : List (IStep × Nat)) (s : St), dops C K ((⟨d, op, none⟩, 1) :: os) s = (rop op s.f s.H fun x => dops C K os ⟨put s.f d x, s.H⟩)) ∧
  (∀ (C : Ctx) (K : St → Prop) (d : Option Nat) (op : IOp) (j : Nat) (b : Bool) (os : List (IStep × Nat)) (s : St), dops C K ((⟨d, op, some (j, b)⟩, 1) :: os) s = wantB b (s.f.getD j .junk) (rop op s.f s.H fun x => dops C K os ⟨put s.f d x, s.H⟩) (dops C K os ⟨put s.f d (.tup []), s.H⟩)) ∧
  (∀ (C : Ctx) (K : St → Prop) (d : Option Nat) (op : IOp) (os : List (IStep × Nat)) (s : St), dops C K ((⟨d, op, none⟩, 2) :: os) s = (wop C op s.f s.H fun x k H => dops C K os ⟨put (killF k s.f) d x, H⟩)) ∧
  (∀ (C : Ctx) (K : St → Prop) (d : Option Nat) (op : IOp) (j : Nat) (b : Bool) (os : List (IStep × Nat)) (s : St), dops C K ((⟨d, op, some (j, b)⟩, 2) :: os) s = wantB b (s.f.getD j .junk) (wop C op s.f s.H fun x k H => dops C K os ⟨put (killF k s.f) d x, H⟩) (dops C K os ⟨put s.f d (.tup []), s.H⟩)) ∧
  (∀ (C : Ctx) (K : St → Prop) (d : Option Nat) (op : IOp) (os : List (IStep × Nat)) (s : St), dops C K ((⟨d, op, none⟩, 3) :: os) s = (wop C op s.f s.H fun x k H => dops C K os ⟨put (killF k s.f) d x, H⟩)) ∧
  (∀ (C : Ctx) (K : St → Prop) (d : Option Nat) (op : IOp) (j : Nat) (b : Bool) (os : List (IStep × Nat)) (s : St), dops C K ((⟨d, op, some (j, b)⟩, 3) :: os) s = wantB b (s.f.getD j .junk) (wop C op s.f s.H fun x k H => dops C K os ⟨put (killF k s.f) d x, H⟩) (dops C K os ⟨put s.f d (.tup []), s.H⟩)) ∧
  (∀ (f : List AV), killF none f = f) ∧
  (∀ (f : List AV) (i : Nat), killF (some i) f = killL i f) ∧
  (∀ (x : IA) (f : List AV) (H : List AObj) (K : AV → Prop), rop (.mov x) f H K = (K (ev f x))) ∧
  (∀ (c a b : IA) (f : List AV) (H : List AObj) (K : AV → Prop), rop (.pick c a b) f H K = (pickP (ev f c) (ev f a) (ev f b) K)) ∧
  (∀ (op : BinOp) (x y : IA) (f : List AV) (H : List AObj) (K : AV → Prop), rop (.bin op x y) f H K = (binP op (ev f x) (ev f y) K)) ∧
  (∀ (n : Bool) (x y : IA) (f : List AV) (H : List AObj) (K : AV → Prop), rop (.eqb n x y) f H K = (eqbP n (ev f x) (ev f y) K)) ∧
  (∀ (n : Bool) (x : IA) (f : List AV) (H : List AObj) (K : AV → Prop), rop (.eqpn n x) f H K = (eqpnP H n (ev f x) K)) ∧
  (∀ (n : Bool) (x : IA) (f : List AV) (H : List AObj) (K : AV → Prop), rop (.eqsn n x) f H K = (eqsnP H n (ev f x) K)) ∧
  (∀ (x : IA) (f : List AV) (H : List AObj) (K : AV → Prop), rop (.not x) f H K = (notP (ev f x) K)) ∧
  (∀ (x : IA) (f : List AV) (H : List AObj) (K : AV → Prop), rop (.neg x) f H K = (negP (ev f x) K)) ∧
  (∀ (k : IntKind) (x : IA) (f : List AV) (H : List AObj) (K : AV → Prop), rop (.conv k x) f H K = (convP k (ev f x) K)) ∧
  (∀ (x : IA) (f : List AV) (H : List AObj) (K : AV → Prop), rop (.nilck x) f H K = (nilckP H (ev f x) K)) ∧
  (∀ (n : Nat) (x : IA) (f : List AV) (H : List AObj) (K : AV → Prop), rop (.fld n x) f H K = (fldP H n (ev f x) K)) ∧
  (∀ (n : Nat) (x i : IA) (f : List AV) (H : List AObj) (K : AV → Prop), rop (.idxA n x i) f H K = (idxAP H n (ev f x) (ev f i) K)) ∧
  (∀ (m n : Nat) (x i : IA) (f : List AV) (H : List AObj) (K : AV → Prop), rop (.idxP m n x i) f H K = (idxPP H m n (ev f x) (ev f i) K)) ∧
  (∀ (x i : IA) (f : List AV) (H : List AObj) (K : AV → Prop), rop (.idxS x i) f H K = (idxSP (ev f x) (ev f i) K)) ∧
  (∀ (n : Option Nat) (x : IA) (f : List AV) (H : List AObj) (K : AV → Prop), rop (.load n x) f H K = (loadP H n (ev f x) K)) ∧
  (∀ (x : IA) (f : List AV) (H : List AObj) (K : AV → Prop), rop (.len x) f H K = (lenQ H (ev f x) K)) ∧
  (∀ (x : IA) (f : List AV) (H : List AObj) (K : AV → Prop), rop (.lenS x) f H K = (lenSP (ev f x) K)) ∧
  (∀ (x y : IA) (f : List AV) (H : List AObj) (K : AV → Prop), rop (.max x y) f H K = (maxP (ev f x) (ev f y) K)) ∧
  (∀ (x y : IA) (f : List AV) (H : List AObj) (K : AV → Prop), rop (.min x y) f H K = (minP (ev f x) (ev f y) K)) ∧
  (∀ (n : Nat) (x : IA) (lo hi : Option IA) (f : List AV) (H : List AObj) (K : AV → Prop), rop (.slc n x lo hi) f H K = (slcP H n (ev f x) (lo.map (ev f)) (hi.map (ev f)) K)) ∧
  (∀ (x : IA) (lo hi : Option IA) (f : List AV) (H : List AObj) (K : AV → Prop), rop (.slcS x lo hi) f H K = (slcSP (ev f x) (lo.map (ev f)) (hi.map (ev f)) K)) ∧
  (∀ (x : IA) (i : Nat) (f : List AV) (H : List AObj) (K : AV → Prop), rop (.ext x i) f H K = (extP (ev f x) i K)) ∧
  (∀ (zero : List AV) (parts : List (Nat × Nat × IA)) (f : List AV) (H : List AObj) (K : AV → Prop), rop (.build zero parts) f H K = ((fillOk H zero.length (evP f parts) ∧ K (.agg (fillP zero (evP f parts)))))) ∧
  (∀ (f0 : FuncId) (cap : List IA) (f : List AV) (H : List AObj) (K : AV → Prop), rop (.mkfn f0 cap) f H K = (K (.fn f0 (cap.map (ev f))))) ∧
  (∀ (x : IA) (f : List AV) (H : List AObj) (K : AV → Prop), rop (.b2s x) f H K = (b2sP H (ev f x) K)) ∧
  (∀ (n : Bool) (x : IA) (f : List AV) (H : List AObj) (K : AV → Prop), rop (.eqin n x) f H K = (eqinP n (ev f x) K)) ∧
  (∀ (zero : AV) (x k : IA) (f : List AV) (H : List AObj) (K : AV → Prop), rop (.lkup zero x k) f H K = (lkupP H zero (ev f x) (ev f k) K)) ∧
  (∀ (C : Ctx) (op : BinOp) (x y : IA) (f : List AV) (K : AV → Prop), fop C (.bin op x y) f K = (FrzL [ev f x, ev f y] ∧ binP op (ev f x) (ev f y) K)) ∧
  (∀ (C : Ctx) (n : Bool) (x y : IA) (f : List AV) (K : AV → Prop), fop C (.eqb n x y) f K = (FrzL [ev f x, ev f y] ∧ eqbP n (ev f x) (ev f y) K)) ∧
  (∀ (C : Ctx) (n : Bool) (x : IA) (f : List AV) (K : AV → Prop), fop C (.eqpn n x) f K = (FrzL [ev f x] ∧ eqpnP [] n (ev f x) K)) ∧
  (∀ (C : Ctx) (n : Bool) (x : IA) (f : List AV) (K : AV → Prop), fop C (.eqsn n x) f K = (FrzL [ev f x] ∧ eqsnP [] n (ev f x) K)) ∧
  (∀ (C : Ctx) (x : IA) (f : List AV) (K : AV → Prop), fop C (.not x) f K = (FrzL [ev f x] ∧ notP (ev f x) K)) ∧
  (∀ (C : Ctx) (x : IA) (f : List AV) (K : AV → Prop), fop C (.neg x) f K = (FrzL [ev f x] ∧ negP (ev f x) K)) ∧
  (∀ (C : Ctx) (k : IntKind) (x : IA) (f : List AV) (K : AV → Prop), fop C (.conv k x) f K = (FrzL [ev f x] ∧ convP k (ev f x) K)) ∧
  (∀ (C : Ctx) (x : IA) (f : List AV) (K : AV → Prop), fop C (.nilck x) f K = (FrzL [ev f x] ∧ nilckP [] (ev f x) K)) ∧
  (∀ (C : Ctx) (n : Nat) (x : IA) (f : List AV) (K : AV → Prop), fop C (.fld n x) f K = (FrzL [ev f x] ∧ fldP [] n (ev f x) K)) ∧
  (∀ (C : Ctx) (n : Nat) (x i : IA) (f : List AV) (K : AV → Prop), fop C (.idxA n x i) f K = (FrzL [ev f x, ev f i] ∧ idxAP [] n (ev f x) (ev f i) K)) ∧
  (∀ (C : Ctx) (m n : Nat) (x i : IA) (f : List AV) (K : AV → Prop), fop C (.idxP m n x i) f K = (FrzL [ev f x, ev f i] ∧ idxPP [] m n (ev f x) (ev f i) K)) ∧
  (∀ (C : Ctx) (x i : IA) (f : List AV) (K : AV → Prop), fop C (.idxS x i) f K = (FrzL [ev f x, ev f i] ∧ idxSP (ev f x) (ev f i) K)) ∧
  (∀ (C : Ctx) (n : Option Nat) (x : IA) (f : List AV) (K : AV → Prop), fop C (.load n x) f K = (FrzL [ev f x] ∧ loadP [] n (ev f x) K)) ∧
  (∀ (C : Ctx) (x : IA) (f : List AV) (K : AV → Prop), fop C (.len x) f K = (FrzL [ev f x] ∧ lenQ [] (ev f x) K)) ∧
  (∀ (C : Ctx) (x : IA) (f : List AV) (K : AV → Prop), fop C (.lenS x) f K = (FrzL [ev f x] ∧ lenSP (ev f x) K)) ∧
  (∀ (C : Ctx) (x y : IA) (f : List AV) (K : AV → Prop), fop C (.max x y) f K = (FrzL [ev f x, ev f y] ∧ maxP (ev f x) (ev f y) K)) ∧
  (∀ (C : Ctx) (x y : IA) (f : List AV) (K : AV → Prop), fop C (.min x y) f K = (FrzL [ev f x, ev f y] ∧ minP (ev f x) (ev f y) K)) ∧
  (∀ (C : Ctx) (n : Nat) (x : IA) (lo hi : Option IA) (f : List AV) (K : AV → Prop), fop C (.slc n x lo hi) f K = (FrzL [ev f x] ∧ slcP [] n (ev f x) (lo.map (ev f)) (hi.map (ev f)) K)) ∧
  (∀ (C : Ctx) (x : IA) (lo hi : Option IA) (f : List AV) (K : AV → Prop), fop C (.slcS x lo hi) f K = (FrzL [ev f x] ∧ slcSP (ev f x) (lo.map (ev f)) (hi.map (ev f)) K)) ∧
  (∀ (C : Ctx) (x : IA) (i : Nat) (f : List AV) (K : AV → Prop), fop C (.ext x i) f K = (FrzL [ev f x] ∧ extP (ev f x) i K)) ∧
  (∀ (C : Ctx) (zero : List AV) (parts : List (Nat × Nat × IA)) (f : List AV) (K : AV → Prop), fop C (.build zero parts) f K = (FrzL (zero ++ (evP f parts).map fun p => p.2.2) ∧ (fillOk [] zero.length (evP f parts) ∧ K (.agg (fillP zero (evP f parts)))))) ∧
  (∀ (C : Ctx) (x : IA) (f : List AV) (K : AV → Prop), fop C (.b2s x) f K = (FrzL [ev f x] ∧ b2sP [] (ev f x) K)) ∧
  (∀ (C : Ctx) (n : Bool) (x : IA) (f : List AV) (K : AV → Prop), fop C (.eqin n x) f K = (FrzL [ev f x] ∧ eqinP n (ev f x) K)) ∧
  (∀ (C : Ctx) (x : IA) (f : List AV) (K : AV → Prop), fop C (.mov x) f K = (okC x ∧ K (ev f x))) ∧
  (∀ (C : Ctx) (c a b : IA) (f : List AV) (K : AV → Prop), fop C (.pick c a b) f K = ((okC a ∧ okC b) ∧ pickP (ev f c) (ev f a) (ev f b) K)) ∧
  (∀ (C : Ctx) (t sz len : Nat) (zero : List AV) (parts : List (Nat × Nat × IA)) (f : List AV) (K : AV → Prop), fop C (.bslice t sz len zero parts) f K = ((FrzL zero ∧ FrzL ((evP f parts).map fun p => p.2.2)) ∧ fillOk [] (len * sz) (evP f parts) ∧ K (.sl len (fillP (reps len zero) (evP f parts))))) ∧
  (∀ (C : Ctx) (g : IA) (args : List IA) (f : List AV) (K : AV → Prop), fop C (.callv g args) f K = fcallvP C (ev f g) (args.map (ev f)) K) ∧
  (∀ (i : Nat), okC (.t i) = True) ∧
  (∀ (x : AV), okC (.v x) = Frz x) ∧
  (∀ (C : Ctx) (n : Nat) (x v : IA) (f : List AV) (H : List AObj) (K : AV → Option Nat → List AObj → Prop), wop C (.store n x v) f H K = (storeP H n (ev f x) (ev f v) fun H => K (.tup []) none H)) ∧
  (∀ (C : Ctx) (t : TypeId) (zero : List AV) (f : List AV) (H : List AObj) (K : AV → Option Nat → List AObj → Prop), wop C (.alloc t zero) f H K = K (.own H.length 0) none (H ++ [.arr t zero.length false zero])) ∧
  (∀ (C : Ctx) (t sz : Nat) (x : IA) (f : List AV) (H : List AObj) (K : AV → Option Nat → List AObj → Prop), wop C (.box t sz x) f H K = (((cellsOf (ev f x)).length = sz ∧ 0 < sz ∧ OneL H (cellsOf (ev f x))) ∧ K (.own H.length 0) none (H ++ [.arr t sz false (cellsOf (ev f x))]))) ∧
  (∀ (C : Ctx) (t sz bytes : Nat) (zero : List AV) (l c : IA) (f : List AV) (H : List AObj) (K : AV → Option Nat → List AObj → Prop), wop C (.mk t sz bytes zero l c) f H K = wmkP H t sz bytes zero (ev f l) (ev f c) K) ∧
  (∀ (C : Ctx) (t sz bytes : Nat) (b x : IA) (f : List AV) (H : List AObj) (K : AV → Option Nat → List AObj → Prop), wop C (.app t sz bytes b x) f H K = wappP C H t sz bytes (ev f b) (ev f x) K) ∧
  (∀ (C : Ctx) (g : FuncId) (args : List IA) (f : List AV) (H : List AObj) (K : AV → Option Nat → List AObj → Prop), wop C (.call g args) f H K = (C.call g (args.map (ev f)) H fun x H => K x none H)) ∧
  (∀ (C : Ctx) (x : IA) (s : St) (K : AV → St → Prop), aop C (.mov x) s K = K (ev s.f x) s) ∧
  (∀ (C : Ctx) (c a b : IA) (s : St) (K : AV → St → Prop), aop C (.pick c a b) s K = pickP (ev s.f c) (ev s.f a) (ev s.f b) (K · s)) ∧
  (∀ (C : Ctx) (op : BinOp) (x y : IA) (s : St) (K : AV → St → Prop), aop C (.bin op x y) s K = binP op (ev s.f x) (ev s.f y) (K · s)) ∧
  (∀ (C : Ctx) (n : Bool) (x y : IA) (s : St) (K : AV → St → Prop), aop C (.eqb n x y) s K = eqbP n (ev s.f x) (ev s.f y) (K · s)) ∧
  (∀ (C : Ctx) (n : Bool) (x : IA) (s : St) (K : AV → St → Prop), aop C (.eqpn n x) s K = eqpnP s.H n (ev s.f x) (K · s)) ∧
  (∀ (C : Ctx) (n : Bool) (x : IA) (s : St) (K : AV → St → Prop), aop C (.eqsn n x) s K = eqsnP s.H n (ev s.f x) (K · s)) ∧
  (∀ (C : Ctx) (x : IA) (s : St) (K : AV → St → Prop), aop C (.not x) s K = notP (ev s.f x) (K · s)) ∧
  (∀ (C : Ctx) (x : IA) (s : St) (K : AV → St → Prop), aop C (.neg x) s K = negP (ev s.f x) (K · s)) ∧
  (∀ (C : Ctx) (k : IntKind) (x : IA) (s : St) (K : AV → St → Prop), aop C (.conv k x) s K = convP k (ev s.f x) (K · s)) ∧
  (∀ (C : Ctx) (x : IA) (s : St) (K : AV → St → Prop), aop C (.nilck x) s K = nilckP s.H (ev s.f x) (K · s)) ∧
  (∀ (C : Ctx) (n : Nat) (x : IA) (s : St) (K : AV → St → Prop), aop C (.fld n x) s K = fldP s.H n (ev s.f x) (K · s)) ∧
  (∀ (C : Ctx) (n : Nat) (x i : IA) (s : St) (K : AV → St → Prop), aop C (.idxA n x i) s K = idxAP s.H n (ev s.f x) (ev s.f i) (K · s)) ∧
  (∀ (C : Ctx) (m n : Nat) (x i : IA) (s : St) (K : AV → St → Prop), aop C (.idxP m n x i) s K = idxPP s.H m n (ev s.f x) (ev s.f i) (K · s)) ∧
  (∀ (C : Ctx) (x i : IA) (s : St) (K : AV → St → Prop), aop C (.idxS x i) s K = idxSP (ev s.f x) (ev s.f i) (K · s)) ∧
  (∀ (C : Ctx) (n : Option Nat) (x : IA) (s : St) (K : AV → St → Prop), aop C (.load n x) s K = loadP s.H n (ev s.f x) (K · s)) ∧
  (∀ (C : Ctx) (n : Nat) (x v : IA) (s : St) (K : AV → St → Prop), aop C (.store n x v) s K = storeP s.H n (ev s.f x) (ev s.f v) fun H => K (.tup []) ⟨s.f, H⟩) ∧
  (∀ (C : Ctx) (x : IA) (s : St) (K : AV → St → Prop), aop C (.len x) s K = lenP s.H (ev s.f x) (K · s)) ∧
  (∀ (C : Ctx) (x : IA) (s : St) (K : AV → St → Prop), aop C (.lenS x) s K = lenSP (ev s.f x) (K · s)) ∧
  (∀ (C : Ctx) (x y : IA) (s : St) (K : AV → St → Prop), aop C (.max x y) s K = maxP (ev s.f x) (ev s.f y) (K · s)) ∧
  (∀ (C : Ctx) (x y : IA) (s : St) (K : AV → St → Prop), aop C (.min x y) s K = minP (ev s.f x) (ev s.f y) (K · s)) ∧
  (∀ (C : Ctx) (n : Nat) (x : IA) (lo hi : Option IA) (s : St) (K : AV → St → Prop), aop C (.slc n x lo hi) s K = slcP s.H n (ev s.f x) (lo.map (ev s.f)) (hi.map (ev s.f)) (K · s)) ∧
  (∀ (C : Ctx) (x : IA) (lo hi : Option IA) (s : St) (K : AV → St → Prop), aop C (.slcS x lo hi) s K = slcSP (ev s.f x) (lo.map (ev s.f)) (hi.map (ev s.f)) (K · s)) ∧
  (∀ (C : Ctx) (x : IA) (i : Nat) (s : St) (K : AV → St → Prop), aop C (.ext x i) s K = extP (ev s.f x) i (K · s)) ∧
  (∀ (C : Ctx) (t : TypeId) (zero : List AV) (s : St) (K : AV → St → Prop), aop C (.alloc t zero) s K = K (.own s.H.length 0) ⟨s.f, s.H ++ [.arr t zero.length false zero]⟩) ∧
  (∀ (C : Ctx) (t : TypeId) (sz : Nat) (x : IA) (s : St) (K : AV → St → Prop), aop C (.box t sz x) s K = (((cellsOf (ev s.f x)).length = sz ∧ 0 < sz ∧ OneL s.H (cellsOf (ev s.f x))) ∧ K (.own s.H.length 0) ⟨s.f, s.H ++ [.arr t sz false (cellsOf (ev s.f x))]⟩)) ∧
  (∀ (C : Ctx) (zero : List AV) (parts : List (Nat × Nat × IA)) (s : St) (K : AV → St → Prop), aop C (.build zero parts) s K = (fillOk s.H zero.length (evP s.f parts) ∧ K (.agg (fillP zero (evP s.f parts))) s)) ∧
  (∀ (C : Ctx) (t : TypeId) (sz len : Nat) (zero : List AV) (parts : List (Nat × Nat × IA)) (s : St) (K : AV → St → Prop), aop C (.bslice t sz len zero parts) s K = (fillOk s.H (len * sz) (evP s.f parts) ∧ K (.osl s.H.length 0 len) ⟨s.f, s.H ++ [.arr t sz false (fillP (reps len zero) (evP s.f parts))]⟩)) ∧
  (∀ (C : Ctx) (t : TypeId) (sz bytes : Nat) (zero : List AV) (l c : IA) (s : St) (K : AV → St → Prop), aop C (.mk t sz bytes zero l c) s K = mkP s t sz bytes zero (ev s.f l) (ev s.f c) K) ∧
  (∀ (C : Ctx) (t : TypeId) (sz bytes : Nat) (b x : IA) (s : St) (K : AV → St → Prop), aop C (.app t sz bytes b x) s K = appP C.n0 s t sz bytes (ev s.f b) (ev s.f x) K) ∧
  (∀ (C : Ctx) (g : IA) (args : List IA) (s : St) (K : AV → St → Prop), aop C (.callv g args) s K = callvP C (ev s.f g) (args.map (ev s.f)) s K) ∧
  (∀ (C : Ctx) (f : FuncId) (cap : List IA) (s : St) (K : AV → St → Prop), aop C (.mkfn f cap) s K = K (.fn f (cap.map (ev s.f))) s) ∧
  (∀ (C : Ctx) (x : IA) (s : St) (K : AV → St → Prop), aop C (.b2s x) s K = b2sP s.H (ev s.f x) (K · s)) ∧
  (∀ (C : Ctx) (n : Bool) (x : IA) (s : St) (K : AV → St → Prop), aop C (.eqin n x) s K = eqinP n (ev s.f x) (K · s)) ∧
  (∀ (C : Ctx) (k : IntKind) (s : St) (K : AV → St → Prop), aop C (.mkmap k) s K = K (.mref s.H.length) ⟨s.f, s.H ++ [.mp k []]⟩) ∧
  (∀ (C : Ctx) (zero : AV) (x k : IA) (s : St) (K : AV → St → Prop), aop C (.lkup zero x k) s K = lkupP s.H zero (ev s.f x) (ev s.f k) (K · s)) ∧
  (∀ (C : Ctx) (x k v : IA) (s : St) (K : AV → St → Prop), aop C (.mapup x k v) s K = mapupP s.H (ev s.f x) (ev s.f k) (ev s.f v) fun H => K (.tup []) ⟨s.f, H⟩) ∧
  (∀ (C : Ctx) (K : Ex → St → Prop) (s : St), awp C .skip K s = K .normal s) ∧
  (∀ (C : Ctx) (ops : List IStep) (K : Ex → St → Prop) (s : St), awp C (.reg ops) K s = aops C (K .normal) ops s) ∧
  (∀ (C : Ctx) (a b : IC) (K : Ex → St → Prop) (s : St), awp C (.seq a b) K s = awp C a (exSeq (awp C b K) K) s) ∧
  (∀ (C : Ctx) (c : IA) (a b : IC) (K : Ex → St → Prop) (s : St), awp C (.cond c a b) K s = condP (ev s.f c) (awp C a K s) (awp C b K s)) ∧
  (∀ (C : Ctx) (i : Nat) (b : IC) (K : Ex → St → Prop) (s : St), awp C (.block i b) K s = awp C b (exBlock i K) s) ∧
  (∀ (C : Ctx) (i : Nat) (K : Ex → St → Prop) (s : St), awp C (.exit i) K s = K (.exit i) s) ∧
  (∀ (C : Ctx) (K : Ex → St → Prop) (s : St), awp C .ret K s = K .ret s) ∧
  (∀ (N : St → Prop) (K : Ex → St → Prop) (s : St), exSeq N K .normal s = N s) ∧
  (∀ (N : St → Prop) (K : Ex → St → Prop) (i : Nat) (s : St), exSeq N K (.exit i) s = K (.exit i) s) ∧
  (∀ (N : St → Prop) (K : Ex → St → Prop) (s : St), exSeq N K .ret s = K .ret s) ∧
  (∀ (i : Nat) (K : Ex → St → Prop) (s : St), exBlock i K .normal s = K .normal s) ∧
  (∀ (i j : Nat) (K : Ex → St → Prop) (s : St), exBlock i K (.exit j) s = if j = i then K .normal s else K (.exit j) s) ∧
  (∀ (i : Nat) (K : Ex → St → Prop) (s : St), exBlock i K .ret s = K .ret s) ∧
  (∀ (C : Ctx) (g : FuncId) (args : List IA) (f : List AV) (K : AV → Prop), fop C (.call g args) f K = FCallF C g (args.map (ev f)) K .mk) ∧
  (∀ (C : Ctx) (f : FuncId) (args : List IA) (s : St) (K : AV → St → Prop), aop C (.call f args) s K = ACallF C f (args.map (ev s.f)) s K .mk) :=
  ⟨by intros; first | rfl | simp only [w_nil],
   by intros; first | rfl | simp only [w_cons],
   by intros; first | rfl | simp only [w_consG],
   by intros; first | rfl | simp only [w_put0],
   by intros; first | rfl | simp only [w_put1],
   by intros; first | rfl | simp only [w_evt],
   by intros; first | rfl | simp only [w_evv],
   by intros; first | rfl | simp only [w_regD],
   by intros; first | rfl | simp only [w_dnil],
   by intros; first | rfl | simp only [w_d0],
   by intros; first | rfl | simp only [w_d0G],
   by intros; first | rfl | simp only [w_d1],
   by intros; first | rfl | simp only [w_d1G],
   by intros; first | rfl | simp only [w_d2],
   by intros; first | rfl | simp only [w_d2G],
   by intros; first | rfl | simp only [w_d3],
   by intros; first | rfl | simp only [w_d3G],
   by intros; first | rfl | simp only [w_killF0],
   by intros; first | rfl | simp only [w_killF1],
   by intros; first | rfl | simp only [w_r_mov],
   by intros; first | rfl | simp only [w_r_pick],
   by intros; first | rfl | simp only [w_r_bin],
   by intros; first | rfl | simp only [w_r_eqb],
   by intros; first | rfl | simp only [w_r_eqpn],
   by intros; first | rfl | simp only [w_r_eqsn],
   by intros; first | rfl | simp only [w_r_not],
   by intros; first | rfl | simp only [w_r_neg],
   by intros; first | rfl | simp only [w_r_conv],
   by intros; first | rfl | simp only [w_r_nilck],
   by intros; first | rfl | simp only [w_r_fld],
   by intros; first | rfl | simp only [w_r_idxA],
   by intros; first | rfl | simp only [w_r_idxP],
   by intros; first | rfl | simp only [w_r_idxS],
   by intros; first | rfl | simp only [w_r_load],
   by intros; first | rfl | simp only [w_r_len],
   by intros; first | rfl | simp only [w_r_lenS],
   by intros; first | rfl | simp only [w_r_max],
   by intros; first | rfl | simp only [w_r_min],
   by intros; first | rfl | simp only [w_r_slc],
   by intros; first | rfl | simp only [w_r_slcS],
   by intros; first | rfl | simp only [w_r_ext],
   by intros; first | rfl | simp only [w_r_build],
   by intros; first | rfl | simp only [w_r_mkfn],
   by intros; first | rfl | simp only [w_r_b2s],
   by intros; first | rfl | simp only [w_r_eqin],
   by intros; first | rfl | simp only [w_r_lkup],
   by intros; first | rfl | simp only [w_f_bin],
   by intros; first | rfl | simp only [w_f_eqb],
   by intros; first | rfl | simp only [w_f_eqpn],
   by intros; first | rfl | simp only [w_f_eqsn],
   by intros; first | rfl | simp only [w_f_not],
   by intros; first | rfl | simp only [w_f_neg],
   by intros; first | rfl | simp only [w_f_conv],
   by intros; first | rfl | simp only [w_f_nilck],
   by intros; first | rfl | simp only [w_f_fld],
   by intros; first | rfl | simp only [w_f_idxA],
   by intros; first | rfl | simp only [w_f_idxP],
   by intros; first | rfl | simp only [w_f_idxS],
   by intros; first | rfl | simp only [w_f_load],
   by intros; first | rfl | simp only [w_f_len],
   by intros; first | rfl | simp only [w_f_lenS],
   by intros; first | rfl | simp only [w_f_max],
   by intros; first | rfl | simp only [w_f_min],
   by intros; first | rfl | simp only [w_f_slc],
   by intros; first | rfl | simp only [w_f_slcS],
   by intros; first | rfl | simp only [w_f_ext],
   by intros; first | rfl | simp only [w_f_build],
   by intros; first | rfl | simp only [w_f_b2s],
   by intros; first | rfl | simp only [w_f_eqin],
   by intros; first | rfl | simp only [w_f_mov],
   by intros; first | rfl | simp only [w_f_pick],
   by intros; first | rfl | simp only [w_f_bslice],
   by intros; first | rfl | simp only [w_f_callv],
   by intros; first | rfl | simp only [w_okt],
   by intros; first | rfl | simp only [w_okv],
   by intros; first | rfl | simp only [w_w_store],
   by intros; first | rfl | simp only [w_w_alloc],
   by intros; first | rfl | simp only [w_w_box],
   by intros; first | rfl | simp only [w_w_mk],
   by intros; first | rfl | simp only [w_w_app],
   by intros; first | rfl | simp only [w_w_call],
   by intros; first | rfl | simp only [w_mov],
   by intros; first | rfl | simp only [w_pick],
   by intros; first | rfl | simp only [w_bin],
   by intros; first | rfl | simp only [w_eqb],
   by intros; first | rfl | simp only [w_eqpn],
   by intros; first | rfl | simp only [w_eqsn],
   by intros; first | rfl | simp only [w_not],
   by intros; first | rfl | simp only [w_neg],
   by intros; first | rfl | simp only [w_conv],
   by intros; first | rfl | simp only [w_nilck],
   by intros; first | rfl | simp only [w_fld],
   by intros; first | rfl | simp only [w_idxA],
   by intros; first | rfl | simp only [w_idxP],
   by intros; first | rfl | simp only [w_idxS],
   by intros; first | rfl | simp only [w_load],
   by intros; first | rfl | simp only [w_store],
   by intros; first | rfl | simp only [w_len],
   by intros; first | rfl | simp only [w_lenS],
   by intros; first | rfl | simp only [w_max],
   by intros; first | rfl | simp only [w_min],
   by intros; first | rfl | simp only [w_slc],
   by intros; first | rfl | simp only [w_slcS],
   by intros; first | rfl | simp only [w_ext],
   by intros; first | rfl | simp only [w_alloc],
   by intros; first | rfl | simp only [w_box],
   by intros; first | rfl | simp only [w_build],
   by intros; first | rfl | simp only [w_bslice],
   by intros; first | rfl | simp only [w_mk],
   by intros; first | rfl | simp only [w_app],
   by intros; first | rfl | simp only [w_callv],
   by intros; first | rfl | simp only [w_mkfn],
   by intros; first | rfl | simp only [w_b2s],
   by intros; first | rfl | simp only [w_eqin],
   by intros; first | rfl | simp only [w_mkmap],
   by intros; first | rfl | simp only [w_lkup],
   by intros; first | rfl | simp only [w_mapup],
   by intros; first | rfl | simp only [w_skip],
   by intros; first | rfl | simp only [w_reg],
   by intros; first | rfl | simp only [w_seq],
   by intros; first | rfl | simp only [w_cond],
   by intros; first | rfl | simp only [w_block],
   by intros; first | rfl | simp only [w_exit],
   by intros; first | rfl | simp only [w_ret],
   by intros; first | rfl | simp only [w_exSeqN],
   by intros; first | rfl | simp only [w_exSeqE],
   by intros; first | rfl | simp only [w_exSeqR],
   by intros; first | rfl | simp only [w_exBlockN],
   by intros; first | rfl | simp only [w_exBlockE],
   by intros; first | rfl | simp only [w_exBlockR],
   by intros; first | rfl | simp only [v_fcall],
   by intros; first | rfl | simp only [v_call]⟩
theorem avmD :
  (∀ (k : IntKind) (a b : Int) (K : AV → Prop), binP .add (.int k a) (.int k b) K = K (.int k (k.wrap (a + b)))) ∧
  (∀ (k : IntKind) (a b : Int) (K : AV → Prop), binP .sub (.int k a) (.int k b) K = K (.int k (k.wrap (a - b)))) ∧
  (∀ (k : IntKind) (a b : Int) (K : AV → Prop), binP .mul (.int k a) (.int k b) K = K (.int k (k.wrap (a * b)))) ∧
  (∀ (k : IntKind) (a b : Int) (K : AV → Prop), binP .and (.int k a) (.int k b) K = K (.int k (k.wrap (BitVec.ofInt k.bits a &&& BitVec.ofInt k.bits b).toNat))) ∧
  (∀ (k : IntKind) (a b : Int) (K : AV → Prop), binP .or (.int k a) (.int k b) K = K (.int k (k.wrap (BitVec.ofInt k.bits a ||| BitVec.ofInt k.bits b).toNat))) ∧
  (∀ (k : IntKind) (a b : Int) (K : AV → Prop), binP .xor (.int k a) (.int k b) K = K (.int k (k.wrap (BitVec.ofInt k.bits a ^^^ BitVec.ofInt k.bits b).toNat))) ∧
  (∀ (k : IntKind) (a b : Int) (K : AV → Prop), binP .quo (.int k a) (.int k b) K = (b ≠ 0 ∧ K (.int k (k.wrap (a.tdiv b))))) ∧
  (∀ (k : IntKind) (a b : Int) (K : AV → Prop), binP .rem (.int k a) (.int k b) K = (b ≠ 0 ∧ K (.int k (a.tmod b)))) ∧
  (∀ (k : IntKind) (a b : Int) (K : AV → Prop), binP .eql (.int k a) (.int k b) K = K (.bool (decide (a = b)))) ∧
  (∀ (k : IntKind) (a b : Int) (K : AV → Prop), binP .neq (.int k a) (.int k b) K = K (.bool (decide (a ≠ b)))) ∧
  (∀ (k : IntKind) (a b : Int) (K : AV → Prop), binP .lss (.int k a) (.int k b) K = K (.bool (decide (a < b)))) ∧
  (∀ (k : IntKind) (a b : Int) (K : AV → Prop), binP .leq (.int k a) (.int k b) K = K (.bool (decide (a ≤ b)))) ∧
  (∀ (k : IntKind) (a b : Int) (K : AV → Prop), binP .gtr (.int k a) (.int k b) K = K (.bool (decide (b < a)))) ∧
  (∀ (k : IntKind) (a b : Int) (K : AV → Prop), binP .geq (.int k a) (.int k b) K = K (.bool (decide (b ≤ a)))) ∧
  (∀ (k k' : IntKind) (a b : Int) (K : AV → Prop), binP .shl (.int k a) (.int k' b) K = (0 ≤ b ∧ K (.int k (k.wrap (a * 2 ^ (min b.toNat k.bits)))))) ∧
  (∀ (k k' : IntKind) (a b : Int) (K : AV → Prop), binP .shr (.int k a) (.int k' b) K = (0 ≤ b ∧ K (.int k (a.fdiv (2 ^ (min b.toNat k.bits)))))) ∧
  (∀ (a b : List UInt8) (K : AV → Prop), binP .add (.str a) (.str b) K = (a.length + b.length ≤ 9223372036854775807 ∧ K (.str (a ++ b)))) ∧
  (∀ (a b : List UInt8) (K : AV → Prop), binP .eql (.str a) (.str b) K = K (.bool (a == b))) ∧
  (∀ (a b : List UInt8) (K : AV → Prop), binP .neq (.str a) (.str b) K = K (.bool (!(a == b)))) ∧
  (∀ (n a b : Bool) (K : AV → Prop), eqbP n (.bool a) (.bool b) K = K (.bool ((a == b) != n))) ∧
  (∀ (H : List AObj) (n : Bool) (K : AV → Prop), eqpnP H n .nilp K = K (.bool (!n))) ∧
  (∀ (H : List AObj) (n : Bool) (cs : List AV) (o : Nat) (K : AV → Prop), eqpnP H n (.ptr cs o) K = K (.bool n)) ∧
  (∀ (H : List AObj) (n : Bool) (i o : Nat) (K : AV → Prop), eqpnP H n (.own i o) K = liveP (H.getD i .dead) (K (.bool n))) ∧
  (∀ (H : List AObj) (n : Bool) (K : AV → Prop), eqsnP H n .nils K = K (.bool (!n))) ∧
  (∀ (H : List AObj) (n : Bool) (len : Nat) (cs : List AV) (K : AV → Prop), eqsnP H n (.sl len cs) K = (0 < len ∧ K (.bool n))) ∧
  (∀ (b : Bool) (K : AV → Prop), notP (.bool b) K = K (.bool (!b))) ∧
  (∀ (k : IntKind) (n : Int) (K : AV → Prop), negP (.int k n) K = K (.int k (k.wrap (0 - n)))) ∧
  (∀ (k k' : IntKind) (n : Int) (K : AV → Prop), convP k (.int k' n) K = K (.int k (k.wrap n))) ∧
  (∀ (a b : AV) (K : AV → Prop), pickP (.bool true) a b K = K a) ∧
  (∀ (a b : AV) (K : AV → Prop), pickP (.bool false) a b K = K b) ∧
  (∀ (t : TypeId) (es : Nat) (l : Bool) (cs : List AV) (K : Prop), liveP (.arr t es l cs) K = K) ∧
  (∀ (H : List AObj) (cs : List AV) (o : Nat) (K : AV → Prop), nilckP H (.ptr cs o) K = K (.ptr cs o)) ∧
  (∀ (H : List AObj) (i o : Nat) (K : AV → Prop), nilckP H (.own i o) K = liveP (H.getD i .dead) (K (.own i o))) ∧
  (∀ (H : List AObj) (n : Nat) (cs : List AV) (o : Nat) (K : AV → Prop), fldP H n (.ptr cs o) K = K (.ptr cs (o + n))) ∧
  (∀ (H : List AObj) (n : Nat) (i o : Nat) (K : AV → Prop), fldP H n (.own i o) K = liveP (H.getD i .dead) (K (.own i (o + n)))) ∧
  (∀ (H : List AObj) (sz len : Nat) (cs : List AV) (k : IntKind) (n : Int) (K : AV → Prop), idxAP H sz (.sl len cs) (.int k n) K = ((0 ≤ n ∧ n < len) ∧ K (.ptr cs (n.toNat * sz)))) ∧
  (∀ (H : List AObj) (sz id off len : Nat) (k : IntKind) (n : Int) (K : AV → Prop), idxAP H sz (.osl id off len) (.int k n) K = liveP (H.getD id .dead) ((0 ≤ n ∧ n < len) ∧ K (.own id (off + n.toNat * sz)))) ∧
  (∀ (H : List AObj) (m sz : Nat) (cs : List AV) (o : Nat) (k : IntKind) (n : Int) (K : AV → Prop), idxPP H m sz (.ptr cs o) (.int k n) K = ((0 ≤ n ∧ n < m) ∧ K (.ptr cs (o + n.toNat * sz)))) ∧
  (∀ (H : List AObj) (m sz id off : Nat) (k : IntKind) (n : Int) (K : AV → Prop), idxPP H m sz (.own id off) (.int k n) K = liveP (H.getD id .dead) ((0 ≤ n ∧ n < m) ∧ K (.own id (off + n.toNat * sz)))) ∧
  (∀ (s : List UInt8) (k : IntKind) (n : Int) (K : AV → Prop), idxSP (.str s) (.int k n) K = ((0 ≤ n ∧ n < s.length) ∧ K (.int .u8 (s.getD n.toNat 0).toNat))) ∧
  (∀ (cs : List AV) (o : Nat) (K : AV → Prop), loadC none cs o K = (o < cs.length ∧ K (cs.getD o .junk))) ∧
  (∀ (m : Nat) (cs : List AV) (o : Nat) (K : AV → Prop), loadC (some m) cs o K = (o + m ≤ cs.length ∧ K (.agg ((cs.drop o).take m)))) ∧
  (∀ (q : Option Nat) (t es : Nat) (l : Bool) (cs : List AV) (o : Nat) (K : AV → Prop), loadO q (.arr t es l cs) o K = loadC q cs o K) ∧
  (∀ (H : List AObj) (q : Option Nat) (cs : List AV) (o : Nat) (K : AV → Prop), loadP H q (.ptr cs o) K = loadC q cs o K) ∧
  (∀ (H : List AObj) (q : Option Nat) (i o : Nat) (K : AV → Prop), loadP H q (.own i o) K = loadO q (H.getD i .dead) o K) ∧
  (∀ (cs : List AV), cellsOf (.agg cs) = cs) ∧
  (∀ (k : IntKind) (n : Int), cellsOf (.int k n) = [.int k n]) ∧
  (∀ (b : Bool), cellsOf (.bool b) = [.bool b]) ∧
  (∀ (s : List UInt8), cellsOf (.str s) = [.str s]) ∧
  (cellsOf (.nilp) = [.nilp]) ∧
  (∀ (cs : List AV) (o : Nat), cellsOf (.ptr cs o) = [.ptr cs o]) ∧
  (cellsOf (.nils) = [.nils]) ∧
  (∀ (n : Nat) (cs : List AV), cellsOf (.sl n cs) = [.sl n cs]) ∧
  (∀ (i o : Nat), cellsOf (.own i o) = [.own i o]) ∧
  (∀ (i o n : Nat), cellsOf (.osl i o n) = [.osl i o n]) ∧
  (∀ (f : FuncId) (cs : List AV), cellsOf (.fn f cs) = [.fn f cs]) ∧
  (∀ (cs : List AV) (o : Nat), putAt cs o [] = cs) ∧
  (∀ (cs : List AV) (o : Nat) (x : AV) (xs : List AV), putAt cs o (x :: xs) = putAt (cs.set o x) (o + 1) xs) ∧
  (∀ (H : List AObj) (id t es : Nat) (cs : List AV) (o sz : Nat) (v : AV) (K : List AObj → Prop), storeO H id (.arr t es false cs) o sz v K = (((cellsOf v).length = sz ∧ 0 < sz ∧ o + sz ≤ cs.length ∧ OneL H (cellsOf v)) ∧ K (H.set id (.arr t es false (putAt cs o (cellsOf v)))))) ∧
  (∀ (H : List AObj) (sz id o : Nat) (v : AV) (K : List AObj → Prop), storeP H sz (.own id o) v K = storeO H id (H.getD id .dead) o sz v K) ∧
  (∀ (H : List AObj) (K : AV → Prop), lenP H .nils K = K (.int .i64 0)) ∧
  (∀ (H : List AObj) (len : Nat) (cs : List AV) (K : AV → Prop), lenP H (.sl len cs) K = (len ≤ 9223372036854775807 → K (.int .i64 len))) ∧
  (∀ (H : List AObj) (id off len : Nat) (K : AV → Prop), lenP H (.osl id off len) K = liveP (H.getD id .dead) (len ≤ 9223372036854775807 → K (.int .i64 len))) ∧
  (∀ (s : List UInt8) (K : AV → Prop), lenSP (.str s) K = K (.int .i64 s.length)) ∧
  (∀ (H : List AObj) (K : AV → Prop), lenQ H .nils K = K (.int .i64 0)) ∧
  (∀ (H : List AObj) (len : Nat) (cs : List AV) (K : AV → Prop), lenQ H (.sl len cs) K = (len ≤ 9223372036854775807 ∧ K (.int .i64 len))) ∧
  (∀ (H : List AObj) (id off len : Nat) (K : AV → Prop), lenQ H (.osl id off len) K = liveP (H.getD id .dead) (len ≤ 9223372036854775807 ∧ K (.int .i64 len))) ∧
  (∀ (H : List AObj) (K : AV → Prop), b2sP H .nils K = K (.str [])) ∧
  (∀ (H : List AObj) (len : Nat) (cs : List AV) (K : AV → Prop), b2sP H (.sl len cs) K = b2sC len cs K) ∧
  (∀ (H : List AObj) (id off len : Nat) (K : AV → Prop), b2sP H (.osl id off len) K = b2sO (H.getD id .dead) off len K) ∧
  (∀ (t es : Nat) (l : Bool) (cs : List AV) (off len : Nat) (K : AV → Prop), b2sO (.arr t es l cs) off len K = (es = 1 ∧ b2sC len ((cs.drop off).take len) K)) ∧
  (∀ (n : Bool) (K : AV → Prop), eqinP n (.raw .nilIface) K = K (.bool (!n))) ∧
  (∀ (n : Bool) (t : TypeId) (v : Value) (K : AV → Prop), eqinP n (.raw (.iface t v)) K = K (.bool n)) ∧
  (∀ (H : List AObj) (zero : AV) (id : Nat) (k : IntKind) (n : Int) (K : AV → Prop), lkupP H zero (.mref id) (.int k n) K = lkupO (H.getD id .dead) zero k n K) ∧
  (∀ (es : List (Int × AV)) (zero : AV) (k k' : IntKind) (n : Int) (K : AV → Prop), lkupO (.mp k' es) zero k n K = (k = k' ∧ K ((mget es n).getD zero))) ∧
  (∀ (H : List AObj) (id : Nat) (k : IntKind) (n : Int) (v : AV) (K : List AObj → Prop), mapupP H (.mref id) (.int k n) v K = mapupO H id (H.getD id .dead) k n v K) ∧
  (∀ (H : List AObj) (id : Nat) (es : List (Int × AV)) (k k' : IntKind) (n : Int) (v : AV) (K : List AObj → Prop), mapupO H id (.mp k' es) k n v K = ((k = k' ∧ Frz v) ∧ K (H.set id (.mp k (mset es n v))))) ∧
  (∀ (C : Ctx) (f : FuncId) (cap args : List AV) (K : AV → Prop), fcallvP C (.fn f cap) args K = ((C.ent f ∧ FrzL args ∧ FrzL cap) ∧ ∃ v, C.pc f (args ++ cap) v ∧ K v)) ∧
  (∀ (C : Ctx) (H : List AObj) (t sz bytes : Nat) (b x : AV) (K : AV → Option Nat → List AObj → Prop), wappP C H t sz bytes b x K = srcP H sz x fun m src => wappB C H t sz bytes b m src K) ∧
  (∀ (C : Ctx) (H : List AObj) (t sz bytes m : Nat) (src : List AV) (K : AV → Option Nat → List AObj → Prop), wappB C H t sz bytes .nils m src K = ((m * bytes ≤ 140737488355328 ∧ OneL H src) ∧ K (.osl H.length 0 m) none (H ++ [.arr t sz false src]))) ∧
  (∀ (C : Ctx) (H : List AObj) (t sz bytes id off len m : Nat) (src : List AV) (K : AV → Option Nat → List AObj → Prop), wappB C H t sz bytes (.osl id off len) m src K = wappO C H t sz bytes id off len (H.getD id .dead) m src K) ∧
  (∀ (C : Ctx) (H : List AObj) (t sz bytes id off len t' es : Nat) (l : Bool) (cs : List AV) (m : Nat) (src : List AV) (K : AV → Option Nat → List AObj → Prop), wappO C H t sz bytes id off len (.arr t' es l cs) m src K = (((C.n0 ≤ id ∧ t' = t ∧ es = sz ∧ off = 0 ∧ cs.length = len * sz ∧ OneL H src ∧ (l = true → FrzL src)) ∧ (len + m) * bytes ≤ 140737488355328) ∧ K (.osl id 0 (len + m)) (some id) ((H.map (killO id)).set id (.arr t sz l (killL id (cs ++ src)))))) ∧
  (∀ (H : List AObj) (t sz bytes : Nat) (zero : List AV) (k k' : IntKind) (nl nc : Int) (K : AV → Option Nat → List AObj → Prop), wmkP H t sz bytes zero (.int k nl) (.int k' nc) K = ((0 ≤ nl ∧ nl ≤ nc ∧ nc * bytes ≤ 140737488355328) ∧ K (.osl H.length 0 nl.toNat) none (H ++ [.arr t sz false (reps nl.toNat zero)]))) ∧
  (∀ (k k' : IntKind) (a b : Int) (K : AV → Prop), maxP (.int k a) (.int k' b) K = K (.int k (if b > a then b else a))) ∧
  (∀ (k k' : IntKind) (a b : Int) (K : AV → Prop), minP (.int k a) (.int k' b) K = K (.int k (if b < a then b else a))) ∧
  (∀ (d : Int) (K : Int → Prop), bdP d none K = K d) ∧
  (∀ (d : Int) (k : IntKind) (n : Int) (K : Int → Prop), bdP d (some (.int k n)) K = K n) ∧
  (∀ (t es : Nat) (l0 : Bool) (cs : List AV) (sz id off len : Nat) (l h : Int) (K : AV → Prop), slcO (.arr t es l0 cs) sz id off len l h K = ((es = sz ∧ 0 ≤ l ∧ l ≤ h ∧ h ≤ len) ∧ (l = h → K (.sl 0 [])) ∧ (l < h → K (.osl id (off + l.toNat * sz) (h - l).toNat)))) ∧
  (∀ (H : List AObj) (sz : Nat) (lo hi : Option AV) (K : AV → Prop), slcP H sz .nils lo hi K = bdP 0 lo fun l => bdP 0 hi fun h => (l = 0 ∧ h = 0) ∧ K .nils) ∧
  (∀ (H : List AObj) (sz len : Nat) (cs : List AV) (lo hi : Option AV) (K : AV → Prop), slcP H sz (.sl len cs) lo hi K = bdP 0 lo fun l => bdP len hi fun h => (0 ≤ l ∧ l ≤ h ∧ h ≤ len ∧ cs.length = len * sz) ∧ K (.sl (h - l).toNat ((cs.drop (l.toNat * sz)).take ((h - l).toNat * sz)))) ∧
  (∀ (H : List AObj) (sz id off len : Nat) (lo hi : Option AV) (K : AV → Prop), slcP H sz (.osl id off len) lo hi K = bdP 0 lo fun l => bdP len hi fun h => slcO (H.getD id .dead) sz id off len l h K) ∧
  (∀ (s : List UInt8) (lo hi : Option AV) (K : AV → Prop), slcSP (.str s) lo hi K = bdP 0 lo fun l => bdP s.length hi fun h => (0 ≤ l ∧ l ≤ h ∧ h ≤ s.length) ∧ K (.str ((s.drop l.toNat).take (h - l).toNat))) ∧
  (∀ (vs : List AV) (i : Nat) (K : AV → Prop), extP (.tup vs) i K = (i < vs.length ∧ K (vs.getD i .junk))) ∧
  (∀ (cs : List AV), fillP cs [] = cs) ∧
  (∀ (cs : List AV) (o z : Nat) (x : AV) (ps : List (Nat × Nat × AV)), fillP cs ((o, z, x) :: ps) = fillP (putAt cs o (cellsOf x)) ps) ∧
  (∀ (H : List AObj) (n : Nat), fillOk H n [] = True) ∧
  (∀ (H : List AObj) (n o sz : Nat) (x : AV) (ps : List (Nat × Nat × AV)), fillOk H n ((o, sz, x) :: ps) = (((cellsOf x).length = sz ∧ 0 < sz ∧ o + sz ≤ n ∧ OneL H (cellsOf x)) ∧ fillOk H n ps)) ∧
  (∀ (f : List AV), evP f [] = []) ∧
  (∀ (f : List AV) (o z : Nat) (x : IA) (ps : List (Nat × Nat × IA)), evP f ((o, z, x) :: ps) = (o, z, ev f x) :: evP f ps) ∧
  (∀ (sz t es : Nat) (l : Bool) (cs : List AV) (off len : Nat) (K : Nat → List AV → Prop), srcO sz (.arr t es l cs) off len K = (off + len * sz ≤ cs.length ∧ K len ((cs.drop off).take (len * sz)))) ∧
  (∀ (H : List AObj) (sz : Nat) (K : Nat → List AV → Prop), srcP H sz .nils K = K 0 []) ∧
  (∀ (H : List AObj) (sz len : Nat) (cs : List AV) (K : Nat → List AV → Prop), srcP H sz (.sl len cs) K = (cs.length = len * sz ∧ K len cs)) ∧
  (∀ (H : List AObj) (sz id off len : Nat) (K : Nat → List AV → Prop), srcP H sz (.osl id off len) K = srcO sz (H.getD id .dead) off len K) ∧
  (∀ (n0 : Nat) (s : St) (t sz bytes id off len t' es : Nat) (l : Bool) (cs : List AV) (m : Nat) (src : List AV) (K : AV → St → Prop), appO n0 s t sz bytes id off len (.arr t' es l cs) m src K = (((n0 ≤ id ∧ t' = t ∧ es = sz ∧ off = 0 ∧ cs.length = len * sz ∧ OneL s.H src ∧ (l = true → FrzL src)) ∧ (len + m) * bytes ≤ 140737488355328) ∧ K (.osl id 0 (len + m)) ⟨killL id s.f, (s.H.map (killO id)).set id (.arr t sz l (killL id (cs ++ src)))⟩)) ∧
  (∀ (n0 : Nat) (s : St) (t sz bytes m : Nat) (src : List AV) (K : AV → St → Prop), appB n0 s t sz bytes .nils m src K = ((m * bytes ≤ 140737488355328 ∧ OneL s.H src) ∧ K (.osl s.H.length 0 m) ⟨s.f, s.H ++ [.arr t sz false src]⟩)) ∧
  (∀ (n0 : Nat) (s : St) (t sz bytes id off len m : Nat) (src : List AV) (K : AV → St → Prop), appB n0 s t sz bytes (.osl id off len) m src K = appO n0 s t sz bytes id off len (s.H.getD id .dead) m src K) ∧
  (∀ (n0 : Nat) (s : St) (t sz bytes : Nat) (b x : AV) (K : AV → St → Prop), appP n0 s t sz bytes b x K = srcP s.H sz x fun m src => appB n0 s t sz bytes b m src K) ∧
  (∀ (s : St) (t sz bytes : Nat) (zero : List AV) (k k' : IntKind) (nl nc : Int) (K : AV → St → Prop), mkP s t sz bytes zero (.int k nl) (.int k' nc) K = ((0 ≤ nl ∧ nl ≤ nc ∧ nc * bytes ≤ 140737488355328) ∧ K (.osl s.H.length 0 nl.toNat) ⟨s.f, s.H ++ [.arr t sz false (reps nl.toNat zero)]⟩)) ∧
  (∀ (t : Bool) (A B : Prop), condP (.bool t) A B = ifB t A B) ∧
  (∀ (b t : Bool) (A B : Prop), wantB b (.bool t) A B = ifB (t == b) A B) ∧
  (∀ (b : Bool) (A B : Prop), wantB b (.tup []) A B = B) ∧
  (∀ (A B : Prop), ifB true A B = A) ∧
  (∀ (A B : Prop), ifB false A B = B) ∧
  (∀ (t : Bool), (t == true) = t) ∧
  (∀ (t : Bool), (t == false) = !t) ∧
  (∀ (C : Ctx) (f : FuncId) (cap args : List AV) (s : St) (K : AV → St → Prop), callvP C (.fn f cap) args s K = (C.ent f ∧ ACallF C f (args ++ cap) s K .mk)) :=
  ⟨by intros; first | rfl | simp only [c_add],
   by intros; first | rfl | simp only [c_sub],
   by intros; first | rfl | simp only [c_mul],
   by intros; first | rfl | simp only [c_and],
   by intros; first | rfl | simp only [c_or],
   by intros; first | rfl | simp only [c_xor],
   by intros; first | rfl | simp only [c_quo],
   by intros; first | rfl | simp only [c_rem],
   by intros; first | rfl | simp only [c_eql],
   by intros; first | rfl | simp only [c_neq],
   by intros; first | rfl | simp only [c_lss],
   by intros; first | rfl | simp only [c_leq],
   by intros; first | rfl | simp only [c_gtr],
   by intros; first | rfl | simp only [c_geq],
   by intros; first | rfl | simp only [c_shl],
   by intros; first | rfl | simp only [c_shr],
   by intros; first | rfl | simp only [c_adds],
   by intros; first | rfl | simp only [c_eqls],
   by intros; first | rfl | simp only [c_neqs],
   by intros; first | rfl | simp only [c_eqb],
   by intros; first | rfl | simp only [c_eqpn0],
   by intros; first | rfl | simp only [c_eqpn1],
   by intros; first | rfl | simp only [c_eqpn2],
   by intros; first | rfl | simp only [c_eqsn0],
   by intros; first | rfl | simp only [c_eqsn1],
   by intros; first | rfl | simp only [c_not],
   by intros; first | rfl | simp only [c_neg],
   by intros; first | rfl | simp only [c_conv],
   by intros; first | rfl | simp only [c_pickT],
   by intros; first | rfl | simp only [c_pickF],
   by intros; first | rfl | simp only [c_live],
   by intros; first | rfl | simp only [c_nilck0],
   by intros; first | rfl | simp only [c_nilck1],
   by intros; first | rfl | simp only [c_fld0],
   by intros; first | rfl | simp only [c_fld1],
   by intros; first | rfl | simp only [c_idxA0],
   by intros; first | rfl | simp only [c_idxA1],
   by intros; first | rfl | simp only [c_idxP0],
   by intros; first | rfl | simp only [c_idxP1],
   by intros; first | rfl | simp only [c_idxS],
   by intros; first | rfl | simp only [c_load0],
   by intros; first | rfl | simp only [c_load1],
   by intros; first | rfl | simp only [c_loadO],
   by intros; first | rfl | simp only [c_loadP0],
   by intros; first | rfl | simp only [c_loadP1],
   by intros; first | rfl | simp only [c_cells_agg],
   by intros; first | rfl | simp only [c_cells_int],
   by intros; first | rfl | simp only [c_cells_bool],
   by intros; first | rfl | simp only [c_cells_str],
   by intros; first | rfl | simp only [c_cells_nilp],
   by intros; first | rfl | simp only [c_cells_ptr],
   by intros; first | rfl | simp only [c_cells_nils],
   by intros; first | rfl | simp only [c_cells_sl],
   by intros; first | rfl | simp only [c_cells_own],
   by intros; first | rfl | simp only [c_cells_osl],
   by intros; first | rfl | simp only [c_cells_fn],
   by intros; first | rfl | simp only [c_putAt0],
   by intros; first | rfl | simp only [c_putAt1],
   by intros; first | rfl | simp only [c_storeO],
   by intros; first | rfl | simp only [c_storeP],
   by intros; first | rfl | simp only [c_len0],
   by intros; first | rfl | simp only [c_len1],
   by intros; first | rfl | simp only [c_len2],
   by intros; first | rfl | simp only [c_lenS],
   by intros; first | rfl | simp only [c_lenQ0],
   by intros; first | rfl | simp only [c_lenQ1],
   by intros; first | rfl | simp only [c_lenQ2],
   by intros; first | rfl | simp only [c_b2s0],
   by intros; first | rfl | simp only [c_b2s1],
   by intros; first | rfl | simp only [c_b2s2],
   by intros; first | rfl | simp only [c_b2sO],
   by intros; first | rfl | simp only [c_eqin0],
   by intros; first | rfl | simp only [c_eqin1],
   by intros; first | rfl | simp only [c_lkup],
   by intros; first | rfl | simp only [c_lkupO],
   by intros; first | rfl | simp only [c_mapup],
   by intros; first | rfl | simp only [c_mapupO],
   by intros; first | rfl | simp only [c_fcallv],
   by intros; first | rfl | simp only [c_wappP],
   by intros; first | rfl | simp only [c_wapp0],
   by intros; first | rfl | simp only [c_wapp1],
   by intros; first | rfl | simp only [c_wappO],
   by intros; first | rfl | simp only [c_wmk],
   by intros; first | rfl | simp only [c_max],
   by intros; first | rfl | simp only [c_min],
   by intros; first | rfl | simp only [c_bd0],
   by intros; first | rfl | simp only [c_bd1],
   by intros; first | rfl | simp only [c_slcO],
   by intros; first | rfl | simp only [c_slc0],
   by intros; first | rfl | simp only [c_slc1],
   by intros; first | rfl | simp only [c_slc2],
   by intros; first | rfl | simp only [c_slcS],
   by intros; first | rfl | simp only [c_ext],
   by intros; first | rfl | simp only [c_fill0],
   by intros; first | rfl | simp only [c_fill1],
   by intros; first | rfl | simp only [c_fillOk0],
   by intros; first | rfl | simp only [c_fillOk1],
   by intros; first | rfl | simp only [c_evP0],
   by intros; first | rfl | simp only [c_evP1],
   by intros; first | rfl | simp only [c_srcO],
   by intros; first | rfl | simp only [c_src0],
   by intros; first | rfl | simp only [c_src1],
   by intros; first | rfl | simp only [c_src2],
   by intros; first | rfl | simp only [c_appO],
   by intros; first | rfl | simp only [c_app0],
   by intros; first | rfl | simp only [c_app1],
   by intros; first | rfl | simp only [c_appP],
   by intros; first | rfl | simp only [c_mk],
   by intros; first | rfl | simp only [c_cond],
   by intros; first | rfl | simp only [c_want],
   by intros; first | rfl | simp only [c_want0],
   by intros; first | rfl | simp only [c_ifT],
   by intros; first | rfl | simp only [c_ifF],
   by intros; first | rfl | simp only [c_beqT],
   by intros; first | rfl | simp only [c_beqF],
   by intros; first | rfl | simp only [v_callv]⟩
end Go.Avm
