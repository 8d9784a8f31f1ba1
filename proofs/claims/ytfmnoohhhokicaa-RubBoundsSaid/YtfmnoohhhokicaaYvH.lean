/- A part of the proof of rubBounds_holds: RsH. Own work of this project; texts printed by own programs among it. -/
import Derived.Carry
import Derived.KernelRfl
import Derived.Test.YtfmnoohhhokicaaYvG
set_option maxRecDepth 1000000
set_option maxHeartbeats 16000000
noncomputable section
noncomputable section
namespace Go.AM
open Go Go.RowKit Go.ChangeShapes
noncomputable section
variable {H : Type} {enc : TypeId × Value → H} {P : Program} {w : World} {base : Nat} {spare : Nat → Bool} {held : Bool}
theorem ZBe {t : TypeId} {v : Value} {d : DataW H} {ps : List MemPlace} (h : DataW.Trod enc P w base spare held t v d ps) : ∀ x ∈ ps, x.block < w.heap.size := by
 obtain ⟨n, h⟩ := h
 exact DataW.trod_lt n t _ _ h
theorem _root_.Go.RowKit.Below.trod' {t : TypeId} (hl : laidOutB P = true) (hr : P.readableRec t = true) (hrow : t < P.types.size) {W W' : World} {v : Value} {d : DataW H} {ps : List MemPlace} (hb : Below W.heap.size W W')
   (h : DataW.Trod enc P W 0 (fun _ => true) true t v d ps) : DataW.Trod enc P W' 0 (fun b => decide (b < W.heap.size)) true t v d ps :=
 Below.trod hl hr hrow h hb (ZBe h)
end
end Go.AM
end
noncomputable section
namespace Go.AM
theorem nrfl {α : Type} {a b : α} (h : a = b) : a = b := h
theorem nf {α : Type} {a : α} : a = a := nrfl rfl
def kL : Code → Code
 | .seq a _ => a
 | c => c
def kR : Code → Code
 | .seq _ b => b
 | c => c
def kT : Code → Code
 | .cond _ t _ => t
 | c => c
def kE : Code → Code
 | .cond _ _ e => e
 | c => c
def kB : Code → Code
 | .block _ b => b
 | .loop b => b
 | .scope b => b
 | c => c
def kO : Code → Array Oper
 | .region _ ops _ => ops
 | _ => #[]
def kBody (f : Func) : Code := f.body.getD .skip
def opN (ops : Array Oper) (i : Nat) : Oper := ops.toList.getD i ⟨none, .move (.tmp 0), 0, "", #[], none⟩
abbrev XR := Option (Ex × St)
def seqX (r : XR) (k : St → XR) : XR :=
 match r with
 | some (.normal, s) => k s
 | r => r
def bindR (r : Option St) (k : St → Option St) : Option St :=
 match r with
 | some s => k s
 | none => none
def regX (r : Option St) (k : St → St) : XR :=
 match r with
 | some s => some (.normal, k s)
 | none => none
def condX (v : AV) (t e : XR) : XR :=
 match v with
 | .bool true => t
 | .bool false => e
 | _ => none
def blockX (id : Nat) (k : St → St) (r : XR) : XR :=
 match r with
 | some (.exit i, s) => match Nat.beq i id with
   | true => some (.normal, k s)
   | false => some (.exit i, s)
 | some (.normal, s) => some (.normal, k s)
 | r => r
def fset : AFr → Nat → AV → AFr
 | [], _, _ => []
 | (k, a) :: t, i, b => if k = i then (k, b) :: t else (k, a) :: fset t i b
def gd (φ : AFr) (k : Nat) (want : Bool) (no yes : AFr → Option St) : Option St :=
 match fget φ k with
 | .bool b => if b = want then yes (fset φ k (.bool want)) else no (fset φ k (.bool !want))
 | .tup _ => no φ
 | _ => none
def putD (d : Option Nat) (φ : AFr) (v : AV) : AFr :=
 match d with
 | some d => fput φ d v
 | none => φ
def stp (d : Option Nat) (φ : AFr) (H : AHeap) (r : Rd (AV × Ups)) : Option St :=
 match r.run H with
 | some (v, us) => some (putD d φ v, upds H us)
 | none => none
def mutX (d : Option Nat) (φ : AFr) (r : Option (AV × AHeap)) : Option St :=
 match r with
 | some (v, H) => some (putD d φ v, H)
 | none => none
def callV (E : Env) (C : Callee) (Bn : Nat) (d : Option Nat) (site : Nat → Nat) (φ : AFr) (H : AHeap) (f : AV) (args : List AV) (keep : Bool) : Option St :=
 match mutV E f args with
 | some (g, asx) => mutX d φ (C g asx H Bn)
 | none => stp d φ H (opCallV E C site keep f args)
def bodyX (E : Env) (rs : List ResultVar) (r : XR) : Option (AV × AHeap) :=
 match r with
 | some (.normal, s) => match resA E s rs with
   | some v => some (v, s.2)
   | none => none
 | some (.ret, s) => match resA E s rs with
   | some v => some (v, s.2)
   | none => none
 | _ => none
noncomputable section
variable {E : Env} {C : Callee} {fg : Nat → List Nat} {B n N : Nat} {E0 : AHeap}
theorem Z0 {c a b : Code} (h : c = .seq a b) (s : St) : execA E C fg B n E0 N c s = seqX (execA E C fg B n E0 N a s) (execA E C fg B n E0 N b) := by
 subst h; simp only [execA, seqX]; rfl
theorem Ze {c : Code} (h : c = .skip) (s : St) : execA E C fg B n E0 N c s = some (.normal, s) := by subst h; simp only [execA]
theorem Zj {c : Code} (h : c = .ret) (s : St) : execA E C fg B n E0 N c s = some (.ret, s) := by subst h; simp only [execA]
theorem ZL {c : Code} {id} (h : c = .exit id) (s : St) : execA E C fg B n E0 N c s = some (.exit id, s) := by subst h; simp only [execA]
theorem Z1 {c : Code} {id ops} {l : List Nat} (h : c = .region id ops false) (hl : fg id = l) (s : St) : execA E C fg B n E0 N c s = regX (runA E C B n ops ops.toList s) (fun s => gcM E0 l (forget s.1 l, s.2)) := by
 subst h; subst hl; simp only [execA, regA, regX]
 split <;> rename_i h <;> simp only [h]
theorem Z3I {c : Code} {id ops} {l : List Nat} (h : c = .region id ops true) (hl : fg id = l) (s : St) : execA E C fg B n E0 N c s = regX (drawA E C B n ops s) (fun s => gcM E0 l (forget s.1 l, s.2)) := by
 subst h; subst hl; simp only [execA, regA, regX]
 split <;> rename_i h <;> simp only [h]
theorem Zb {c : Code} {x t e} (h : c = .cond x t e) (s : St) : execA E C fg B n E0 N c s = condX (evO E s.1 x) (execA E C fg B n E0 N t s) (execA E C fg B n E0 N e s) := by
 subst h; simp only [execA, condX]; rfl
theorem Zf {c : Code} {id b} {l : List Nat} (h : c = .block id b) (hl : fg (id + 1000000) = l) (s : St) : execA E C fg B n E0 N c s = blockX id (fun s => (forget s.1 l, s.2)) (execA E C fg B n E0 N b s) := by
 subst h; subst hl; simp only [execA, blockX]; rfl
theorem ZM {c : Code} {b} (h : c = .loop b) (s : St) : execA E C fg B n E0 N c s = iterA (execA E C fg B n E0 N b) (headA E0) N s := by
 subst h; simp only [execA]
theorem Z85 : ∀ (φ : AFr) (i : Nat), fset φ i (fget φ i) = φ
 | [], _ => rfl
 | (k, a) :: t, i => by
   simp only [fset, Zq6]
   cases h : Nat.beq k i
   · rw [if_neg (Nat.ne_of_beq_eq_false h)]
     simp only [cond_false]
     rw [Z85 t i]
   · rw [if_pos (Nat.eq_of_beq_eq_true h)]; rfl
theorem s_gd {ops : Array Oper} {o oj : Oper} {j dj : Nat} {want : Bool} {φ : AFr} {H : AHeap} {no yes : AFr → Option St} (hg : o.guard = some (j, want)) (hj : ops[j]? = some oj) (hd : oj.dst = some dj) (hn : ∀ φ, fin n o φ (.tup []) H = no φ) (hy : ∀ φ, goA E C B n o (φ, H) = yes φ) :
   stepA E C B n ops o (φ, H) = gd φ dj want no yes := by
 simp only [stepA, hg, wantA, hj, hd, gd]
 have hs := Z85 φ dj
 cases h : fget φ dj <;> simp only [hn, hy]
 rename_i b
 rw [h] at hs
 cases b <;> cases want <;> simp [hs]
theorem Z01J (ops : Array Oper) (s : St) : runA E C B n ops [] s = some s := rfl
theorem ZPm (ops : Array Oper) (o : Oper) (os : List Oper) (s : St) : runA E C B n ops (o :: os) s = bindR (stepA E C B n ops o s) (runA E C B n ops os) := by
 simp only [runA, bindR]; rfl
theorem Zq {fgf : FuncId → Nat → List Nat} {f : FuncId} {nt : Nat} {rs : Array ResultVar} {c : Code} (h : fInfo E f = some ⟨nt, rs, c⟩) (args : List AV) (H : AHeap) :
   bodyA E C fgf N f args H B = bodyX E rs.toList (execA E C (fgf f) B nt H N c (Z4 args 0 [], H)) := by
 simp only [bodyA, h, bodyX]; rfl
@[simp] theorem Z7Y (s : St) (k) : seqX (some (.normal, s)) k = k s := rfl
@[simp] theorem ZO9 (s : St) (k) : seqX (some (.ret, s)) k = some (.ret, s) := rfl
@[simp] theorem ZIp (i) (s : St) (k) : seqX (some (.exit i, s)) k = some (.exit i, s) := rfl
@[simp] theorem ZF3 (k) : seqX none k = none := rfl
@[simp] theorem ZOk (p : Prop) [Decidable p] (a b : XR) (k) : seqX (if p then a else b) k = if p then seqX a k else seqX b k := by split <;> rfl
@[simp] theorem ZBn (k) : bindR none k = none := rfl
@[simp] theorem ZGy (p : Prop) [Decidable p] (a b) (k) : bindR (if p then a else b) k = if p then bindR a k else bindR b k := by split <;> rfl
@[simp] theorem ZGt (k) : regX none k = none := rfl
@[simp] theorem ZPU (p : Prop) [Decidable p] (a b) (k) : regX (if p then a else b) k = if p then regX a k else regX b k := by split <;> rfl
@[simp] theorem ZCR (b : Bool) (t e : XR) : condX (.bool b) t e = if b = true then t else e := by cases b <;> rfl
@[simp] theorem ZrD (id : Nat) (k) (i : Nat) (s : St) : blockX id k (some (.exit i, s)) = if i = id then some (.normal, k s) else some (.exit i, s) := by
 simp only [blockX]
 split <;> rename_i h
 · rw [if_pos (Nat.eq_of_beq_eq_true h)]
 · rw [if_neg (Nat.ne_of_beq_eq_false h)]
@[simp] theorem Zgk (id : Nat) (k) (s : St) : blockX id k (some (.normal, s)) = some (.normal, k s) := rfl
@[simp] theorem ZDr (id : Nat) (k) (s : St) : blockX id k (some (.ret, s)) = some (.ret, s) := rfl
@[simp] theorem ZrC (id : Nat) (k) : blockX id k none = none := rfl
@[simp] theorem ZC1 (id : Nat) (k) (p : Prop) [Decidable p] (a b) : blockX id k (if p then a else b) = if p then blockX id k a else blockX id k b := by split <;> rfl
theorem ZK7 (i : Nat) (b : AV) : fset [] i b = [] := rfl
theorem ZFf (k : Nat) (a : AV) (t : AFr) (i : Nat) (b : AV) : fset ((k, a) :: t) i b = if k = i then (k, b) :: t else (k, a) :: fset t i b := rfl
@[simp] theorem ZGV (rs) (p : Prop) [Decidable p] (a b) : bodyX E rs (if p then a else b) = if p then bodyX E rs a else bodyX E rs b := by split <;> rfl
theorem ZHE (rs) (s : St) : bodyX E rs (some (.ret, s)) = (resA E s rs).map fun v => (v, s.2) := by
 simp only [bodyX]; cases resA E s rs <;> rfl
theorem Zmt (rs) (s : St) : bodyX E rs (some (.normal, s)) = (resA E s rs).map fun v => (v, s.2) := by
 simp only [bodyX]; cases resA E s rs <;> rfl
theorem ZFh (d : Nat) (φ : AFr) (v : AV) : putD (some d) φ v = fput φ d v := rfl
theorem ZG4 (φ : AFr) (v : AV) : putD none φ v = φ := rfl
theorem Z28 (f : St → XR) (hd : St → St) (k : Nat) (s : St) : iterA f hd (k + 1) s = seqX (f (hd s)) (iterA f hd k) := by
 simp only [iterA, seqX]; rfl
theorem Z5r {f : St → XR} {hd : St → St} (st : Nat → St) : ∀ (n F k : Nat) (s0 : St), hd s0 = st k → n < F →
   (∀ i, k ≤ i → i < k + n → ∃ s', f (st i) = some (.normal, s') ∧ hd s' = st (i + 1)) → ∀ {e : Ex} {se : St}, f (st (k + n)) = some (e, se) → e ≠ .normal → iterA f hd F s0 = some (e, se)
 | 0, F + 1, k, s0, h0, _, _, e, se, he, hn => by
   rw [Z28, h0]
   rw [Nat.add_zero] at he
   rw [he]
   cases e with
   | normal => exact absurd rfl hn
   | ret => rfl
   | exit i => rfl
 | n + 1, F + 1, k, s0, h0, hF, h, e, se, he, hn => by
   obtain ⟨s', h1, h2⟩ := h k (Nat.le_refl _) (by omega)
   rw [Z28, h0, h1, Z7Y]
   refine Z5r st n F (k + 1) s' h2 (by omega) (fun i h3 h4 => h i (by omega) (by omega)) (e := e) (se := se) ?_ hn
   rw [show k + 1 + n = k + (n + 1) by omega]
   exact he
 | _, 0, _, _, _, hF, _, _, _, _, _ => absurd hF (by omega)
theorem Z0m {site : Nat → Nat} {seen : List Nat} {f : FuncId} {args : List AV} {r : AV} {H' : AHeap} (h : C f args [] 0 = some (r, H')) (ht : frzRet H' r = some (r, H')) (hi : ∀ site, imp H' site 200 r [] [] = some (r, [], [])) (hl : r.leads = false) :
   aBack site true seen (thaw C f args [] 0) = .pure (r, []) := by
 simp only [thaw, h, ht, aBack, sitesB, freeOff, allFree, aBackAt, hi, List.map_nil, AM.apart, if_true, freeAll, Rd.bind, hl]
theorem Z4o {site : Nat → Nat} {seen : List Nat} {f : FuncId} {args : List AV} {k : IntKind} {z : Int} (h : ∃ H', C f args [] 0 = some (.int k z, H')) : aBack site true seen (thaw C f args [] 0) = .pure (.int k z, []) := by
 obtain ⟨H', h⟩ := h; exact Z0m h rfl (fun _ => rfl) rfl
theorem Z3i {site : Nat → Nat} {seen : List Nat} {f : FuncId} {args : List AV} {b : Bool} (h : ∃ H', C f args [] 0 = some (.bool b, H')) : aBack site true seen (thaw C f args [] 0) = .pure (.bool b, []) := by
 obtain ⟨H', h⟩ := h; exact Z0m h rfl (fun _ => rfl) rfl
theorem Z9N {site : Nat → Nat} {seen : List Nat} {f : FuncId} {args : List AV} {k k' : IntKind} {z z' : Int} (h : ∃ H', C f args [] 0 = some (.tup [.int k z, .int k' z'], H')) : aBack site true seen (thaw C f args [] 0) = .pure (.tup [.int k z, .int k' z'], []) := by
 obtain ⟨H', h⟩ := h; exact Z0m h rfl (fun _ => rfl) rfl
theorem Z0eA {k : IntKind} {z : Int} (h1 : kLo k ≤ z) (h2 : z ≤ kHi k) : wrp k z = z := by
 simp only [wrp, if_pos (And.intro h1 h2)]
theorem Zs {z : Int} (h : -9223372036854775808 ≤ z ∧ z ≤ 9223372036854775807) : wrp .i64 z = z := Z0eA h.1 h.2
theorem Zk {k : Nat} (h : k < 1000000) : wrp .i64 ((k : Int) + 1) = ((k + 1 : Nat) : Int) := by
 rw [Zs (by omega)]; rfl
abbrev rsOf (r : Option (AV × AHeap)) : Option AV := r.map (·.1)
theorem Z0de (p : Prop) [Decidable p] (a b : Option (AV × AHeap)) : rsOf (if p then a else b) = if p then rsOf a else rsOf b := by split <;> rfl
theorem ZXv (v : AV) (H : AHeap) : rsOf (some (v, H)) = some v := rfl
theorem Z0iu (p : Prop) [Decidable p] (k : IntKind) (a b : Int) : (if p then some (AV.int k a) else some (AV.int k b)) = some (AV.int k (if p then a else b)) := by split <;> rfl
theorem Z0dA (p : Prop) [Decidable p] (a b : Bool) : (if p then some (AV.bool a) else some (AV.bool b)) = some (AV.bool (if p then a else b)) := by split <;> rfl
theorem Z0bO (p : Prop) [Decidable p] (k l : IntKind) (a b c d : Int) : (if p then some (AV.tup [AV.int k a, AV.int l c]) else some (AV.tup [AV.int k b, AV.int l d])) = some (AV.tup [AV.int k (if p then a else b), AV.int l (if p then c else d)]) := by split <;> rfl
theorem ZHr (p : Prop) [Decidable p] (l : IntKind) (a b : Bool) (c d : Int) : (if p then some (AV.tup [AV.bool a, AV.int l c]) else some (AV.tup [AV.bool b, AV.int l d])) = some (AV.tup [AV.bool (if p then a else b), AV.int l (if p then c else d)]) := by split <;> rfl
theorem ZRz {r : Option (AV × AHeap)} {v : AV} (h : rsOf r = some v) : ∃ H', r = some (v, H') := by
 cases r with
 | none => exact absurd h (by simp)
 | some x => obtain ⟨a, H⟩ := x; simp at h; exact ⟨H, by rw [h]⟩
theorem Z0k2 (E0 : AHeap) (s : St) : gcM E0 [] s = s := rfl
theorem Z0fE (E0 : AHeap) (a : Nat) (l : List Nat) (s : St) : gcM E0 (a :: l) s = if a = 999999 then headA E0 s else s := by
 by_cases h : a = 999999
 · subst h; rfl
 · rw [if_neg h]; unfold gcM; split
   · rename_i e; exact absurd (List.cons.inj e).1 h
   · rfl
theorem ZQE (i : Nat) : fget [] i = .any := rfl
theorem ZC6 (k : Nat) (a : AV) (t : AFr) (i : Nat) : fget ((k, a) :: t) i = if k = i then a else fget t i := by
 simp only [Zq6]
 cases h : Nat.beq k i
 · rw [if_neg (Nat.ne_of_beq_eq_false h)]; rfl
 · rw [if_pos (Nat.eq_of_beq_eq_true h)]; rfl
theorem ZKM (i : Nat) (b : AV) : fput [] i b = [(i, b)] := rfl
theorem ZC8 (k : Nat) (c : AV) (t : AFr) (i : Nat) (b : AV) : fput ((k, c) :: t) i b = if k = i then (i, b) :: t else if i ≤ k then (k, c) :: fput t i b else (i, b) :: (k, c) :: t := by
 simp only [Z0B]
 cases h : Nat.beq k i
 · rw [if_neg (Nat.ne_of_beq_eq_false h)]
   simp only [cond_false]
   cases h2 : Nat.ble i k
   · rw [if_neg (by intro h3; rw [Nat.ble_eq_true_of_le h3] at h2; exact absurd h2 (by simp))]; rfl
   · rw [if_pos (Nat.le_of_ble_eq_true h2)]; rfl
 · rw [if_pos (Nat.eq_of_beq_eq_true h)]; rfl
theorem ZBd (l : List Nat) : forget [] l = [] := rfl
theorem Zqo (k : Nat) (a : AV) (t : AFr) (l : List Nat) : forget ((k, a) :: t) l = if l.elem k = true then forget t l else (k, a) :: forget t l := by
 simp only [Z8c]; cases l.elem k <;> rfl
theorem ZH1 (i : Nat) : hget [] i = none := rfl
theorem Z11 (k : Nat) (b : Blk) (t : AHeap) (i : Nat) : hget ((k, b) :: t) i = if k = i then some b else hget t i := by
 simp only [Z9H]
 cases h : Nat.beq k i
 · rw [if_neg (Nat.ne_of_beq_eq_false h)]; rfl
 · rw [if_pos (Nat.eq_of_beq_eq_true h)]; rfl
theorem Z2H (i : Nat) (b : Blk) : hset [] i b = [(i, b)] := rfl
theorem Z21 (k : Nat) (c : Blk) (t : AHeap) (i : Nat) (b : Blk) : hset ((k, c) :: t) i b = if k = i then (i, b) :: t else if k ≤ i then (k, c) :: hset t i b else (i, b) :: (k, c) :: t := by
 simp only [Zqi]
 cases h : Nat.beq k i
 · rw [if_neg (Nat.ne_of_beq_eq_false h)]
   simp only [cond_false]
   cases h2 : Nat.ble k i
   · rw [if_neg (by intro h3; rw [Nat.ble_eq_true_of_le h3] at h2; exact absurd h2 (by simp))]; rfl
   · rw [if_pos (Nat.le_of_ble_eq_true h2)]; rfl
 · rw [if_pos (Nat.eq_of_beq_eq_true h)]; rfl
theorem ZDu (i gl : Nat) : Rd.liveBlk i gl = .get i fun
   | some b => if gl = b.cells.length then (match b.st with | .mp => .fail | _ => .pure b) else .fail
   | none => .fail := by
 simp only [Rd.liveBlk]
 congr 1
 funext b
 cases b with
 | none => rfl
 | some b =>
   simp only
   cases h : Nat.beq gl b.cells.length
   · rw [if_neg (Nat.ne_of_beq_eq_false h)]; rfl
   · rw [if_pos (Nat.eq_of_beq_eq_true h)]; rfl
theorem ZB5 (k t o : Nat) : freeOff [k] (t + 1) o = .get (k + o) fun
   | none => .pure o
   | some _ => freeOff [k] t (o + 1048576) := by
 rw [freeOff]
 generalize freeOff [k] t (o + 1048576) = z
 simp only [List.map_cons, List.map_nil, allFree, Rd.bind]
 congr 1
 funext b
 cases b <;> rfl
theorem fo6 (k : Nat) : freeOff [k] 6 0 = .get k fun
   | none => .pure 0
   | some _ => freeOff [k] 5 1048576 := by
 have := ZB5 k 5 0
 rw [Nat.add_zero, Nat.zero_add] at this
 exact this
theorem fo5 (k : Nat) : freeOff [k] 5 1048576 = .get (k + 1048576) fun
   | none => .pure 1048576
   | some _ => freeOff [k] 4 2097152 := by
 have := ZB5 k 4 1048576
 simp only [Nat.reduceAdd] at this
 exact this
theorem ZD0 (φ : AFr) (H : AHeap) (h : refsF φ = []) : headA [] (φ, H) = (φ, []) := by
 have h1 : ∀ H : AHeap, keepB [] [] H = [] := by
   intro H
   induction H with
   | nil => rfl
   | cons p t ih => obtain ⟨i, b⟩ := p; simp only [keepB, ZS, List.elem_nil, Option.isSome_none, Bool.or_false, cond_false, ih]
 simp only [headA, h, mark, h1, gcIf, closedB, allHeld, closedH, Bool.and_true]
theorem ZIn (E0 : AHeap) (φ : AFr) : headA E0 (φ, []) = (φ, []) := by
 simp only [headA, keepB, gcIf]; split <;> rfl
def stepT (E : Env) (C : Callee) (B n : Nat) (ops : Array Oper) (o : Oper) (s : St) : Option (St × Tr) := (stepA E C B n ops o s).map fun s' => (s', trA E C B n ops o s)
def goT (E : Env) (C : Callee) (B n : Nat) (o : Oper) (s : St) : Option (St × Tr) := (goA E C B n o s).map fun s' => (s', trG E C B n o s)
def trS (r : Rd (AV × Ups)) (H : AHeap) : Tr :=
 match r.run H with
 | some (_, us) => ⟨false, r.foot H, us.map (·.1)⟩
 | none => ⟨true, [], []⟩
def stpT (d : Option Nat) (φ : AFr) (H : AHeap) (r : Rd (AV × Ups)) : Option (St × Tr) :=
 match r.run H with
 | some (v, us) => some ((putD d φ v, upds H us), ⟨false, r.foot H, us.map (·.1)⟩)
 | none => none
def trV (E : Env) (C : Callee) (site : Nat → Nat) (H : AHeap) (f : AV) (args : List AV) (keep : Bool) : Tr :=
 match mutV E f args with
 | some _ => ⟨true, [], []⟩
 | none => trS (opCallV E C site keep f args) H
def callVT (E : Env) (C : Callee) (Bn : Nat) (d : Option Nat) (site : Nat → Nat) (φ : AFr) (H : AHeap) (f : AV) (args : List AV) (keep : Bool) : Option (St × Tr) :=
 match mutV E f args with
 | some (g, asx) => (mutX d φ (C g asx H Bn)).map fun s => (s, ⟨true, [], []⟩)
 | none => stpT d φ H (opCallV E C site keep f args)
def gdT (φ : AFr) (k : Nat) (want : Bool) (no yes : AFr → Option (St × Tr)) : Option (St × Tr) :=
 match fget φ k with
 | .bool b => if b = want then yes (fset φ k (.bool want)) else no (fset φ k (.bool !want))
 | .tup _ => no φ
 | _ => none
theorem Zi {o : Oper} {φ : AFr} {H : AHeap} {d} {R : Rd (AV × Ups)} (h : goA E C B n o (φ, H) = stp d φ H R) (ht : trG E C B n o (φ, H) = trS R H) : goT E C B n o (φ, H) = stpT d φ H R := by
 simp only [goT, h, ht, stp, stpT, trS]
 cases R.run H <;> rfl
theorem Zh {o : Oper} {φ : AFr} {H : AHeap} {s'} (h : goA E C B n o (φ, H) = some s') (ht : trG E C B n o (φ, H) = ⟨false, [], []⟩) : goT E C B n o (φ, H) = some (s', ⟨false, [], []⟩) := by
 simp only [goT, h, ht, Option.map_some]
theorem Z0hF {o : Oper} {φ : AFr} {H : AHeap} {Bn d site f args keep} (h : goA E C B n o (φ, H) = callV E C Bn d site φ H f args keep) (ht : trG E C B n o (φ, H) = trV E C site H f args keep) :
   goT E C B n o (φ, H) = callVT E C Bn d site φ H f args keep := by
 simp only [goT, h, ht, callV, callVT, trV]
 cases mutV E f args with
 | none =>
   simp only [stp, stpT, trS]
   cases (opCallV E C site keep f args).run H <;> rfl
 | some x => rfl
theorem Z9 {ops : Array Oper} {o : Oper} {s : St} {x} (hg : o.guard = none) (h : goT E C B n o s = x) : stepT E C B n ops o s = x := by
 rw [← h]; simp only [stepT, goT, stepA, trA, hg]
theorem Zp {ops : Array Oper} {o oj : Oper} {j dj : Nat} {want : Bool} {φ : AFr} {H : AHeap} {no : AFr → Option St} {yes : AFr → Option (St × Tr)} (hg : o.guard = some (j, want)) (hj : ops[j]? = some oj) (hd : oj.dst = some dj) (hn : ∀ φ, fin n o φ (.tup []) H = no φ) (hy : ∀ φ, goT E C B n o (φ, H) = yes φ) :
   stepT E C B n ops o (φ, H) = gdT φ dj want (fun φ => (no φ).map fun s => (s, ⟨false, [], []⟩)) yes := by
 have hs := Z85 φ dj
 simp only [stepT, stepA, trA, hg, wantA, hj, hd, gdT]
 cases h : fget φ dj with
 | bool b =>
   rw [h] at hs
   cases b <;> cases want <;> simp only [hs, beq_self_eq_true, if_true, Bool.not_true, Bool.not_false, hn, ← hy, goT] <;> rfl
 | tup l => simp only [hn]
 | _ => rfl
def rtX (n i : Nat) (r : Option (St × Tr)) (k : St → Option (St × List (Nat × Tr))) : Option (St × List (Nat × Tr)) :=
 match r with
 | some (s', t) => match neat n s' with
   | true => match k s' with
     | some (s2, l) => some (s2, (i, t) :: l)
     | none => none
   | false => none
 | none => none
theorem ZNK (ops : Array Oper) (i : Nat) (s : St) : runT E C B n ops [] i s = some (s, []) := rfl
theorem ZH2 (ops : Array Oper) (o : Oper) (os : List Oper) (i : Nat) (s : St) : runT E C B n ops (o :: os) i s = rtX n i (stepT E C B n ops o s) (runT E C B n ops os (i + 1)) := by
 simp only [runT, stepT, rtX]
 cases stepA E C B n ops o s with
 | none => rfl
 | some s' =>
   simp only [Option.map_some]
   cases neat n s' <;> rfl
def addT (i : Nat) (t : Tr) (r : Option (St × List (Nat × Tr))) : Option (St × List (Nat × Tr)) :=
 match r with
 | some (s2, l) => some (s2, (i, t) :: l)
 | none => none
theorem ZNE (i : Nat) (s' : St) (t : Tr) (k) : rtX n i (some (s', t)) k = if neat n s' = true then addT i t (k s') else none := by
 simp only [rtX, addT]; cases neat n s' <;> rfl
theorem ZLL (i : Nat) (k) : rtX n i none k = none := rfl
theorem ZSI (i : Nat) (p : Prop) [Decidable p] (a b) (k) : rtX n i (if p then a else b) k = if p then rtX n i a k else rtX n i b k := by split <;> rfl
theorem ZGw (i : Nat) (t : Tr) (s l) : addT i t (some (s, l)) = some (s, (i, t) :: l) := rfl
theorem ZHP (i : Nat) (t : Tr) : addT i t none = none := rfl
theorem ZQm (i : Nat) (t : Tr) (p : Prop) [Decidable p] (a b) : addT i t (if p then a else b) = if p then addT i t a else addT i t b := by split <;> rfl
def drX (ops : Array Oper) (r : Option (St × List (Nat × Tr))) : Option St :=
 match r with
 | some (s', l) => if dynOk ops l = true then some s' else none
 | none => none
theorem ZL9 (ops : Array Oper) (s' l) : drX ops (some (s', l)) = if dynOk ops l = true then some s' else none := rfl
theorem ZP6 (ops : Array Oper) : drX ops none = none := rfl
theorem Z04g (ops : Array Oper) (p : Prop) [Decidable p] (a b) : drX ops (if p then a else b) = if p then drX ops a else drX ops b := by split <;> rfl
theorem Z2e {ops : Array Oper} (h : statOk ops = true) (s : St) : drawA E C B n ops s = if neat n s = true then drX ops (runT E C B n ops ops.toList 0 s) else none := by
 simp only [drawA, h, drX]
 cases neat n s with
 | false => rfl
 | true =>
   simp only [if_true]
   cases runT E C B n ops ops.toList 0 s with
   | none => rfl
   | some x =>
     obtain ⟨s', l⟩ := x
     simp only
     cases dynOk ops l <;> rfl
theorem Z1P {ops : Array Oper} {an : List (List Nat)} (h : ancs ops.toList [] = an) (l) : dynOk ops l = (!writing l || Zo an (Zm l)) := by simp only [dynOk, h]
theorem Z00U (n : Nat) (φ : AFr) (H : AHeap) : neat n (φ, H) = (descF n φ && ascH 0 H) := rfl
theorem ZDp (h : Nat) : descF h [] = true := rfl
theorem Zrw (hi k : Nat) (a : AV) (t : AFr) : descF hi ((k, a) :: t) = (decide (k + 1 ≤ hi) && descF k t) := by
 simp only [Z2l]; congr 1
 cases h : Nat.ble (k + 1) hi
 · rw [eq_comm, decide_eq_false_iff_not]; intro h2; rw [Nat.ble_eq_true_of_le h2] at h; exact absurd h (by simp)
 · rw [eq_comm, decide_eq_true_eq]; exact Nat.le_of_ble_eq_true h
theorem ZH3 (h : Nat) : ascH h [] = true := rfl
theorem ZBj (lo k : Nat) (a : Blk) (t : AHeap) : ascH lo ((k, a) :: t) = (decide (lo ≤ k) && ascH (k + 1) t) := by
 simp only [Z2W]; congr 1
 cases h : Nat.ble lo k
 · rw [eq_comm, decide_eq_false_iff_not]; intro h2; rw [Nat.ble_eq_true_of_le h2] at h; exact absurd h (by simp)
 · rw [eq_comm, decide_eq_true_eq]; exact Nat.le_of_ble_eq_true h
end
end Go.AM
end
noncomputable section
namespace Go.AM
def Z0I (k : Nat) (seen : List Nat) (r : Nat → AV) (b : Blk) : Rd (AV × Ups) :=
 (freeOff [k] 6 0).bind fun off => (freeAll [k + off]).bind fun _ => (frz seen).bind fun us => .pure (r (k + off), us ++ [(k + off, b)])
theorem Zpf (k : Nat) (seen : List Nat) (r : Nat → AV) (b : Blk) : ∃ no : Blk → Rd (AV × Ups), Z0I k seen r b = .get k fun
   | none => .get k fun
     | none => (frz seen).bind fun us => .pure (r k, us ++ [(k, b)])
     | some _ => .fail
   | some b => no b := by
 refine ⟨fun _ => (freeOff [k] 5 1048576).bind fun off => (freeAll [k + off]).bind fun _ => (frz seen).bind fun us => .pure (r (k + off), us ++ [(k + off, b)]), ?_⟩
 simp only [Z0I, freeOff, List.map_cons, List.map_nil, allFree, Rd.bind, Nat.add_zero]
 congr 1
 funext x
 cases x with
 | none =>
   simp only [Rd.bind, freeAll, Nat.add_zero]
   congr 1
   funext y
   cases y <;> rfl
 | some _ => rfl
theorem ZEk {k : Nat} {seen : List Nat} {r : Nat → AV} {b : Blk} {H : AHeap} (h : hget H k = none) : (Z0I k seen r b).run H = ((frz seen).bind fun us => .pure (r k, us ++ [(k, b)])).run H := by
 obtain ⟨no, e⟩ := Zpf k seen r b
 rw [e]; simp only [Rd.run, h]
theorem ZDf {k : Nat} {seen : List Nat} {r : Nat → AV} {b : Blk} {H : AHeap} (h : hget H k = none) : (Z0I k seen r b).foot H = k :: k :: ((frz seen).bind fun us => .pure (r k, us ++ [(k, b)])).foot H := by
 obtain ⟨no, e⟩ := Zpf k seen r b
 rw [e]; simp only [Rd.foot, h]
def ZDC (k : Nat) (seen : List Nat) (r : Nat → AV) (b : Blk) : Rd (AV × Ups) := Z0I k seen r b
theorem ZWI {k : Nat} {seen : List Nat} {r : Nat → AV} {b : Blk} {H : AHeap} : (Z0I k seen r b).run H = match hget H k with
   | none => ((frz seen).bind fun us => .pure (r k, us ++ [(k, b)])).run H
   | some _ => (ZDC k seen r b).run H := by
 cases h : hget H k with
 | none => exact ZEk h
 | some _ => rfl
theorem ZZ9 {k : Nat} {seen : List Nat} {r : Nat → AV} {b : Blk} {H : AHeap} : (Z0I k seen r b).foot H = match hget H k with
   | none => k :: k :: ((frz seen).bind fun us => .pure (r k, us ++ [(k, b)])).foot H
   | some _ => (ZDC k seen r b).foot H := by
 cases h : hget H k with
 | none => exact ZDf h
 | some _ => rfl
def Z5k (k0 k1 : Nat) (seen : List Nat) (r : Nat → Nat → AV) (b0 b1 : Blk) : Rd (AV × Ups) :=
 (freeOff [k1, k0] 6 0).bind fun off => (freeAll [k1 + off, k0 + off]).bind fun _ => (frz seen).bind fun us => .pure (r (k0 + off) (k1 + off), us ++ [(k1 + off, b1), (k0 + off, b0)])
def ZG2 (k0 k1 : Nat) (seen : List Nat) (r : Nat → Nat → AV) (b0 b1 : Blk) : Rd (AV × Ups) := Z5k k0 k1 seen r b0 b1
theorem ZQ6 (k0 k1 : Nat) (seen : List Nat) (r : Nat → Nat → AV) (b0 b1 : Blk) : ∃ no no' : Blk → Rd (AV × Ups), Z5k k0 k1 seen r b0 b1 = .get k1 fun
   | none => .get k0 fun
     | none => .get k1 fun
       | none => .get k0 fun
         | none => (frz seen).bind fun us => .pure (r k0 k1, us ++ [(k1, b1), (k0, b0)])
         | some _ => .fail
       | some _ => .fail
     | some b => no b
   | some b => no' b := by
 refine ⟨fun _ => (freeOff [k1, k0] 5 1048576).bind fun off => (freeAll [k1 + off, k0 + off]).bind fun _ => (frz seen).bind fun us => .pure (r (k0 + off) (k1 + off), us ++ [(k1 + off, b1), (k0 + off, b0)]),
   fun _ => (freeOff [k1, k0] 5 1048576).bind fun off => (freeAll [k1 + off, k0 + off]).bind fun _ => (frz seen).bind fun us => .pure (r (k0 + off) (k1 + off), us ++ [(k1 + off, b1), (k0 + off, b0)]), ?_⟩
 simp only [Z5k, freeOff, List.map_cons, List.map_nil, allFree, Rd.bind, Nat.add_zero]
 congr 1
 funext x
 cases x with
 | some _ => rfl
 | none =>
   simp only [Rd.bind]
   congr 1
   funext y
   cases y with
   | some _ => rfl
   | none =>
     simp only [Rd.bind, freeAll, Nat.add_zero]
     congr 1
     funext x
     cases x with
     | some _ => rfl
     | none =>
       simp only [Rd.bind]
       congr 1
       funext y
       cases y <;> rfl
theorem Z01v {k0 k1 : Nat} {seen : List Nat} {r : Nat → Nat → AV} {b0 b1 : Blk} {H : AHeap} : (Z5k k0 k1 seen r b0 b1).run H = match hget H k1 with
   | none => match hget H k0 with
     | none => ((frz seen).bind fun us => .pure (r k0 k1, us ++ [(k1, b1), (k0, b0)])).run H
     | some _ => (ZG2 k0 k1 seen r b0 b1).run H
   | some _ => (ZG2 k0 k1 seen r b0 b1).run H := by
 cases h : hget H k1 with
 | some _ => rfl
 | none =>
   cases h2 : hget H k0 with
   | some _ => rfl
   | none =>
     obtain ⟨no, no', e⟩ := ZQ6 k0 k1 seen r b0 b1
     rw [e]; simp only [Rd.run, h, h2]
theorem Z24 {C : Callee} {site : Nat → Nat} {seen : List Nat} {f : FuncId} {args : List AV} {k' : IntKind} {z' : Int} (h : ∃ H', C f args [] 0 = some (.tup [.nilsl, .int k' z'], H')) : aBack site true seen (thaw C f args [] 0) = .pure (.tup [.nilsl, .int k' z'], []) := by
 obtain ⟨H', h⟩ := h; exact Z0m h rfl (fun _ => rfl) rfl
theorem ZeQ {C : Callee} {site : Nat → Nat} {seen : List Nat} {f : FuncId} {args : List AV} (h : ∃ H', C f args [] 0 = some (.nilsl, H')) : aBack site true seen (thaw C f args [] 0) = .pure (.nilsl, []) := by
 obtain ⟨H', h⟩ := h; exact Z0m h rfl (fun _ => rfl) rfl
end Go.AM
end
noncomputable section
namespace Go.AM
theorem seqN (s : St) (k) : seqX (some (.normal, s)) k = k s := nf
theorem bindN (s : St) (k) : bindR (some s) k = k s := nf
theorem regN (s : St) (k) : regX (some s) k = some (.normal, k s) := nf
theorem ZPn (d : Nat) (k : IntKind) (z : Int) : snap (d + 1) (.int k z) = .pure (.int k z, []) := rfl
theorem ZD9 (d : Nat) : snap (d + 1) .nilsl = .pure (.nilsl, []) := rfl
theorem ZNN (d : Nat) (c : List AV) (n : Nat) (ex : Bool) : snap (d + 1) (.imm c n ex) = .pure (.imm c n ex, []) := rfl
theorem ZQx (d id off len cap gl sz : Nat) (ex : Bool) : snap (d + 1) (.ref id off len cap gl sz ex) = (Rd.liveBlk id gl).bind fun b =>
     if off + len * sz ≤ b.cells.length then
       match b.st with
       | .box => (snaps d ((b.cells.drop off).take (len * sz))).bind fun x =>
         .pure (.imm x.1 len (ex && decide (cap = len)), id :: x.2)
       | _ => .pure (.imm ((b.cells.drop off).take (len * sz)) len (ex && decide (cap = len)), [id])
     else .fail := rfl
theorem ZET (d id off gl : Nat) : snap (d + 1) (.ptr id off gl) = (Rd.liveBlk id gl).bind fun b =>
     match b.st with
     | .box => (snaps d b.cells).bind fun x => .pure (.iptr x.1 off, id :: x.2)
     | _ => .pure (.iptr b.cells off, [id]) := rfl
theorem ZGP (d : Nat) (c : List AV) (n : Nat) : snap (d + 1) (.iptr c n) = .pure (.iptr c n, []) := rfl
theorem ZG6 (d : Nat) (b : Bool) : snap (d + 1) (.bool b) = .pure (.bool b, []) := rfl
theorem ZqX (d : Nat) : snap (d + 1) .nilfunc = .pure (.nilfunc, []) := rfl
theorem ZMK (d : Nat) (vs : List AV) : snap (d + 1) (.agg vs) = (snaps d vs).bind fun x => .pure (.agg x.1, x.2) := rfl
theorem ZNM (d : Nat) (vs : List AV) : snap (d + 1) (.tup vs) = (snaps d vs).bind fun x => .pure (.tup x.1, x.2) := rfl
theorem ZLl (d : Nat) (f : FuncId) (vs : List AV) : snap (d + 1) (.clo f vs) = (snaps d vs).bind fun x => .pure (.clo f x.1, x.2) := rfl
def frzB (s : BS) (cs : List AV) (i : Nat) (r : Rd Ups) : Rd Ups :=
 match s, cs.all AV.flat with
 | .box, false => .fail
 | .mp, _ => .fail
 | .froz, _ => r
 | _, _ => r.bind fun us => .pure ((i, ⟨.froz, cs⟩) :: us)
theorem ZYk : frz [] = .pure [] := rfl
theorem Z0er (i : Nat) (is : List Nat) : frz (i :: is) = .get i fun
   | some b => frzB b.st b.cells i (frz is)
   | none => .fail := rfl
theorem ZJJ (cs : List AV) (i : Nat) (r : Rd Ups) : frzB .row cs i r = r.bind fun us => .pure ((i, ⟨.froz, cs⟩) :: us) := rfl
theorem ZHB (cs : List AV) (i : Nat) (r : Rd Ups) : frzB .froz cs i r = r := by unfold frzB; cases cs.all AV.flat <;> rfl
theorem ZQ2 (cs : List AV) (i : Nat) (r : Rd Ups) : frzB .box cs i r = if cs.all AV.flat = true then r.bind fun us => .pure ((i, ⟨.froz, cs⟩) :: us) else .fail := by
 unfold frzB; cases cs.all AV.flat <;> rfl
end Go.AM
namespace Go.AM.Ytfmnoohhhokicaa
open Go Go.AM
theorem cl0 : ((0 : Nat) : Int) = 0 := rfl
end Go.AM.Ytfmnoohhhokicaa
end
noncomputable section
namespace Go.AM
abbrev ZF := And.intro (And.intro (And.intro (And.intro (And.intro (And.intro (And.intro @ZO9 @ZIp) (And.intro @ZF3 (And.intro @ZOk
 @ZBn))) (And.intro (And.intro @ZGy @ZGt) (And.intro @ZPU (And.intro @ZCR @ZrD)))) (And.intro (And.intro
 (And.intro @Zgk @ZDr) (And.intro @ZrC (And.intro @ZC1 @ZK7))) (And.intro (And.intro @ZFf @Bool.not_true)
 (And.intro @Bool.not_false (And.intro @ZGV @ZHE))))) (And.intro (And.intro (And.intro (And.intro @Zmt @Z01J) (And.intro
 @ZPm (And.intro @ZQE @ZC6))) (And.intro (And.intro @ZKM @ZC8) (And.intro @ZBd (And.intro @Zqo
 @ZH1)))) (And.intro (And.intro (And.intro @Z11 @Z2H) (And.intro @Z21 (And.intro @ZIn @Z0k2))) (And.intro (And.intro
 @Z0fE (And.intro @ZDu @decide_eq_true_eq)) (And.intro @decide_eq_false_iff_not (And.intro @Nat.zero_add @Nat.add_zero)))))) (And.intro
 (And.intro (And.intro (And.intro (And.intro @Z0de @ZXv) (And.intro @Z0iu (And.intro @Z0dA @Z0bO))) (And.intro (And.intro @ZHr
 @bne_iff_ne.{0}) (And.intro @ne_eq.{1} (And.intro @beq_iff_eq.{0} @ite_not.{1})))) (And.intro (And.intro (And.intro @ZD0 @List.nil_append.{0})
 (And.intro @List.getElem?_toArray.{0} (And.intro @ZNE @ZLL))) (And.intro (And.intro @ZSI (And.intro @ZGw @ZHP)) (And.intro
 @ZQm (And.intro @ZL9 @ZP6))))) (And.intro (And.intro (And.intro (And.intro @Z04g @ZNK) (And.intro @ZH2 (And.intro @Z00U
 @ZDp))) (And.intro (And.intro @Zrw @ZH3) (And.intro @ZBj (And.intro @List.isEmpty_nil.{0} @List.isEmpty_cons.{0}))))
 (And.intro (And.intro (And.intro @List.map_nil.{0,0} @List.map_cons.{0,0}) (And.intro @Bool.true_or (And.intro @Bool.or_true @Bool.false_or)))
 (And.intro (And.intro @Bool.or_false (And.intro @Bool.and_true @Bool.true_and)) (And.intro @Bool.and_self (And.intro @decide_true @decide_false)))))))
 (And.intro (And.intro (And.intro (And.intro (And.intro (And.intro @not_true_eq_false @not_false_eq_true) (And.intro @or_false (And.intro @false_or
 @or_true))) (And.intro (And.intro @true_or @or_self) (And.intro @fo6 (And.intro @fo5 @Bool.not_eq_true)))) (And.intro (And.intro (And.intro
 @Bool.not_eq_false @Bool.not_eq_eq_eq_not) (And.intro @ZFh (And.intro @ZG4 @and_true))) (And.intro (And.intro @true_and
 @Int.natCast_nonneg) (And.intro @Int.ofNat_lt (And.intro @Int.toNat_natCast @List.append_nil.{0}))))) (And.intro (And.intro (And.intro (And.intro
 @if_true.{1} @if_false.{1}) (And.intro @Option.map_some.{0,0} (And.intro @Option.map_none.{0,0} @List.elem_cons.{0}))) (And.intro (And.intro
 @List.elem_nil.{0} @cond_true.{1}) (And.intro @cond_false.{1} (And.intro @List.length_cons.{0} @List.length_nil.{0})))) (And.intro (And.intro
 (And.intro @List.getElem?_cons_zero.{0} @List.getElem?_cons_succ.{0}) (And.intro @List.drop_zero.{0} (And.intro @List.drop_succ_cons.{0}
 @List.take_succ_cons.{0}))) (And.intro (And.intro @List.take_zero.{0} (And.intro @List.take_nil.{0} @List.set_cons_zero.{0})) (And.intro
 @List.set_cons_succ.{0} (And.intro @ZYk @Z0er)))))) (And.intro (And.intro (And.intro (And.intro (And.intro @ZJJ @ZHB) (And.intro
 @ZQ2 (And.intro @seqN @bindN))) (And.intro (And.intro @regN @ZPn) (And.intro @ZG6 (And.intro @ZD9 @ZqX)))) (And.intro
 (And.intro (And.intro @ZNN @ZQx) (And.intro @ZET (And.intro @ZGP @ZMK))) (And.intro (And.intro @ZNM (And.intro
 @ZLl @List.all_cons.{0})) (And.intro @List.all_nil.{0} (And.intro @ZWI @ZZ9))))) (And.intro (And.intro (And.intro (And.intro @Z01v
 @List.cons_append.{0}) (And.intro @Nat.le_refl (And.intro @Nat.sub_zero @Nat.mul_one))) (And.intro (And.intro @Nat.zero_mul @Nat.mul_zero) (And.intro
 @List.not_mem_nil.{0} (And.intro @beq_self_eq_true.{0} @bne_self_eq_false.{0})))) (And.intro (And.intro (And.intro @Int.lt_irrefl @Nat.lt_irrefl)
 (And.intro @Bool.false_eq_true (And.intro @Bool.false_and @Option.getD_none.{0}))) (And.intro (And.intro @Option.getD_some.{0} (And.intro
 @List.contains_cons.{0} @List.contains_nil.{0})) (And.intro @List.getD_cons_zero.{0} (And.intro @List.getD_cons_succ.{0} @List.getD_nil.{0})))))))
end Go.AM
end
noncomputable section
namespace Go.AM
noncomputable section NC
def posF : List Nat → Nat → Nat → Option Nat
 | [], _, _ => none
 | k :: ks, j, i => if k = i then some j else posF ks (j + 1) i
mutual
def ren (ρ : Nat → Option Nat) : AV → Option AV
 | .agg vs => match renL ρ vs with
   | some xs => some (.agg xs)
   | none => none
 | .tup vs => match renL ρ vs with
   | some xs => some (.tup xs)
   | none => none
 | .clo f vs => match renL ρ vs with
   | some xs => some (.clo f xs)
   | none => none
 | .bnd f vs => match renL ρ vs with
   | some xs => some (.bnd f xs)
   | none => none
 | .ref id off len cap gl sz ex => match ρ id with
   | some j => some (.ref j off len cap gl sz ex)
   | none => none
 | .ptr id off gl => match ρ id with
   | some j => some (.ptr j off gl)
   | none => none
 | .mapv id => match ρ id with
   | some j => some (.mapv j)
   | none => none
 | a => some a
def renL (ρ : Nat → Option Nat) : List AV → Option (List AV)
 | [] => some []
 | a :: asx => match ren ρ a with
   | some x => match renL ρ asx with
     | some xs => some (x :: xs)
     | none => none
   | none => none
end
def renB (ρ : Nat → Option Nat) (b : Blk) : Option Blk :=
 match b.st with
 | .box => match renL ρ b.cells with
   | some cs => some ⟨.box, cs⟩
   | none => none
 | _ => some b
def foc (ρ : Nat → Option Nat) (H : AHeap) : Nat → List Nat → Option AHeap
 | _, [] => some []
 | j, i :: is => match hget H i with
   | some b => match renB ρ b with
     | some b1 => match foc ρ H (j + 1) is with
       | some t => some ((j, b1) :: t)
       | none => none
     | none => none
   | none => none
def outF (ks news : List Nat) (B n : Nat) : Option Nat :=
 if n < ks.length then ks[n]? else match posF news 0 n with
   | some j => some (B + j)
   | none => none
def goodB (H1 : AHeap) (m n : Nat) (b : Blk) : Bool :=
 b.st.open_ || (decide (n < m) && match hget H1 n with
   | some b0 => decide (b0.cells.length = b.cells.length)
   | none => false)
def unf (ρ : Nat → Option Nat) (H1 H2 : AHeap) (m : Nat) : List Nat → Option Ups
 | [] => some []
 | n :: ns => match ρ n with
   | some i => match hget H2 n with
     | some b => if goodB H1 m n b = true then
         match renB ρ b with
         | some b' => match unf ρ H1 H2 m ns with
           | some us => some ((i, b') :: us)
           | none => none
         | none => none
       else none
     | none => none
   | none => none
def newsF (H2 : AHeap) (r : AV) (m : Nat) : List Nat := (mark H2 1000 (refsOf r ++ List.range m) []).filter fun n => decide (m ≤ n)
def freeL (H : AHeap) (B : Nat) : Nat → Bool
 | 0 => true
 | n + 1 => (hget H (B + n)).isNone && freeL H B n
def baseF (H : AHeap) (n : Nat) : Nat → Nat → Option Nat
 | 0, _ => none
 | t + 1, B => if freeL H B n = true then some B else baseF H n t (B + 64)
def backF (H H1 : AHeap) (ks : List Nat) (B : Nat) : Option (AV × AHeap) → Option (AV × AHeap)
 | some (r, H2) =>
   match baseF H (newsF H2 r ks.length).length 8 B with
   | some B => if AM.apart (newsF H2 r ks.length) = true then
       match ren (outF ks (newsF H2 r ks.length) B) r, unf (outF ks (newsF H2 r ks.length) B) H1 H2 ks.length (List.range ks.length ++ newsF H2 r ks.length) with
       | some r', some us => some (r', upds H us)
       | _, _ => none
     else none
   | none => none
 | none => none
def focus (C : Callee) (f : FuncId) (args : List AV) (H : AHeap) (B : Nat) (ks : List Nat) : Option (AV × AHeap) :=
 if AM.apart ks = true then
   match renL (posF ks 0) args, foc (posF ks 0) H 0 ks with
   | some args1, some H1 => backF H H1 ks B (C f args1 H1 64)
   | _, _ => none
 else none
def frC (fr : FuncId → Bool) (C : Callee) : Callee := fun f args H B =>
 match fr f with
 | true => focus C f args H B (mark H 1000 (refsL args) []).reverse
 | false => C f args H B
def callF (E : Env) (fr : FuncId → Bool) (fg : FuncId → Nat → List Nat) (N : Nat) : Nat → Callee
 | 0 => fun _ _ _ _ => none
 | d + 1 => bodyA E (frC fr (callF E fr fg N d)) fg N
end NC
def AV.leaf : AV → Bool
 | .ref .. | .ptr .. | .mapv .. => true
 | _ => false
noncomputable section
variable {P : Program} {E : Env}
mutual
theorem Z5N {fz fz' : Nat → Prop} {w w' : World} (hf : ∀ k, fz k → fz' k ∧ w'.heap[k]? = w.heap[k]?) {rf rf' : RFt} {ρ : Nat → Option Nat}
   (hr : ∀ a a' v, a.leaf = true → ren ρ a = some a' → v.oneCell' = true → rf a v → rf' a' v) : ∀ (a a' : AV) (v : Value), ren ρ a = some a' → VR fz w a rf v → VR fz' w' a' rf' v
 | .int .., a', _, e, h => by simp only [ren, Option.some.injEq] at e; subst e; simpa only [VR] using h
 | .bool .., a', _, e, h => by simp only [ren, Option.some.injEq] at e; subst e; simpa only [VR] using h
 | .str .., a', _, e, h => by simp only [ren, Option.some.injEq] at e; subst e; simpa only [VR] using h
 | .nilsl, a', _, e, h => by simp only [ren, Option.some.injEq] at e; subst e; simpa only [VR] using h
 | .nilptr, a', _, e, h => by simp only [ren, Option.some.injEq] at e; subst e; simpa only [VR] using h
 | .nilfunc, a', _, e, h => by simp only [ren, Option.some.injEq] at e; subst e; simpa only [VR] using h
 | .nilmap, a', _, e, h => by simp only [ren, Option.some.injEq] at e; subst e; simpa only [VR] using h
 | .any, a', _, e, _ => by simp only [ren, Option.some.injEq] at e; subst e; simp only [VR]
 | .imm cells len ex, a', _, e, h => by
   simp only [ren, Option.some.injEq] at e; subst e
   simp only [VR] at h ⊢; obtain ⟨b, o, cap, e, h1, h2, h3⟩ := h
   refine ⟨b, o, cap, e, h1, h2, ?_⟩
   rcases h3 with h3 | ⟨h3, h4⟩
   · exact .inl h3
   · exact .inr ⟨(hf b h3).1, VRc.mono (K := fun _ => True) hf (fun _ _ _ h => h) cells b o (hf b h3).2 (fun _ _ => trivial) h4⟩
 | .iptr cells off, a', _, e, h => by
   simp only [ren, Option.some.injEq] at e; subst e
   simp only [VR] at h ⊢; obtain ⟨b, o, e, h3, h4⟩ := h
   exact ⟨b, o, e, (hf b h3).1, VRc.mono (K := fun _ => True) hf (fun _ _ _ h => h) cells b o (hf b h3).2 (fun _ _ => trivial) h4⟩
 | .agg vs, a', _, e, h => by
   simp only [ren] at e
   split at e
   · rename_i xs hx
     obtain rfl := Option.some.inj e
     simp only [VR] at h ⊢; obtain ⟨A, q, h⟩ := h
     exact ⟨A, q, ZA1 hf hr vs xs _ hx h⟩
   · exact absurd e (by simp)
 | .tup vs, a', _, e, h => by
   simp only [ren] at e
   split at e
   · rename_i xs hx
     obtain rfl := Option.some.inj e
     simp only [VR] at h ⊢; obtain ⟨A, q, h⟩ := h
     exact ⟨A, q, Z4U hf hr vs xs _ hx h⟩
   · exact absurd e (by simp)
 | .clo f vs, a', _, e, h => by
   simp only [ren] at e
   split at e
   · rename_i xs hx
     obtain rfl := Option.some.inj e
     simp only [VR] at h ⊢; obtain ⟨A, q, h⟩ := h
     exact ⟨A, q, Z4U hf hr vs xs _ hx h⟩
   · exact absurd e (by simp)
 | .bnd f vs, a', _, e, h => by
   simp only [ren] at e
   split at e
   · rename_i xs hx
     obtain rfl := Option.some.inj e
     simp only [VR] at h ⊢; obtain ⟨A, q, h⟩ := h
     exact ⟨A, q, Z4U hf hr vs xs _ hx h⟩
   · exact absurd e (by simp)
 | .ref id off len cap gl sz ex, a', v, e, h => by
   have e0 := e
   simp only [ren] at e
   split at e
   · obtain rfl := Option.some.inj e
     simp only [VR] at h ⊢
     exact ⟨h.1, hr _ _ v rfl e0 h.1 h.2⟩
   · exact absurd e (by simp)
 | .ptr id off gl, a', v, e, h => by
   have e0 := e
   simp only [ren] at e
   split at e
   · obtain rfl := Option.some.inj e
     simp only [VR] at h ⊢
     exact ⟨h.1, hr _ _ v rfl e0 h.1 h.2⟩
   · exact absurd e (by simp)
 | .mapv id, a', v, e, h => by
   have e0 := e
   simp only [ren] at e
   split at e
   · obtain rfl := Option.some.inj e
     simp only [VR] at h ⊢
     exact ⟨h.1, hr _ _ v rfl e0 h.1 h.2⟩
   · exact absurd e (by simp)
theorem Z4U {fz fz' : Nat → Prop} {w w' : World} (hf : ∀ k, fz k → fz' k ∧ w'.heap[k]? = w.heap[k]?) {rf rf' : RFt} {ρ : Nat → Option Nat}
   (hr : ∀ a a' v, a.leaf = true → ren ρ a = some a' → v.oneCell' = true → rf a v → rf' a' v) : ∀ (asx bs : List AV) (vs : List Value), renL ρ asx = some bs → VRs fz w asx rf vs → VRs fz' w' bs rf' vs
 | [], bs, _, e, h => by simp only [renL, Option.some.injEq] at e; subst e; simpa only [VRs] using h
 | a :: asx, bs, _, e, h => by
   simp only [renL] at e
   split at e
   · rename_i x hx
     split at e
     · rename_i xs hxs
       obtain rfl := Option.some.inj e
       simp only [VRs] at h ⊢; obtain ⟨v, t, q, h1, h2⟩ := h
       exact ⟨v, t, q, Z5N hf hr a x v hx h1, Z4U hf hr asx xs t hxs h2⟩
     · exact absurd e (by simp)
   · exact absurd e (by simp)
theorem ZA1 {fz fz' : Nat → Prop} {w w' : World} (hf : ∀ k, fz k → fz' k ∧ w'.heap[k]? = w.heap[k]?) {rf rf' : RFt} {ρ : Nat → Option Nat}
   (hr : ∀ a a' v, a.leaf = true → ren ρ a = some a' → v.oneCell' = true → rf a v → rf' a' v) : ∀ (asx bs : List AV) (vs : List Value), renL ρ asx = some bs → VRo fz w asx rf vs → VRo fz' w' bs rf' vs
 | [], bs, _, e, h => by simp only [renL, Option.some.injEq] at e; subst e; simpa only [VRo] using h
 | a :: asx, bs, _, e, h => by
   simp only [renL] at e
   split at e
   · rename_i x hx
     split at e
     · rename_i xs hxs
       obtain rfl := Option.some.inj e
       simp only [VRo] at h ⊢; obtain ⟨v, t, q, h0, h1, h2⟩ := h
       exact ⟨v, t, q, h0, Z5N hf hr a x v hx h1, ZA1 hf hr asx xs t hxs h2⟩
     · exact absurd e (by simp)
   · exact absurd e (by simp)
end
theorem ZrQ {fz fz' : Nat → Prop} {w w' : World} (hf : ∀ k, fz k → fz' k ∧ w'.heap[k]? = w.heap[k]?) {rf rf' : RFt} {ρ : Nat → Option Nat}
   (hr : ∀ a a' v, a.leaf = true → ren ρ a = some a' → v.oneCell' = true → rf a v → rf' a' v) : ∀ (asx bs : List AV) (b o : Nat), w'.heap[b]? = w.heap[b]? → renL ρ asx = some bs → VRc fz w asx rf b o → VRc fz' w' bs rf' b o
 | [], bs, _, _, _, e, _ => by simp only [renL, Option.some.injEq] at e; subst e; simp only [VRc]
 | a :: asx, bs, b, o, hb, e, h => by
   simp only [renL] at e
   split at e
   · rename_i x hx
     split at e
     · rename_i xs hxs
       obtain rfl := Option.some.inj e
       simp only [VRc] at h ⊢; obtain ⟨⟨v, q, h0, h1⟩, h2⟩ := h
       exact ⟨⟨v, by rw [Z5A hb]; exact q, h0, Z5N hf hr a x v hx h1⟩, ZrQ hf hr asx xs b (o + 1) hb hxs h2⟩
     · exact absurd e (by simp)
   · exact absurd e (by simp)
mutual
theorem Zn9 : ∀ a : AV, ren some a = some a
 | .int .. | .bool .. | .str .. | .nilsl | .nilptr | .nilfunc | .nilmap | .any | .imm .. | .iptr .. | .ref .. | .ptr .. | .mapv .. => by simp only [ren]
 | .agg vs => by simp only [ren, Z3x vs]
 | .tup vs => by simp only [ren, Z3x vs]
 | .clo f vs => by simp only [ren, Z3x vs]
 | .bnd f vs => by simp only [ren, Z3x vs]
theorem Z3x : ∀ l : List AV, renL some l = some l
 | [] => by simp only [renL]
 | a :: l => by simp only [renL, Zn9 a, Z3x l]
end
theorem Z7N {ρ : Nat → Option Nat} : ∀ {l l' : List AV}, renL ρ l = some l' → l'.length = l.length
 | [], _, h => by simp only [renL, Option.some.injEq] at h; subst h; rfl
 | a :: l, l', h => by
   simp only [renL] at h
   split at h
   · split at h
     · rename_i xs hxs
       obtain rfl := Option.some.inj h
       rw [List.length_cons, List.length_cons, Z7N hxs]
     · exact absurd h (by simp)
   · exact absurd h (by simp)
theorem Z17 {ρ : Nat → Option Nat} {b b' : Blk} (h : renB ρ b = some b') : b'.st = b.st ∧ b'.cells.length = b.cells.length := by
 unfold renB at h
 split at h
 · rename_i hs
   split at h
   · rename_i cs hc
     obtain rfl := Option.some.inj h
     exact ⟨hs.symm, Z7N hc⟩
   · exact absurd h (by simp)
 · obtain rfl := Option.some.inj h; exact ⟨rfl, rfl⟩
theorem Z5B {g g' : Gh} {ρ : Nat → Option Nat} {i j : Nat} {b b' : Blk} (hmu : g'.mu j = g.mu i) (hh : g'.w.heap[(g.mu i).1]? = g.w.heap[(g.mu i).1]?) (hf : ∀ k, g.fz k → g'.fz k ∧ g'.w.heap[k]? = g.w.heap[k]?)
   (hr : ∀ a a' v, a.leaf = true → ren ρ a = some a' → v.oneCell' = true → RF g a v → RF g' a' v) (hb : renB ρ b = some b') (h : Lies g i b) : Lies g' j b' := by
 by_cases hs : b.st = .mp
 · have : b' = b := by unfold renB at hb; rw [hs] at hb; exact (Option.some.inj hb).symm
   subst this
   obtain ⟨es, h1, h2⟩ := h.map hs
   exact Z3U hs ⟨es, by rw [hmu, hh]; exact h1, h2⟩
 · obtain ⟨cs, t, h1, h2⟩ := h.cells hs
   refine Z4I (by rw [(Z17 hb).1]; exact hs) ⟨cs, t, by rw [hmu, hh]; exact h1, ?_⟩
   rw [hmu, (Z17 hb).1]
   unfold renB at hb
   split at hb
   · rename_i hst
     split at hb
     · rename_i cs' hc
       obtain rfl := Option.some.inj hb
       rw [hst] at h2 ⊢
       exact ZrQ hf hr _ _ _ _ hh hc h2
     · exact absurd hb (by simp)
   · rename_i hst
     obtain rfl := Option.some.inj hb
     refine VRc.mono (K := fun _ => True) hf (fun a v _ h => ?_) _ _ _ hh (fun _ _ => trivial) h2
     cases hbs : b.st <;> rw [hbs] at h
     · exact absurd hbs hst
     all_goals exact h
theorem Z1T : ∀ (ks : List Nat) (j i n : Nat), posF ks j i = some n → j ≤ n ∧ ks[n - j]? = some i
 | [], _, _, _, h => by simp [posF] at h
 | k :: ks, j, i, n, h => by
   simp only [posF] at h
   split at h
   · rename_i e
     obtain rfl := Option.some.inj h
     subst e
     exact ⟨Nat.le_refl _, by rw [Nat.sub_self]; rfl⟩
   · obtain ⟨h1, h2⟩ := Z1T ks (j + 1) i n h
     refine ⟨by omega, ?_⟩
     rw [show n - j = (n - (j + 1)) + 1 by omega, List.getElem?_cons_succ]; exact h2
theorem Z1p : ∀ (ks : List Nat) (j i n : Nat), ks.Nodup → ks[n]? = some i → posF ks j i = some (j + n)
 | [], _, _, _, _, h => by simp at h
 | k :: ks, j, i, n, hn, h => by
   rw [List.nodup_cons] at hn
   simp only [posF]
   cases n with
   | zero => rw [if_pos (by simpa using h)]; rfl
   | succ n =>
     rw [List.getElem?_cons_succ] at h
     rw [if_neg (fun e => hn.1 (by rw [e]; exact List.mem_of_getElem? h)), Z1p ks (j + 1) i n hn.2 h]
     congr 1; omega
theorem ZpU {ρ : Nat → Option Nat} {H : AHeap} : ∀ (ks : List Nat) (j : Nat) {H1 : AHeap}, foc ρ H j ks = some H1 →
   (∀ n b1, hget H1 n = some b1 → j ≤ n ∧ ∃ i b, ks[n - j]? = some i ∧ hget H i = some b ∧ renB ρ b = some b1) ∧ (∀ n i, ks[n]? = some i → ∃ b b1, hget H i = some b ∧ renB ρ b = some b1 ∧ hget H1 (j + n) = some b1)
 | [], j, H1, h => by
   simp only [foc, Option.some.injEq] at h; subst h
   exact ⟨fun n b1 h => by simp [ZS] at h, fun n i h => by simp at h⟩
 | k :: ks, j, H1, h => by
   simp only [foc] at h
   split at h
   · rename_i b hb
     split at h
     · rename_i b1 hb1
       split at h
       · rename_i t ht
         obtain rfl := Option.some.inj h
         obtain ⟨h1, h2⟩ := ZpU ks (j + 1) ht
         refine ⟨fun n c hc => ?_, fun n i hi => ?_⟩
         · rw [ZX] at hc
           split at hc
           · rename_i e
             subst e
             obtain rfl := Option.some.inj hc
             exact ⟨Nat.le_refl _, k, b, by rw [Nat.sub_self]; rfl, hb, hb1⟩
           · obtain ⟨q1, i, b', q2, q3, q4⟩ := h1 n c hc
             refine ⟨by omega, i, b', ?_, q3, q4⟩
             rw [show n - j = (n - (j + 1)) + 1 by omega, List.getElem?_cons_succ]; exact q2
         · cases n with
           | zero =>
             simp only [List.getElem?_cons_zero, Option.some.injEq] at hi
             subst hi
             exact ⟨b, b1, hb, hb1, by rw [ZX, if_pos (by omega)]⟩
           | succ n =>
             rw [List.getElem?_cons_succ] at hi
             obtain ⟨b', b1', q1, q2, q3⟩ := h2 n i hi
             exact ⟨b', b1', q1, q2, by rw [ZX, if_neg (by omega), show j + (n + 1) = j + 1 + n by omega]; exact q3⟩
       · exact absurd h (by simp)
     · exact absurd h (by simp)
   · exact absurd h (by simp)
theorem ZnJ {ρ : Nat → Option Nat} {H1 H2 : AHeap} {m : Nat} : ∀ (ns : List Nat) {us : Ups}, unf ρ H1 H2 m ns = some us →
   (∀ n ∈ ns, ∃ i b b', ρ n = some i ∧ hget H2 n = some b ∧ goodB H1 m n b = true ∧ renB ρ b = some b' ∧ (i, b') ∈ us) ∧ us.map (fun p => some p.1) = ns.map ρ
 | [], us, h => by simp only [unf, Option.some.injEq] at h; subst h; exact ⟨fun n h => by simp at h, rfl⟩
 | n :: ns, us, h => by
   simp only [unf] at h
   split at h
   · rename_i i hi
     split at h
     · rename_i b hb
       split at h
       · rename_i hg
         split at h
         · rename_i b' hb'
           split at h
           · rename_i us' hu
             obtain rfl := Option.some.inj h
             obtain ⟨h1, h2⟩ := ZnJ ns hu
             refine ⟨fun x hx => ?_, ?_⟩
             · rcases List.mem_cons.1 hx with rfl | hx
               · exact ⟨i, b, b', hi, hb, hg, hb', by simp⟩
               · obtain ⟨i2, b2, b3, q1, q2, q3, q4, q5⟩ := h1 x hx
                 exact ⟨i2, b2, b3, q1, q2, q3, q4, by simp [q5]⟩
             · rw [List.map_cons, List.map_cons, h2, hi]
           · exact absurd h (by simp)
         · exact absurd h (by simp)
       · exact absurd h (by simp)
     · exact absurd h (by simp)
   · exact absurd h (by simp)
theorem Z5i {H : AHeap} {B : Nat} : ∀ {n : Nat}, freeL H B n = true → ∀ j, j < n → hget H (B + j) = none
 | 0, _, j, hj => by omega
 | n + 1, h, j, hj => by
   simp only [freeL, Bool.and_eq_true, Option.isNone_iff_eq_none] at h
   by_cases e : j = n
   · rw [e]; exact h.1
   · exact Z5i h.2 j (by omega)
theorem Z9O {H : AHeap} {n : Nat} : ∀ {t B B' : Nat}, baseF H n t B = some B' → freeL H B' n = true
 | 0, _, _, h => by simp [baseF] at h
 | t + 1, B, B', h => by
   simp only [baseF] at h
   split at h
   · rename_i hf
     obtain rfl := Option.some.inj h
     exact hf
   · exact Z9O h
theorem ZXG (b : Blk) : renB some b = some b := by
 unfold renB
 split
 · rename_i hs
   rw [Z3x]
   obtain ⟨st, cs⟩ := b
   simp only at hs
   subst hs
   rfl
 · rfl
theorem ZLg {C : Callee} (hC : CS P E C) {f : FuncId} {args : List AV} {H : AHeap} {B : Nat} {ks : List Nat} {r : AV} {H' : AHeap} (h : focus C f args H B ks = some (r, H'))
   (g : Gh) (vs : List Value) (hH : g.H = H) (hI : Inv E g) (hs : g.Rs args vs) : Calls P f vs.toArray g.w fun
     | .returned v, w' => ∃ g', g'.w = w' ∧ g'.H = H' ∧ Inv E g' ∧ Adv g g' ∧ g'.R r v
     | _, _ => False := by
 subst hH
 unfold focus at h
 split at h
 case isFalse => exact absurd h (by simp)
 rename_i hap
 split at h
 case h_2 => exact absurd h (by simp)
 rename_i args1 H1 e1 e2
 cases hc : C f args1 H1 64 with
 | none => rw [hc] at h; simp [backF] at h
 | some rH =>
 obtain ⟨r1, H2⟩ := rH
 rw [hc] at h
 simp only [backF] at h
 generalize hnw0 : newsF H2 r1 ks.length = news at h
 generalize hB0 : B = B0 at h
 split at h
 case h_2 => exact absurd h (by simp)
 rename_i B hB
 have hfr := Z9O hB
 split at h
 case isFalse => exact absurd h (by simp)
 rename_i hapn
 split at h
 case h_2 => exact absurd h (by simp)
 rename_i r' us e3 e4
 simp only [Option.some.injEq, Prod.mk.injEq] at h
 obtain ⟨rfl, rfl⟩ := h
 have hnd := Z2q hap
 have hndn := Z2q hapn
 have hnews : ∀ n ∈ news, ks.length ≤ n := by
   intro n hn
   rw [← hnw0] at hn
   exact of_decide_eq_true (List.mem_filter.1 hn).2
 obtain ⟨fs1, fs2⟩ := ZpU ks 0 e2
 generalize hg1 : (⟨fun j => g.mu (ks.getD j 0), g.fz, H1, g.w⟩ : Gh) = g1
 have g1H : g1.H = H1 := by rw [← hg1]
 have g1w : g1.w = g.w := by rw [← hg1]
 have g1f : g1.fz = g.fz := by rw [← hg1]
 have hmu1 : ∀ n i, ks[n]? = some i → g1.mu n = g.mu i := by
   intro n i h
   rw [← hg1]
   simp only [List.getD_eq_getElem?_getD, h, Option.getD_some]
 have hf1 : ∀ k, g.fz k → g1.fz k ∧ g1.w.heap[k]? = g.w.heap[k]? := fun k hk => ⟨by rw [g1f]; exact hk, by rw [g1w]⟩
 have hin : ∀ a a' v, AV.leaf a = true → ren (posF ks 0) a = some a' → v.oneCell' = true → RF g a v → RF g1 a' v := by
   intro a a' v hl e _ hv
   cases a <;> simp only [AV.leaf, Bool.false_eq_true] at hl <;> simp only [ren] at e <;> split at e <;> try (simp at e; done)
   all_goals
     rename_i n hn
     obtain rfl := Option.some.inj e
     have hk := (Z1T _ _ _ _ hn).2
     rw [Nat.sub_zero] at hk
     obtain ⟨b, b1, q1, q2, q3⟩ := fs2 n _ hk
     rw [Nat.zero_add] at q3
     simp only [RF] at hv ⊢
     obtain ⟨b0, p1, p2, p3⟩ := hv
     rw [q1] at p1
     obtain rfl := Option.some.inj p1
     obtain ⟨r1, r2⟩ := Z17 q2
     refine ⟨b1, by rw [g1H]; exact q3, ?_, ?_⟩
   · rw [r2]; exact p2
   · rw [r2, hmu1 _ _ hk, g1w]; exact p3
   · rw [r2]; exact p2
   · rw [r2, hmu1 _ _ hk]; exact p3
   · rw [r1]; exact p2
   · rw [hmu1 _ _ hk]; exact p3
 have hI1 : Inv E g1 := by
   refine ⟨fun n b1 h => ?_, fun n n' b b' h h' hne => ?_, fun n b h ho => ?_, fun n b h ho => ?_, fun k hk => ?_, fun k cells h => ?_⟩
   · rw [g1H] at h
     obtain ⟨_, i, b, q1, q2, q3⟩ := fs1 n b1 h
     rw [Nat.sub_zero] at q1
     exact Z5B (hmu1 n i q1) (by rw [g1w]) hf1 hin q3 (hI.blk i b q2)
   · rw [g1H] at h h'
     obtain ⟨_, i, c, q1, q2, _⟩ := fs1 n b h
     obtain ⟨_, i', c', q1', q2', _⟩ := fs1 n' b' h'
     rw [Nat.sub_zero] at q1 q1'
     rw [hmu1 n i q1, hmu1 n' i' q1']
     refine hI.inj i i' c c' q2 q2' fun e => hne ?_
     subst e
     have a1 := Z1p ks 0 i n hnd q1
     rw [Z1p ks 0 i n' hnd q1'] at a1
     have := Option.some.inj a1; omega
   · rw [g1H] at h
     obtain ⟨_, i, c, q1, q2, q3⟩ := fs1 n b h
     rw [Nat.sub_zero] at q1
     rw [hmu1 n i q1, g1f]
     exact hI.opn i c q2 (by rw [← (Z17 q3).1]; exact ho)
   · rw [g1H] at h
     obtain ⟨_, i, c, q1, q2, q3⟩ := fs1 n b h
     rw [Nat.sub_zero] at q1
     rw [hmu1 n i q1, g1f]
     exact hI.frz i c q2 (by rw [← (Z17 q3).1]; exact ho)
   · rw [g1f] at hk; rw [g1w]; exact hI.lt k hk
   · rw [g1f, g1w]; exact hI.glob k cells h
 have hs1 : g1.Rs args1 vs := Z4U hf1 hin args args1 vs e1 hs
 have hcall := hC f args1 H1 64 r1 H2 hc g1 vs g1H hI1 hs1
 rw [g1w] at hcall
 refine hcall.mono ?_
 intro e w' he
 cases e with
 | panicked => exact he.elim
 | outgrown => exact he.elim
 | returned v =>
 obtain ⟨g2, rfl, hH2, hI2, hA, hR⟩ := he
 generalize hρ : outF ks news B = ρ at e3 e4
 have hinvd : ∃ inv : Nat → Option Nat, (∀ n i, ρ n = some i → inv i = some n ∧ (n < ks.length ∨ n ∈ news)) ∧ (∀ i n, inv i = some n → ρ n = some i) ∧ (∀ n i : Nat, ks[n]? = some i → inv i = some n ∧ ρ n = some i) ∧ ∀ i n : Nat, inv i = some n → held g.H i → ks[n]? = some i := by
   refine ⟨fun i => match posF ks 0 i with
     | some n => some n
     | none => if B ≤ i then news[i - B]? else none, ?_, ?_, ?_, ?_⟩
   · intro n i h
     rw [← hρ] at h
     unfold outF at h
     split at h
     · rename_i hl
       have := Z1p ks 0 i n hnd h
       rw [Nat.zero_add] at this
       simp only [this]
       exact ⟨trivial, .inl hl⟩
     · split at h
       · rename_i j hj
         obtain rfl := Option.some.inj h
         have hjn := (Z1T _ _ _ _ hj).2
         rw [Nat.sub_zero] at hjn
         have hno : posF ks 0 (B + j) = none := by
           cases hp : posF ks 0 (B + j) with
           | none => rfl
           | some m =>
             have := (Z1T _ _ _ _ hp).2
             obtain ⟨b, _, q, _⟩ := fs2 _ _ this
             rw [Z5i hfr j (List.getElem?_eq_some_iff.1 hjn).1] at q
             exact absurd q (by simp)
         simp only [hno]
         rw [show B + j - B = j by omega, if_pos (by omega)]
         exact ⟨hjn, .inr (List.mem_of_getElem? hjn)⟩
       · exact absurd h (by simp)
   · intro i n h
     rw [← hρ]
     unfold outF
     cases hp : posF ks 0 i with
     | some m =>
       simp only [hp, Option.some.injEq] at h
       subst h
       have := (Z1T _ _ _ _ hp).2
       rw [Nat.sub_zero] at this
       rw [if_pos (List.getElem?_eq_some_iff.1 this).1]; exact this
     | none =>
       simp only [hp] at h
       split at h
       · rename_i hb
         have := hnews _ (List.mem_of_getElem? h)
         have hq := Z1p news 0 n (i - B) hndn h
         rw [Nat.zero_add] at hq
         rw [if_neg (by omega), hq]
         show some (B + (i - B)) = some i
         congr 1; omega
       · exact absurd h (by simp)
   · intro n i h
     have := Z1p ks 0 i n hnd h
     rw [Nat.zero_add] at this
     simp only [this, true_and]
     rw [← hρ]
     unfold outF
     rw [if_pos (List.getElem?_eq_some_iff.1 h).1]; exact h
   · intro i n h hh
     cases hp : posF ks 0 i with
     | some m =>
       simp only [hp, Option.some.injEq] at h
       subst h
       have := (Z1T _ _ _ _ hp).2
       rw [Nat.sub_zero] at this
       exact this
     | none =>
       simp only [hp] at h
       split at h
       · rename_i hb
         obtain ⟨b, hb2⟩ := hh
         have := Z5i hfr _ (List.getElem?_eq_some_iff.1 h).1
         rw [show B + (i - B) = i by omega, hb2] at this
         exact absurd this (by simp)
       · exact absurd h (by simp)
 obtain ⟨inv, hi1, hi2, hi3, hi4⟩ := hinvd
 obtain ⟨u1, u2⟩ := ZnJ _ e4
 have hmem : ∀ n i, ρ n = some i → n ∈ List.range ks.length ++ news := by
   intro n i h
   rcases (hi1 n i h).2 with h | h
   · exact List.mem_append_left _ (List.mem_range.2 h)
   · exact List.mem_append_right _ h
 have hnsd : (List.range ks.length ++ news).Nodup := by
   rw [List.nodup_append]
   refine ⟨List.nodup_range, hndn, fun a ha b hb e => ?_⟩
   have := List.mem_range.1 ha
   have := hnews b hb
   omega
 have hund : (us.map (·.1)).Nodup := by
   have h1 : ((List.range ks.length ++ news).map ρ).Nodup := by
     unfold List.Nodup
     rw [List.pairwise_map]
     refine hnsd.imp_of_mem fun {a b} ha hb hne e => hne ?_
     obtain ⟨i, _, _, q, _⟩ := u1 a ha
     obtain ⟨j, _, _, q', _⟩ := u1 b hb
     rw [q, q'] at e
     obtain rfl := Option.some.inj e
     have := (hi1 a i q).1
     rw [(hi1 b i q').1] at this
     exact (Option.some.inj this).symm
   rw [← u2] at h1
   unfold List.Nodup at h1 ⊢
   rw [List.pairwise_map] at h1 ⊢
   exact h1.imp fun h e => h (by rw [e])
 have hk1 : ∀ n i, ρ n = some i → ∃ b b', hget H2 n = some b ∧ goodB H1 ks.length n b = true ∧ renB ρ b = some b' ∧ hget (upds g.H us) i = some b' := by
   intro n i h
   obtain ⟨i', b, b', q1, q2, q3, q4, q5⟩ := u1 n (hmem n i h)
   rw [h] at q1
   obtain rfl := Option.some.inj q1
   exact ⟨b, b', q2, q3, q4, Z1H us g.H hund _ q5⟩
 have hk2 : ∀ i, inv i = none → hget (upds g.H us) i = hget g.H i := by
   intro i h
   refine Zw us g.H i fun hm => ?_
   obtain ⟨p, hp, rfl⟩ := List.mem_map.1 hm
   have : some p.1 ∈ us.map (fun p => some p.1) := List.mem_map.2 ⟨p, hp, rfl⟩
   rw [u2] at this
   obtain ⟨n, _, hn⟩ := List.mem_map.1 this
   rw [(hi1 n _ hn).1] at h
   exact absurd h (by simp)
 generalize hg' : (⟨fun i => match inv i with | some n => g2.mu n | none => g.mu i, g2.fz, upds g.H us, g2.w⟩ : Gh) = g'
 have gH : g'.H = upds g.H us := by rw [← hg']
 have gw : g'.w = g2.w := by rw [← hg']
 have gf : g'.fz = g2.fz := by rw [← hg']
 have gm1 : ∀ i n, inv i = some n → g'.mu i = g2.mu n := by intro i n h; rw [← hg']; simp only [h]
 have gm2 : ∀ i, inv i = none → g'.mu i = g.mu i := by intro i h; rw [← hg']; simp only [h]
 have hout : ∀ a a' v, AV.leaf a = true → ren ρ a = some a' → v.oneCell' = true → RF g2 a v → RF g' a' v := by
   intro a a' v hl e _ hv
   cases a <;> simp only [AV.leaf, Bool.false_eq_true] at hl <;> simp only [ren] at e <;> split at e <;> try (simp at e; done)
   all_goals
     rename_i i hn
     obtain rfl := Option.some.inj e
     obtain ⟨b, b', q1, _, q3, q4⟩ := hk1 _ i hn
     simp only [RF] at hv ⊢
     obtain ⟨b0, p1, p2, p3⟩ := hv
     rw [hH2, q1] at p1
     obtain rfl := Option.some.inj p1
     obtain ⟨r1, r2⟩ := Z17 q3
     have hm := gm1 i _ (hi1 _ i hn).1
     refine ⟨b', by rw [gH]; exact q4, ?_, ?_⟩
   · rw [r2]; exact p2
   · rw [r2, hm, gw]; exact p3
   · rw [r2]; exact p2
   · rw [r2, hm]; exact p3
   · rw [r1]; exact p2
   · rw [hm]; exact p3
 have wr1 : ∀ k, wr g1 k → ∃ (n i : Nat) (b : Blk), ks[n]? = some i ∧ hget g.H i = some b ∧ b.st.open_ = true ∧ (g.mu i).1 = k := by
   rintro k ⟨n, b1, h, ho, e⟩
   rw [g1H] at h
   obtain ⟨_, i, b, q1, q2, q3⟩ := fs1 n b1 h
   rw [Nat.sub_zero] at q1
   exact ⟨n, i, b, q1, q2, by rw [← (Z17 q3).1]; exact ho, by rw [← hmu1 n i q1]; exact e⟩
 have wr1g : ∀ k, wr g1 k → wr g k := fun k h => by
   obtain ⟨_, i, b, _, q2, q3, q4⟩ := wr1 k h
   exact ⟨i, b, q2, q3, q4⟩
 have hold : ∀ k, k < g.w.heap.size → ¬ wr g1 k → g2.w.heap[k]? = g.w.heap[k]? := by
   intro k h1 h2
   have := hA.old k (by rw [g1w]; exact h1) h2
   rw [g1w] at this; exact this
 have hlt : ∀ i b, hget g.H i = some b → (g.mu i).1 < g.w.heap.size := fun i b h => (hI.blk i b h).lt
 have hnw : ∀ i b, hget g.H i = some b → inv i = none → ¬ wr g1 (g.mu i).1 := by
   intro i b h hi hw
   obtain ⟨n, i2, b2, q1, q2, _, q4⟩ := wr1 _ hw
   refine hI.inj i2 i b2 b q2 h (fun e => ?_) q4
   subst e
   rw [(hi3 n i2 q1).1] at hi
   exact absurd hi (by simp)
 have hnwf : ∀ k, g.fz k → ¬ wr g1 k := by
   intro k hk hw
   obtain ⟨i, b, q1, q2, q3⟩ := wr1g k hw
   exact hI.opn i b q1 q2 (by rw [q3]; exact hk)
 have hf2 : ∀ k, g2.fz k → g.fz k ∨ wr g1 k ∨ g.w.heap.size ≤ k := by
   intro k h
   have := hA.fz2 k h
   rw [g1f, g1w] at this; exact this
 have hf : ∀ k, g.fz k → g'.fz k ∧ g'.w.heap[k]? = g.w.heap[k]? := fun k hk =>
   ⟨by rw [gf]; exact hA.fz' k (by rw [g1f]; exact hk), by rw [gw]; exact hold k (hI.lt k hk) (hnwf k hk)⟩
 have hth : ∀ a a' v, AV.leaf a = true → ren some a = some a' → v.oneCell' = true → RF g a v → RF g' a' v := by
   intro a a' v hl e hv1 hv
   rw [Zn9] at e
   obtain rfl := Option.some.inj e
   have key : ∀ i, refsOf a = [i] → held g.H i → (∀ n, inv i = some n → ∃ a1, ren (posF ks 0) a = some a1 ∧ ren ρ a1 = some a) → (∃ n, inv i = some n) → RF g' a v := by
     intro i _ _ h2 ⟨n, hn⟩
     obtain ⟨a1, e1, e2⟩ := h2 n hn
     have hl1 : a1.leaf = true := by
       cases a <;> simp only [AV.leaf, Bool.false_eq_true] at hl <;> simp only [ren] at e1 <;> split at e1 <;> try (simp at e1; done)
       all_goals (obtain rfl := Option.some.inj e1; rfl)
     have h3 := hin a a1 v hl e1 hv1 hv
     have h4 : g1.R a1 v := by
       cases a1 <;> simp only [AV.leaf, Bool.false_eq_true] at hl1 <;> simp only [Gh.R, VR] <;> exact ⟨hv1, h3⟩
     have h5 := hA.vr a1 v h4
     have h6 : RF g2 a1 v := by
       cases a1 <;> simp only [AV.leaf, Bool.false_eq_true] at hl1 <;> simp only [Gh.R, VR] at h5 <;> exact h5.2
     exact hout a1 a v hl1 e2 hv1 h6
   cases a <;> simp only [AV.leaf, Bool.false_eq_true] at hl
   · rename_i i off len cap gl sz ex
     have hv0 := hv
     simp only [RF] at hv
     obtain ⟨b, p1, p2, p3⟩ := hv
     cases hi : inv i with
     | none =>
       simp only [RF]
       refine ⟨b, by rw [gH, hk2 i hi]; exact p1, p2, fun e => ?_⟩
       have eb : bsz g'.w (g.mu i).1 = bsz g.w (g.mu i).1 := by simp only [bsz, gw, hold _ (hlt i b p1) (hnw i b p1 hi)]
       rw [gm2 i hi, eb]
       exact p3 e
     | some n =>
       refine key i (by simp [refsOf]) ⟨b, p1⟩ (fun m hm => ?_) ⟨n, hi⟩
       have hk := hi4 i m hm ⟨b, p1⟩
       have := Z1p ks 0 i m hnd hk
       rw [Nat.zero_add] at this
       exact ⟨.ref m off len cap gl sz ex, by simp only [ren, this], by simp only [ren, hi2 i m hm]⟩
   · rename_i i off gl
     have hv0 := hv
     simp only [RF] at hv
     obtain ⟨b, p1, p2, p3⟩ := hv
     cases hi : inv i with
     | none =>
       simp only [RF]
       refine ⟨b, by rw [gH, hk2 i hi]; exact p1, p2, fun e => ?_⟩
       rw [gm2 i hi]
       exact p3 e
     | some n =>
       refine key i (by simp [refsOf]) ⟨b, p1⟩ (fun m hm => ?_) ⟨n, hi⟩
       have hk := hi4 i m hm ⟨b, p1⟩
       have := Z1p ks 0 i m hnd hk
       rw [Nat.zero_add] at this
       exact ⟨.ptr m off gl, by simp only [ren, this], by simp only [ren, hi2 i m hm]⟩
   · rename_i i
     have hv0 := hv
     simp only [RF] at hv
     obtain ⟨b, p1, p2, p3⟩ := hv
     cases hi : inv i with
     | none =>
       simp only [RF]
       refine ⟨b, by rw [gH, hk2 i hi]; exact p1, p2, ?_⟩
       rw [gm2 i hi]
       exact p3
     | some n =>
       refine key i (by simp [refsOf]) ⟨b, p1⟩ (fun m hm => ?_) ⟨n, hi⟩
       have hk := hi4 i m hm ⟨b, p1⟩
       have := Z1p ks 0 i m hnd hk
       rw [Nat.zero_add] at this
       exact ⟨.mapv m, by simp only [ren, this], by simp only [ren, hi2 i m hm]⟩
 have hcase : ∀ i b, hget g'.H i = some b → (inv i = none ∧ hget g.H i = some b) ∨ ∃ n b2, inv i = some n ∧ hget g2.H n = some b2 ∧ goodB H1 ks.length n b2 = true ∧ renB ρ b2 = some b := by
   intro i b h
   rw [gH] at h
   cases hi : inv i with
   | none => rw [hk2 i hi] at h; exact .inl ⟨rfl, h⟩
   | some n =>
     obtain ⟨b2, b', q1, q2, q3, q4⟩ := hk1 n i (hi2 i n hi)
     rw [q4] at h
     obtain rfl := Option.some.inj h
     exact .inr ⟨n, b2, rfl, by rw [hH2]; exact q1, q2, q3⟩
 have hsep : ∀ i n b b2, inv i = none → hget g.H i = some b → hget g2.H n = some b2 → goodB H1 ks.length n b2 = true → (g2.mu n).1 ≠ (g.mu i).1 := by
   intro i n b b2 hi hb hb2 hgood e
   have hl := hlt i b hb
   cases ho : b2.st.open_ with
   | true =>
     rcases hA.wr' _ ⟨n, b2, hb2, ho, rfl⟩ with hw | hw
     · rw [e] at hw; exact hnw i b hb hi hw
     · rw [g1w] at hw; omega
   | false =>
     unfold goodB at hgood
     rw [ho, Bool.false_or, Bool.and_eq_true, decide_eq_true_eq] at hgood
     obtain ⟨hn, hgood⟩ := hgood
     split at hgood
     · rename_i b0 hb0
       have hlen := of_decide_eq_true hgood
       obtain ⟨_, i2, c, q1, q2, q3⟩ := fs1 n b0 hb0
       rw [Nat.sub_zero] at q1
       have hvr := hA.vr (.ptr n 0 b0.cells.length) (.pointer (some ⟨(g1.mu n).1, (g1.mu n).2 + 0, none⟩)) (Zcz (by rw [g1H]; exact hb0) rfl)
       simp only [Gh.R, VR, RF] at hvr
       obtain ⟨_, b3, k1, _, k3⟩ := hvr
       rw [hb2] at k1
       obtain rfl := Option.some.inj k1
       have := k3 hlen
       simp only [Value.pointer.injEq, Option.some.injEq, Addr.mk.injEq] at this
       rw [← this.1, hmu1 n i2 q1] at e
       refine hI.inj i2 i c b q2 hb (fun e2 => ?_) e
       subst e2
       rw [(hi3 n i2 q1).1] at hi
       exact absurd hi (by simp)
     · exact absurd hgood (by simp)
 refine ⟨g', gw, gH, ⟨fun i b h => ?_, fun i j b b' h h' hne => ?_, fun i b h ho => ?_, fun i b h ho => ?_, fun k hk => ?_, fun k cells h => ?_⟩,
   ⟨fun a v h => Z5N hf hth a a v (Zn9 a) h, ?_, ?_, ?_, ?_, ?_, ?_, ?_, ?_⟩, ?_⟩
 · rcases hcase i b h with ⟨hi, hb⟩ | ⟨n, b2, hi, hb2, _, hr⟩
   · exact Z5B (gm2 i hi) (by rw [gw]; exact hold _ (hlt i b hb) (hnw i b hb hi)) hf hth (ZXG b) (hI.blk i b hb)
   · exact Z5B (gm1 i n hi) (by rw [gw]) (fun k hk => ⟨by rw [gf]; exact hk, by rw [gw]⟩) hout hr (hI2.blk n b2 hb2)
 · rcases hcase i b h with ⟨hi, hb⟩ | ⟨n, b2, hi, hb2, hgd, hr⟩ <;> rcases hcase j b' h' with ⟨hj, hb'⟩ | ⟨m, c2, hj, hc2, hgd', hr'⟩
   · rw [gm2 i hi, gm2 j hj]; exact hI.inj i j b b' hb hb' hne
   · rw [gm2 i hi, gm1 j m hj]; exact fun e => hsep i m b c2 hi hb hc2 hgd' e.symm
   · rw [gm1 i n hi, gm2 j hj]; exact hsep j n b' b2 hj hb' hb2 hgd
   · rw [gm1 i n hi, gm1 j m hj]
     refine hI2.inj n m b2 c2 hb2 hc2 fun e => hne ?_
     subst e
     have := hi2 i n hi
     rw [hi2 j n hj] at this
     exact (Option.some.inj this).symm
 · rw [gf]
   rcases hcase i b h with ⟨hi, hb⟩ | ⟨n, b2, hi, hb2, hgd, hr⟩
   · rw [gm2 i hi]
     intro hz
     rcases hf2 _ hz with q | q | q
     · exact hI.opn i b hb ho q
     · exact hnw i b hb hi q
     · have := hlt i b hb; omega
   · rw [gm1 i n hi]; exact hI2.opn n b2 hb2 (by rw [← (Z17 hr).1]; exact ho)
 · rw [gf]
   rcases hcase i b h with ⟨hi, hb⟩ | ⟨n, b2, hi, hb2, hgd, hr⟩
   · rw [gm2 i hi]; exact hA.fz' _ (by rw [g1f]; exact hI.frz i b hb ho)
   · rw [gm1 i n hi]; exact hI2.frz n b2 hb2 (by rw [← (Z17 hr).1]; exact ho)
 · rw [gf] at hk; rw [gw]; exact hI2.lt k hk
 · rw [gf, gw]; exact hI2.glob k cells h
 · rw [gw, hA.os, g1w]
 · rw [gw, hA.tape, g1w]
 · rw [gw, hA.out, g1w]
 · have := hA.size; rw [g1w] at this; rw [gw]; exact this
 · intro k hk hw; rw [gw]; exact hold k hk fun h => hw (wr1g k h)
 · rintro k ⟨i, b, h, ho, e⟩
   rcases hcase i b h with ⟨hi, hb⟩ | ⟨n, b2, hi, hb2, hgd, hr⟩
   · rw [gm2 i hi] at e; exact .inl ⟨i, b, hb, ho, e⟩
   · rw [gm1 i n hi] at e
     rcases hA.wr' k ⟨n, b2, hb2, by rw [← (Z17 hr).1]; exact ho, e⟩ with q | q
     · exact .inl (wr1g k q)
     · rw [g1w] at q; exact .inr q
 · intro k hk; exact (hf k hk).1
 · intro k hk
   rw [gf] at hk
   rcases hf2 k hk with q | q | q
   · exact .inl q
   · exact .inr (.inl (wr1g k q))
   · exact .inr (.inr q)
 · exact Z5N (fun k hk => ⟨by rw [gf]; exact hk, by rw [gw]⟩) hout r1 r' v e3 hR
theorem ZJg {fr : FuncId → Bool} {C : Callee} (hC : CS P E C) : CS P E (frC fr C) := by
 intro f args H B r H' h g vs hH hI hs
 unfold frC at h
 split at h
 · exact ZLg hC h g vs hH hI hs
 · exact hC f args H B r H' h g vs hH hI hs
theorem Z7U (hE : EnvOK P E) (hm : P.follows .mixedOrders = true) (fr : FuncId → Bool) (fg : FuncId → Nat → List Nat) (N : Nat) : ∀ d, CS P E (callF E fr fg N d)
 | 0 => fun f args H B r H' h => by simp [callF] at h
 | d + 1 => ZrX hE hm fg N (ZJg (Z7U hE hm fr fg N d))
end
end Go.AM
end
noncomputable section
namespace Go.AM
noncomputable section
variable {α : Type} {f : α → List AV} {sz : Nat}
end
def ics (l : List Int) : List AV := l.map (AV.int .i64)
theorem Z5 (l : List Int) : (ics l).length = l.length := by simp [ics]
theorem Z1F {l : List Int} {k : Nat} {z : Int} (h : l[k]? = some z) : (ics l)[k]? = some (.int .i64 z) := by simp [ics, h]
theorem Z5j (l : List Int) (z : Int) : ics l ++ [.int .i64 z] = ics (l ++ [z]) := by simp [ics]
theorem Z5e (l : List Int) (n : Nat) : (ics l).take n = ics (l.take n) := by simp [ics]
theorem ZEX (l : List Int) : (ics l).take l.length = ics l := List.take_of_length_le (by rw [Z5]; exact Nat.le_refl _)
theorem ZvJ (l : List Int) (k : Nat) (z : Int) : (ics l).set k (.int .i64 z) = ics (l.set k z) := by simp [ics]
def oV (k sz n : Nat) : AV := match n with
 | 0 => .nilsl
 | n + 1 => .ref k 0 (n + 1) (n + 1) ((n + 1) * sz) sz false
def oH (k : Nat) (cells : List AV) : AHeap := match cells with
 | [] => []
 | c :: cs => [(k, ⟨.row, c :: cs⟩)]
theorem Z22 {C : Callee} {site : Nat → Nat} {seen : List Nat} {f : FuncId} {args : List AV} {id m c sz gl : Nat} {cells : List AV} {H' : AHeap} (h : C f args [] 0 = some (.ref id 0 m c gl sz false, H')) (hg : hget H' id = some ⟨.row, cells⟩) (hl : cells.length = gl) :
   aBack site true seen (thaw C f args [] 0) = Z0I (site 0) seen (fun k => .ref k 0 m c gl sz false) ⟨.row, cells⟩ := by
 subst hl
 simp only [thaw, h, frzRet, aBack, sitesB, aBackAt, imp, hg, List.length_nil, List.not_mem_nil, not_false_eq_true, and_true, if_true, List.map_cons, List.map_nil, AM.apart, List.elem_nil, Bool.not_false, Bool.and_true, AV.leads, Z0I]
theorem ZRy (k : Nat) {c : List AV} (h : 0 < c.length) : oH k c = [(k, ⟨.row, c⟩)] := by
 cases c with
 | nil => simp at h
 | cons a c => rfl
end Go.AM
end
noncomputable section
namespace Go.AM.Ytfmnoohhhokicaa
open Go Go.AM
abbrev XQ (f n : Nat) (c a b : Code) : Prop := ∀ {C : Callee} {B N : Nat} {E0 : AHeap} {s : St}, execA E C (fg f) B n E0 N c s = seqX (execA E C (fg f) B n E0 N a s) (execA E C (fg f) B n E0 N b)
abbrev XG (f n : Nat) (c : Code) (r : Array Oper) (l : List Nat) : Prop := ∀ {C : Callee} {B N : Nat} {E0 : AHeap} {s : St}, execA E C (fg f) B n E0 N c s = regX (runA E C B n r r.toList s) (fun s => gcM E0 l (forget s.1 l, s.2))
abbrev XD (f n : Nat) (c : Code) (r : Array Oper) (l : List Nat) : Prop := ∀ {C : Callee} {B N : Nat} {E0 : AHeap} {s : St}, execA E C (fg f) B n E0 N c s = regX (drawA E C B n r s) (fun s => gcM E0 l (forget s.1 l, s.2))
abbrev XC (f n : Nat) (c : Code) (k : Nat) (t e : Code) : Prop := ∀ {C : Callee} {B N : Nat} {E0 : AHeap} {φ : AFr} {H : AHeap}, execA E C (fg f) B n E0 N c (φ, H) = condX (fget φ k) (execA E C (fg f) B n E0 N t (φ, H)) (execA E C (fg f) B n E0 N e (φ, H))
abbrev XS (n : Nat) (r : Array Oper) (o : Oper) (d : Option Nat) (x : Callee → Nat → AFr → AHeap → Rd (AV × Ups)) : Prop := ∀ {C : Callee} {B : Nat} {φ : AFr} {H : AHeap}, stepA E C B n r o (φ, H) = stp d φ H (x C B φ H)
abbrev XM (n : Nat) (r : Array Oper) (o : Oper) (d : Nat) (x : AFr → AV) : Prop := ∀ {C : Callee} {B : Nat} {φ : AFr} {H : AHeap}, stepA E C B n r o (φ, H) = some (fput φ d (x φ), H)
variable {C : Callee} {B N : Nat} {E0 : AHeap} (φ : AFr) (H : AHeap) (s : St)
theorem T_0 : E.T 0 = some ⟨.other, 1, 0, none⟩ := nf
theorem T_1 : E.T 1 = some ⟨.other, 1, 8, (some [.nilfunc])⟩ := nf
theorem T_2 : E.T 2 = some ⟨.int .i64, 1, 8, (some [.int .i64 0])⟩ := nf
theorem T_3 : E.T 3 = some ⟨.int .i64, 1, 8, (some [.int .i64 0])⟩ := nf
theorem T_4 : E.T 4 = some ⟨.bool, 1, 1, (some [.bool false])⟩ := nf
theorem T_5 : E.T 5 = some ⟨.int .u8, 1, 1, (some [.int .u8 0])⟩ := nf
theorem T_6 : E.T 6 = some ⟨.int .u8, 1, 1, (some [.int .u8 0])⟩ := nf
theorem T_7 : E.T 7 = some ⟨.struct [(0, 2, 1), (1, 3, 1), (2, 4, 1), (3, 6, 1)] false, 4, 24, (some [.int .i64 0, .int .i64 0, .bool false, .int .u8 0])⟩ := nf
theorem T_8 : E.T 8 = some ⟨.struct [(0, 2, 1), (1, 3, 1), (2, 4, 1), (3, 6, 1)] false, 4, 24, (some [.int .i64 0, .int .i64 0, .bool false, .int .u8 0])⟩ := nf
theorem T_9 : E.T 9 = some ⟨.str, 1, 16, (some [.str ⟨#[]⟩])⟩ := nf
theorem T_10 : E.T 10 = some ⟨.str, 1, 16, (some [.str ⟨#[]⟩])⟩ := nf
theorem T_11 : E.T 11 = some ⟨.str, 1, 16, (some [.str ⟨#[]⟩])⟩ := nf
theorem T_12 : E.T 12 = some ⟨.int .u64, 1, 8, (some [.int .u64 0])⟩ := nf
theorem T_13 : E.T 13 = some ⟨.struct [(0, 9, 1), (1, 12, 1)] false, 2, 24, (some [.str ⟨#[]⟩, .int .u64 0])⟩ := nf
theorem T_14 : E.T 14 = some ⟨.struct [(0, 9, 1), (1, 12, 1)] false, 2, 24, (some [.str ⟨#[]⟩, .int .u64 0])⟩ := nf
theorem T_15 : E.T 15 = some ⟨.other, 1, 8, (some [.nilptr])⟩ := nf
theorem T_16 : E.T 16 = some ⟨.other, 1, 8, (some [.nilptr])⟩ := nf
theorem T_17 : E.T 17 = some ⟨.other, 1, 8, (some [.nilptr])⟩ := nf
theorem T_18 : E.T 18 = some ⟨.struct [(0, 17, 1)] false, 1, 8, (some [.nilptr])⟩ := nf
theorem T_19 : E.T 19 = some ⟨.struct [(0, 17, 1)] false, 1, 8, (some [.nilptr])⟩ := nf
theorem T_20 : E.T 20 = some ⟨.other, 1, 16, none⟩ := nf
theorem T_21 : E.T 21 = some ⟨.int .i32, 1, 4, (some [.int .i32 0])⟩ := nf
theorem T_22 : E.T 22 = some ⟨.slice 3, 1, 24, (some [.nilsl])⟩ := nf
theorem T_23 : E.T 23 = some ⟨.other, 1, 8, (some [.nilfunc])⟩ := nf
theorem T_24 : E.T 24 = some ⟨.int .i64, 1, 8, (some [.int .i64 0])⟩ := nf
theorem T_25 : E.T 25 = some ⟨.other, 1, 0, none⟩ := nf
theorem T_26 : E.T 26 = some ⟨.other, 1, 8, (some [.nilfunc])⟩ := nf
theorem T_27 : E.T 27 = some ⟨.other, 1, 8, (some [.nilfunc])⟩ := nf
theorem T_28 : E.T 28 = some ⟨.other, 1, 8, (some [.nilfunc])⟩ := nf
theorem T_29 : E.T 29 = some ⟨.other, 1, 8, (some [.nilfunc])⟩ := nf
theorem T_30 : E.T 30 = some ⟨.other, 1, 8, (some [.nilfunc])⟩ := nf
theorem T_31 : E.T 31 = some ⟨.other, 1, 0, none⟩ := nf
theorem T_32 : E.T 32 = some ⟨.other, 1, 8, (some [.nilfunc])⟩ := nf
theorem T_33 : E.T 33 = some ⟨.other, 1, 0, none⟩ := nf
theorem T_34 : E.T 34 = some ⟨.other, 1, 8, (some [.nilfunc])⟩ := nf
theorem T_35 : E.T 35 = some ⟨.other, 1, 0, none⟩ := nf
theorem T_36 : E.T 36 = some ⟨.other, 1, 8, (some [.nilfunc])⟩ := nf
theorem T_37 : E.T 37 = some ⟨.other, 1, 8, (some [.nilfunc])⟩ := nf
theorem T_38 : E.T 38 = some ⟨.other, 1, 8, (some [.nilfunc])⟩ := nf
theorem T_39 : E.T 39 = some ⟨.slice 22, 1, 24, (some [.nilsl])⟩ := nf
theorem T_40 : E.T 40 = some ⟨.other, 1, 0, none⟩ := nf
theorem T_41 : E.T 41 = some ⟨.other, 1, 8, (some [.nilfunc])⟩ := nf
theorem T_42 : E.T 42 = some ⟨.other, 1, 8, (some [.nilfunc])⟩ := nf
theorem T_43 : E.T 43 = some ⟨.other, 1, 8, (some [.nilfunc])⟩ := nf
theorem T_44 : E.T 44 = some ⟨.other, 1, 8, (some [.nilfunc])⟩ := nf
theorem T_45 : E.T 45 = some ⟨.other, 1, 8, (some [.nilfunc])⟩ := nf
theorem T_46 : E.T 46 = some ⟨.other, 1, 8, (some [.nilfunc])⟩ := nf
theorem T_47 : E.T 47 = some ⟨.arr 6 5 true, 6, 6, (some [.int .u8 0, .int .u8 0, .int .u8 0, .int .u8 0, .int .u8 0, .int .u8 0])⟩ := nf
theorem T_48 : E.T 48 = some ⟨.struct [(0, 5, 1), (1, 5, 1), (2, 47, 6)] false, 8, 8, (some [.int .u8 0, .int .u8 0, .int .u8 0, .int .u8 0, .int .u8 0, .int .u8 0, .int .u8 0, .int .u8 0])⟩ := nf
theorem T_49 : E.T 49 = some ⟨.struct [(0, 5, 1), (1, 5, 1), (2, 47, 6)] false, 8, 8, (some [.int .u8 0, .int .u8 0, .int .u8 0, .int .u8 0, .int .u8 0, .int .u8 0, .int .u8 0, .int .u8 0])⟩ := nf
theorem T_50 : E.T 50 = some ⟨.other, 1, 8, (some [.nilfunc])⟩ := nf
theorem T_51 : E.T 51 = some ⟨.other, 1, 8, (some [.nilfunc])⟩ := nf
theorem T_52 : E.T 52 = some ⟨.other, 1, 8, (some [.nilfunc])⟩ := nf
theorem T_53 : E.T 53 = some ⟨.other, 1, 8, (some [.nilfunc])⟩ := nf
theorem T_54 : E.T 54 = some ⟨.other, 1, 8, (some [.nilfunc])⟩ := nf
theorem T_55 : E.T 55 = some ⟨.other, 1, 8, (some [.nilfunc])⟩ := nf
theorem T_56 : E.T 56 = some ⟨.other, 1, 8, (some [.nilfunc])⟩ := nf
theorem T_57 : E.T 57 = some ⟨.other, 1, 8, (some [.nilfunc])⟩ := nf
theorem T_58 : E.T 58 = some ⟨.other, 1, 8, (some [.nilfunc])⟩ := nf
theorem T_59 : E.T 59 = some ⟨.other, 1, 0, none⟩ := nf
theorem T_60 : E.T 60 = some ⟨.other, 1, 8, (some [.nilfunc])⟩ := nf
theorem T_61 : E.T 61 = some ⟨.other, 1, 8, (some [.nilfunc])⟩ := nf
theorem T_62 : E.T 62 = some ⟨.other, 1, 8, (some [.nilfunc])⟩ := nf
theorem T_63 : E.T 63 = some ⟨.other, 1, 8, (some [.nilfunc])⟩ := nf
theorem T_64 : E.T 64 = some ⟨.other, 1, 8, (some [.nilfunc])⟩ := nf
theorem T_65 : E.T 65 = some ⟨.other, 1, 8, (some [.nilfunc])⟩ := nf
theorem T_66 : E.T 66 = some ⟨.other, 1, 8, (some [.nilfunc])⟩ := nf
theorem T_67 : E.T 67 = some ⟨.other, 1, 8, (some [.nilfunc])⟩ := nf
theorem T_68 : E.T 68 = some ⟨.other, 1, 8, (some [.nilfunc])⟩ := nf
theorem T_69 : E.T 69 = some ⟨.other, 1, 8, (some [.nilfunc])⟩ := nf
theorem T_70 : E.T 70 = some ⟨.other, 1, 8, (some [.nilfunc])⟩ := nf
theorem T_71 : E.T 71 = some ⟨.other, 1, 8, (some [.nilfunc])⟩ := nf
theorem T_72 : E.T 72 = some ⟨.other, 1, 8, (some [.nilfunc])⟩ := nf
theorem T_73 : E.T 73 = some ⟨.other, 1, 8, (some [.nilfunc])⟩ := nf
theorem T_74 : E.T 74 = some ⟨.other, 1, 8, (some [.nilfunc])⟩ := nf
theorem T_75 : E.T 75 = some ⟨.arr 6 3 true, 6, 48, (some [.int .i64 0, .int .i64 0, .int .i64 0, .int .i64 0, .int .i64 0, .int .i64 0])⟩ := nf
theorem T_76 : E.T 76 = some ⟨.arr 6 3 true, 6, 48, (some [.int .i64 0, .int .i64 0, .int .i64 0, .int .i64 0, .int .i64 0, .int .i64 0])⟩ := nf
theorem T_77 : E.T 77 = some ⟨.other, 1, 8, (some [.nilfunc])⟩ := nf
theorem T_78 : E.T 78 = some ⟨.other, 1, 8, (some [.nilfunc])⟩ := nf
theorem T_79 : E.T 79 = some ⟨.other, 1, 8, (some [.nilfunc])⟩ := nf
theorem T_80 : E.T 80 = some ⟨.other, 1, 0, none⟩ := nf
theorem T_81 : E.T 81 = some ⟨.other, 1, 8, (some [.nilfunc])⟩ := nf
theorem T_82 : E.T 82 = some ⟨.other, 1, 8, (some [.nilfunc])⟩ := nf
theorem T_83 : E.T 83 = some ⟨.other, 1, 8, (some [.nilfunc])⟩ := nf
theorem T_84 : E.T 84 = some ⟨.other, 1, 8, (some [.nilfunc])⟩ := nf
theorem T_85 : E.T 85 = some ⟨.other, 1, 8, (some [.nilfunc])⟩ := nf
theorem T_86 : E.T 86 = some ⟨.other, 1, 8, (some [.nilfunc])⟩ := nf
theorem T_87 : E.T 87 = some ⟨.map 76 3 (.int .i64 0), 1, 8, (some [.nilmap])⟩ := nf
theorem T_88 : E.T 88 = some ⟨.other, 1, 0, none⟩ := nf
theorem T_89 : E.T 89 = some ⟨.other, 1, 8, (some [.nilfunc])⟩ := nf
theorem T_90 : E.T 90 = some ⟨.other, 1, 8, (some [.nilfunc])⟩ := nf
theorem T_91 : E.T 91 = some ⟨.other, 1, 8, (some [.nilfunc])⟩ := nf
theorem T_92 : E.T 92 = some ⟨.other, 1, 8, (some [.nilfunc])⟩ := nf
theorem T_93 : E.T 93 = some ⟨.slice 5, 1, 24, (some [.nilsl])⟩ := nf
theorem T_94 : E.T 94 = some ⟨.other, 1, 8, (some [.nilfunc])⟩ := nf
theorem T_95 : E.T 95 = some ⟨.other, 1, 8, (some [.nilfunc])⟩ := nf
theorem T_96 : E.T 96 = some ⟨.other, 1, 8, (some [.nilfunc])⟩ := nf
theorem T_97 : E.T 97 = some ⟨.other, 1, 8, (some [.nilfunc])⟩ := nf
theorem T_98 : E.T 98 = some ⟨.int .u64, 1, 8, (some [.int .u64 0])⟩ := nf
theorem T_99 : E.T 99 = some ⟨.other, 1, 8, (some [.nilfunc])⟩ := nf
theorem Z0hP : E.T 100 = some ⟨.other, 1, 8, (some [.nilfunc])⟩ := nf
theorem Z0hO : E.T 101 = some ⟨.slice 39, 1, 24, (some [.nilsl])⟩ := nf
theorem Z0hB : E.T 102 = some ⟨.other, 1, 8, (some [.nilfunc])⟩ := nf
theorem Z0gI : E.T 103 = some ⟨.other, 1, 8, (some [.nilfunc])⟩ := nf
theorem Z0iP : E.T 104 = some ⟨.other, 1, 8, (some [.nilfunc])⟩ := nf
theorem Z0gQ : E.T 105 = some ⟨.int .i64, 1, 8, (some [.int .i64 0])⟩ := nf
theorem Z0ix : E.T 106 = some ⟨.other, 1, 0, none⟩ := nf
theorem Z0h8 : E.T 107 = some ⟨.other, 1, 8, (some [.nilfunc])⟩ := nf
theorem Z0jo : E.T 108 = some ⟨.other, 1, 8, (some [.nilfunc])⟩ := nf
theorem Z0i7 : E.T 109 = some ⟨.other, 1, 8, (some [.nilfunc])⟩ := nf
theorem Z0hM : E.T 110 = some ⟨.other, 1, 8, (some [.nilfunc])⟩ := nf
theorem Z0fH : E.T 111 = some ⟨.other, 1, 8, (some [.nilfunc])⟩ := nf
theorem Z0h1 : E.T 112 = some ⟨.int .u32, 1, 4, (some [.int .u32 0])⟩ := nf
theorem Z0gS : E.T 113 = some ⟨.other, 1, 8, (some [.nilfunc])⟩ := nf
theorem Z0ic : E.T 114 = some ⟨.int .u64, 1, 8, (some [.int .u64 0])⟩ := nf
theorem Z0kb : E.T 115 = some ⟨.other, 1, 8, (some [.nilptr])⟩ := nf
theorem Z0jQ : E.T 116 = some ⟨.other, 1, 8, (some [.nilfunc])⟩ := nf
theorem Z0fN : E.T 117 = some ⟨.other, 1, 8, (some [.nilfunc])⟩ := nf
theorem Z0ie : E.T 118 = some ⟨.other, 1, 8, (some [.nilfunc])⟩ := nf
theorem Z0gp : E.T 119 = some ⟨.other, 1, 8, (some [.nilfunc])⟩ := nf
theorem Z0hk : E.T 120 = some ⟨.other, 1, 8, (some [.nilfunc])⟩ := nf
theorem Z0fz : E.T 121 = some ⟨.int .u64, 1, 8, (some [.int .u64 0])⟩ := nf
theorem Z0iH : E.T 122 = some ⟨.other, 1, 8, (some [.nilfunc])⟩ := nf
theorem Z0fw : E.T 123 = some ⟨.other, 1, 8, (some [.nilfunc])⟩ := nf
theorem Z0jA : E.T 124 = some ⟨.other, 1, 8, (some [.nilfunc])⟩ := nf
theorem Z0hD : E.T 125 = some ⟨.other, 1, 8, (some [.nilptr])⟩ := nf
theorem Z0gM : E.T 126 = some ⟨.other, 1, 8, (some [.nilfunc])⟩ := nf
theorem Z0jK : E.T 127 = some ⟨.other, 1, 8, (some [.nilfunc])⟩ := nf
theorem Z0i2 : E.T 128 = some ⟨.other, 1, 8, (some [.nilfunc])⟩ := nf
theorem Z0gE : E.T 129 = some ⟨.other, 1, 8, (some [.nilptr])⟩ := nf
theorem Z0hw : E.T 130 = some ⟨.other, 1, 0, none⟩ := nf
theorem Z0j0 : E.T 131 = some ⟨.other, 1, 8, (some [.nilfunc])⟩ := nf
theorem Z0hg : E.T 132 = some ⟨.other, 1, 8, (some [.nilfunc])⟩ := nf
theorem Z0hf : E.T 133 = some ⟨.other, 1, 8, (some [.nilfunc])⟩ := nf
theorem Z0jx : E.T 134 = some ⟨.struct [(0, 17, 1), (1, 17, 1), (2, 17, 1), (3, 9, 1)] false, 4, 40, (some [.nilptr, .nilptr, .nilptr, .str ⟨#[]⟩])⟩ := nf
theorem Z0gl : E.T 135 = some ⟨.struct [(0, 17, 1), (1, 17, 1), (2, 17, 1), (3, 9, 1)] false, 4, 40, (some [.nilptr, .nilptr, .nilptr, .str ⟨#[]⟩])⟩ := nf
theorem Z0hZ : E.T 136 = some ⟨.arr 0 16 false, 0, 0, (some [])⟩ := nf
theorem Z0ik : E.T 137 = some ⟨.struct [(0, 136, 0)] false, 0, 0, (some [])⟩ := nf
theorem Z0is : E.T 138 = some ⟨.struct [(0, 136, 0)] false, 0, 0, (some [])⟩ := nf
theorem Z0jZ : E.T 139 = some ⟨.other, 1, 8, (some [.nilfunc])⟩ := nf
theorem Z0gR : E.T 140 = some ⟨.int .u8, 1, 1, (some [.int .u8 0])⟩ := nf
theorem Z0g7 : E.T 141 = some ⟨.int .u8, 1, 1, (some [.int .u8 0])⟩ := nf
theorem Z0ig : E.T 142 = some ⟨.other, 1, 8, (some [.nilfunc])⟩ := nf
theorem Z0hW : E.T 143 = some ⟨.other, 1, 8, (some [.nilptr])⟩ := nf
theorem Z0ga : E.T 144 = some ⟨.int .i32, 1, 4, (some [.int .i32 0])⟩ := nf
theorem Z0kk : E.T 145 = some ⟨.int .i32, 1, 4, (some [.int .i32 0])⟩ := nf
theorem Z0j9 : E.T 146 = some ⟨.struct [(0, 12, 1), (1, 12, 1), (2, 112, 1), (3, 140, 1), (4, 5, 1), (5, 5, 1), (6, 141, 1), (7, 142, 1), (8, 143, 1), (9, 144, 1), (10, 145, 1)] false, 11, 48, (some [.int .u64 0, .int .u64 0, .int .u32 0, .int .u8 0, .int .u8 0, .int .u8 0, .int .u8 0, .nilfunc, .nilptr, .int .i32 0, .int .i32 0])⟩ := nf
theorem Z0gw : E.T 147 = some ⟨.struct [(0, 12, 1), (1, 12, 1), (2, 112, 1), (3, 140, 1), (4, 5, 1), (5, 5, 1), (6, 141, 1), (7, 142, 1), (8, 143, 1), (9, 144, 1), (10, 145, 1)] false, 11, 48, (some [.int .u64 0, .int .u64 0, .int .u32 0, .int .u8 0, .int .u8 0, .int .u8 0, .int .u8 0, .nilfunc, .nilptr, .int .i32 0, .int .i32 0])⟩ := nf
theorem Z0j5 : E.T 148 = some ⟨.other, 1, 8, (some [.nilptr])⟩ := nf
abbrev ZT := And.intro (And.intro (And.intro (And.intro (And.intro (And.intro (And.intro @T_0 @T_1) (And.intro @T_2 @T_3)) (And.intro (And.intro @T_4 @T_5) (And.intro @T_6 (And.intro @T_7 @T_8)))) (And.intro (And.intro (And.intro @T_9 @T_10) (And.intro @T_11 @T_12)) (And.intro (And.intro @T_13 @T_14) (And.intro @T_15 (And.intro @T_16 @T_17))))) (And.intro (And.intro (And.intro (And.intro @T_18 @T_19) (And.intro @T_20 @T_21)) (And.intro (And.intro @T_22 @T_23) (And.intro @T_24 (And.intro @T_25 @T_26)))) (And.intro (And.intro (And.intro @T_27 @T_28) (And.intro @T_29 (And.intro @T_30 @T_31))) (And.intro (And.intro @T_32 @T_33) (And.intro @T_34 (And.intro @T_35 @T_36)))))) (And.intro (And.intro (And.intro (And.intro (And.intro @T_37 @T_38) (And.intro @T_39 @T_40)) (And.intro (And.intro @T_41 @T_42) (And.intro @T_43 (And.intro @T_44 @T_45)))) (And.intro (And.intro (And.intro @T_46 @T_47) (And.intro @T_48 @T_49)) (And.intro (And.intro @T_50 @T_51) (And.intro @T_52 (And.intro @T_53 @T_54))))) (And.intro (And.intro (And.intro (And.intro @T_55 @T_56) (And.intro @T_57 @T_58)) (And.intro (And.intro @T_59 @T_60) (And.intro @T_61 (And.intro @T_62 @T_63)))) (And.intro (And.intro (And.intro @T_64 @T_65) (And.intro @T_66 (And.intro @T_67 @T_68))) (And.intro (And.intro @T_69 @T_70) (And.intro @T_71 (And.intro @T_72 @T_73))))))) (And.intro (And.intro (And.intro (And.intro (And.intro (And.intro @T_74 @T_75) (And.intro @T_76 @T_77)) (And.intro (And.intro @T_78 @T_79) (And.intro @T_80 (And.intro @T_81 @T_82)))) (And.intro (And.intro (And.intro @T_83 @T_84) (And.intro @T_85 @T_86)) (And.intro (And.intro @T_87 @T_88) (And.intro @T_89 (And.intro @T_90 @T_91))))) (And.intro (And.intro (And.intro (And.intro @T_92 @T_93) (And.intro @T_94 @T_95)) (And.intro (And.intro @T_96 @T_97) (And.intro @T_98 (And.intro @T_99 @Z0hP)))) (And.intro (And.intro (And.intro @Z0hO @Z0hB) (And.intro @Z0gI (And.intro @Z0iP @Z0gQ))) (And.intro (And.intro @Z0ix @Z0h8) (And.intro @Z0jo (And.intro @Z0i7 @Z0hM)))))) (And.intro (And.intro (And.intro (And.intro (And.intro @Z0fH @Z0h1) (And.intro @Z0gS @Z0ic)) (And.intro (And.intro @Z0kb @Z0jQ) (And.intro @Z0fN (And.intro @Z0ie @Z0gp)))) (And.intro (And.intro (And.intro @Z0hk @Z0fz) (And.intro @Z0iH (And.intro @Z0fw @Z0jA))) (And.intro (And.intro @Z0hD @Z0gM) (And.intro @Z0jK (And.intro @Z0i2 @Z0gE))))) (And.intro (And.intro (And.intro (And.intro @Z0hw @Z0j0) (And.intro @Z0hg @Z0hf)) (And.intro (And.intro @Z0jx @Z0gl) (And.intro @Z0hZ (And.intro @Z0ik @Z0is)))) (And.intro (And.intro (And.intro @Z0jZ @Z0gR) (And.intro @Z0g7 (And.intro @Z0ig @Z0hW))) (And.intro (And.intro @Z0ga @Z0kk) (And.intro @Z0j9 (And.intro @Z0gw @Z0j5)))))))
def Z9r := kBody Proofs.Try.f25
def ZCY := kL Z9r
def ZgL := kO ZCY
def Zue := opN ZgL 0
theorem Z0hN : XG 25 40 ZCY ZgL [2] := Z1 (by rfl) (by rfl) _
theorem Z05W : ZgL.toList = [Zue] := nf
theorem Z053 : stepA E C B 40 ZgL Zue (φ, H) = some (fput φ 2 (.int .i64 0), H) := nf
def ZhF := kR Z9r
def ZCv := kL ZhF
def Ziu := kB ZCv
def ZBD := kL Ziu
def Z2w := kO ZBD
def Zve := opN Z2w 0
def ZxH := opN Z2w 1
def Zwh := opN Z2w 2
def Zvh := opN Z2w 3
theorem Z0hv : XG 25 40 ZBD Z2w [6, 7, 8] := Z1 (by rfl) (by rfl) _
theorem Z04V : Z2w.toList = [Zve, ZxH, Zwh, Zvh] := nf
theorem Z05G : stepA E C B 40 Z2w Zve (φ, H) = some (fput φ 6 (fget φ 0), H) := nf
theorem ZYJ : stepA E C B 40 Z2w ZxH (φ, H) = stp (some 7) φ H (Z2 E.T (B + 7) .len #[22] [(fget φ 6)]) := nf
theorem ZXY : stepA E C B 40 Z2w Zwh (φ, H) = stp (some 8) φ H (just (aBin E.T .eql 3 (fget φ 7) (.int .i64 0))) := nf
theorem Z05U : stepA E C B 40 Z2w Zvh (φ, H) = some (fput φ 5 (fget φ 8), H) := nf
def ZgJ := kR Ziu
def ZgN := kT ZgJ
def ZDc := kL ZgN
def Zhr := kO ZDc
def Zvs := opN Zhr 0
theorem Z0jg : XG 25 40 ZDc Zhr [0, 5] := Z1 (by rfl) (by rfl) _
theorem Z01C : Zhr.toList = [Zvs] := nf
theorem ZVY : stepA E C B 40 Zhr Zvs (φ, H) = some (fput φ 2 (.int .i64 4), H) := nf
def ZRu := kR ZgN
theorem Z0hQ : execA E C (fg 25) B 40 E0 N ZRu s = some (.ret, s) := Zj (by rfl) s
theorem Z0gU : XQ 25 40 ZgN ZDc ZRu := Z0 (by rfl) _
def Zb3 := kE ZgJ
def ZnB := kL Zb3
def Z2D := kO ZnB
def ZAk := opN Z2D 0
def ZwU := opN Z2D 1
def ZxJ := opN Z2D 2
def Zu8 := opN Z2D 3
theorem Z0bw : XG 25 40 ZnB Z2D [5, 10, 11, 12] := Z1 (by rfl) (by rfl) _
theorem ZVy : Z2D.toList = [ZAk, ZwU, ZxJ, Zu8] := nf
theorem ZS7 : stepA E C B 40 Z2D ZAk (φ, H) = some (fput φ 10 (fget φ 0), H) := nf
theorem ZY0 : stepA E C B 40 Z2D ZwU (φ, H) = stp (some 11) φ H (Z2 E.T (B + 11) .len #[22] [(fget φ 10)]) := nf
theorem Z04s : stepA E C B 40 Z2D ZxJ (φ, H) = stp (some 12) φ H (just (aBin E.T .gtr 3 (fget φ 11) (.int .i64 6))) := nf
theorem ZTZ : stepA E C B 40 Z2D Zu8 (φ, H) = some (fput φ 9 (fget φ 12), H) := nf
def Z9L := kR Zb3
def ZbW := kT Z9L
def Zr5 := kL ZbW
def ZgB := kO Zr5
def ZtM := opN ZgB 0
theorem Z07D : XG 25 40 Zr5 ZgB [0, 9] := Z1 (by rfl) (by rfl) _
theorem ZUQ : ZgB.toList = [ZtM] := nf
theorem ZZ4 : stepA E C B 40 ZgB ZtM (φ, H) = some (fput φ 2 (.int .i64 3), H) := nf
def ZE3 := kR ZbW
theorem Z07V : execA E C (fg 25) B 40 E0 N ZE3 s = some (.ret, s) := Zj (by rfl) s
theorem Z06Y : XQ 25 40 ZbW Zr5 ZE3 := Z0 (by rfl) _
def ZF2 := kE Z9L
theorem Z08E : execA E C (fg 25) B 40 E0 N ZF2 s = some (.normal, s) := Ze (by rfl) s
theorem Z0dp : XC 25 40 Z9L 9 ZbW ZF2 := Zb (by rfl) _
theorem Z086 : XQ 25 40 Zb3 ZnB Z9L := Z0 (by rfl) _
theorem Z0gX : XC 25 40 ZgJ 5 ZgN Zb3 := Zb (by rfl) _
theorem Z0ii : XQ 25 40 Ziu ZBD ZgJ := Z0 (by rfl) _
theorem Z0fQ : execA E C (fg 25) B 40 E0 N ZCv s = blockX 0 (fun s => (forget s.1 [9], s.2)) (execA E C (fg 25) B 40 E0 N Ziu s) := Zf (by rfl) (by rfl) s
def ZbG := kR ZhF
def Z9I := kL ZbG
def ZqI := kL Z9I
def Z46 := kO ZqI
def ZyN := opN Z46 0
def Zsj := opN Z46 1
def ZB6 := opN Z46 2
theorem Z07K : XG 25 40 ZqI Z46 [] := Z1 (by rfl) (by rfl) _
theorem Z00m : Z46.toList = [ZyN, Zsj, ZB6] := nf
theorem ZWS : stepA E C B 40 Z46 ZyN (φ, H) = some (fput φ 13 (fget φ 0), H) := nf
theorem ZYL : stepA E C B 40 Z46 Zsj (φ, H) = stp (some 14) φ H (Z2 E.T (B + 14) .len #[22] [(fget φ 13)]) := nf
theorem ZWJ : stepA E C B 40 Z46 ZB6 (φ, H) = some (fput φ 15 (.int .i64 0), H) := nf
def ZiK := kR Z9I
def Zn2 := kB ZiK
def Z3F := kB Zn2
def ZiE := kL Z3F
def Zhf := kO ZiE
def ZyW := opN Zhf 0
theorem Z08X : XG 25 40 ZiE Zhf [] := Z1 (by rfl) (by rfl) _
theorem ZXk : Zhf.toList = [ZyW] := nf
theorem ZWH : stepA E C B 40 Zhf ZyW (φ, H) = stp (some 16) φ H (just (aBin E.T .lss 3 (fget φ 15) (fget φ 14))) := nf
def Z8J := kR Z3F
def Z99 := kL Z8J
def ZIw := kT Z99
theorem Z0cR : execA E C (fg 25) B 40 E0 N ZIw s = some (.normal, s) := Ze (by rfl) s
def ZDG := kE Z99
theorem Z0an : execA E C (fg 25) B 40 E0 N ZDG s = some (.exit 1, s) := ZL (by rfl) s
theorem Z09R : XC 25 40 Z99 16 ZIw ZDG := Zb (by rfl) _
def ZbU := kR Z8J
def ZqZ := kL ZbU
def Zcs := kB ZqZ
def ZjV := kL Zcs
def Z1I := kO ZjV
def ZsS := opN Z1I 0
def Zt5 := opN Z1I 1
def ZA3 := opN Z1I 2
def ZA4 := opN Z1I 3
def ZuH := opN Z1I 4
theorem Z08b : XG 25 40 ZjV Z1I [16, 17, 18, 19] := Z1 (by rfl) (by rfl) _
theorem Z034 : Z1I.toList = [ZsS, Zt5, ZA3, ZA4, ZuH] := nf
theorem Z01Y : stepA E C B 40 Z1I ZsS (φ, H) = some (fput φ 17 (fget φ 15), H) := nf
theorem ZVI : stepA E C B 40 Z1I Zt5 (φ, H) = stp (some 18) φ H (just (Z3 E.T 22 (fget φ 13) (fget φ 15))) := nf
theorem Z00y : stepA E C B 40 Z1I ZA3 (φ, H) = stp (some 19) φ H (just (aLoad E.T 3 (fget φ 18))) := nf
theorem ZYt : stepA E C B 40 Z1I ZA4 (φ, H) = some (fput φ 3 (fget φ 17), H) := nf
theorem ZZn : stepA E C B 40 Z1I ZuH (φ, H) = some (fput φ 4 (fget φ 19), H) := nf
def Zjg := kR Zcs
def Z9X := kB Zjg
def ZiI := kL Z9X
def Z0L := kO ZiI
def Zsn := opN Z0L 0
def ZsZ := opN Z0L 1
def Z6r := opN Z0L 2
def Zwx := opN Z0L 3
def ZsC := opN Z0L 4
def Zvj := opN Z0L 5
def Zxv := opN Z0L 6
theorem Z09e : XG 25 40 ZiI Z0L [21, 22, 23, 24, 25, 26] := Z1 (by rfl) (by rfl) _
theorem ZV4 : Z0L.toList = [Zsn, ZsZ, Z6r, Zwx, ZsC, Zvj, Zxv] := nf
theorem ZWq : stepA E C B 40 Z0L Zsn (φ, H) = some (fput φ 21 (fget φ 4), H) := nf
theorem ZVF : stepA E C B 40 Z0L ZsZ (φ, H) = stp (some 22) φ H (just (aBin E.T .lss 3 (fget φ 21) (.int .i64 0))) := nf
theorem Z00W : stepA E C B 40 Z0L Z6r (φ, H) = some (fput φ 23 (fget φ 22), H) := nf
theorem Z04c : stepA E C B 40 Z0L Zwx (φ, H) = gd φ 23 false (fun φ => some (fput φ 24 (.tup []), H)) (fun φ => some (fput φ 24 (fget φ 4), H)) := s_gd (j := 2) (oj := Z6r) rfl rfl rfl (fun _ => rfl) (fun _ => rfl)
theorem ZZP : stepA E C B 40 Z0L ZsC (φ, H) = gd φ 23 false (fun φ => some (fput φ 25 (.tup []), H)) (fun φ => stp (some 25) φ H (just (aBin E.T .gtr 3 (fget φ 24) (.int .i64 8)))) := s_gd (j := 2) (oj := Z6r) rfl rfl rfl (fun _ => rfl) (fun _ => rfl)
theorem ZZS : stepA E C B 40 Z0L Zvj (φ, H) = stp (some 26) φ H (opPick (fget φ 23) (.bool true) (fget φ 25)) := nf
theorem ZSa : stepA E C B 40 Z0L Zxv (φ, H) = some (fput φ 20 (fget φ 26), H) := nf
def Zcu := kR Z9X
def Zbg := kT Zcu
def Zr1 := kL Zbg
def Zgq := kO Zr1
def ZwV := opN Zgq 0
theorem Z06N : XG 25 40 Zr1 Zgq [0, 3, 4, 13, 14, 15, 20] := Z1 (by rfl) (by rfl) _
theorem Z03Z : Zgq.toList = [ZwV] := nf
theorem ZUw : stepA E C B 40 Zgq ZwV (φ, H) = some (fput φ 2 (.int .i64 1), H) := nf
def ZF7 := kR Zbg
theorem Z07F : execA E C (fg 25) B 40 E0 N ZF7 s = some (.ret, s) := Zj (by rfl) s
theorem Z076 : XQ 25 40 Zbg Zr1 ZF7 := Z0 (by rfl) _
def ZbF := kE Zcu
def Zlo := kL ZbF
def ZC := kO Zlo
def ZlS := opN ZC 0
def ZmF := opN ZC 1
def Z10 := opN ZC 2
def Zk7 := opN ZC 3
def Zld := opN ZC 4
def ZnU := opN ZC 5
def ZmG := opN ZC 6
def ZlE := opN ZC 7
def Zn1 := opN ZC 8
def Zr8 := opN ZC 9
def Zeo := opN ZC 10
def ZeP := opN ZC 11
theorem Z060 : XG 25 40 Zlo ZC [3, 4, 20, 28, 29, 30, 31, 32, 33, 34, 35, 36, 37, 38] := Z1 (by rfl) (by rfl) _
theorem ZR5 : ZC.toList = [ZlS, ZmF, Z10, Zk7, Zld, ZnU, ZmG, ZlE, Zn1, Zr8, Zeo, ZeP] := nf
theorem ZJY : stepA E C B 40 ZC ZlS (φ, H) = some (fput φ 28 (fget φ 3), H) := nf
theorem ZOg : stepA E C B 40 ZC ZmF (φ, H) = stp (some 29) φ H (just (aBin E.T .gtr 3 (fget φ 28) (.int .i64 0))) := nf
theorem ZMl : stepA E C B 40 ZC Z10 (φ, H) = some (fput φ 30 (fget φ 29), H) := nf
theorem ZQd : stepA E C B 40 ZC Zk7 (φ, H) = gd φ 30 true (fun φ => some (fput φ 31 (.tup []), H)) (fun φ => some (fput φ 31 (fget φ 4), H)) := s_gd (j := 2) (oj := Z10) rfl rfl rfl (fun _ => rfl) (fun _ => rfl)
theorem ZL6 : stepA E C B 40 ZC Zld (φ, H) = gd φ 30 true (fun φ => some (fput φ 32 (.tup []), H)) (fun φ => some (fput φ 32 (fget φ 0), H)) := s_gd (j := 2) (oj := Z10) rfl rfl rfl (fun _ => rfl) (fun _ => rfl)
theorem ZKZ : stepA E C B 40 ZC ZnU (φ, H) = gd φ 30 true (fun φ => some (fput φ 33 (.tup []), H)) (fun φ => some (fput φ 33 (fget φ 3), H)) := s_gd (j := 2) (oj := Z10) rfl rfl rfl (fun _ => rfl) (fun _ => rfl)
theorem ZNR : stepA E C B 40 ZC ZmG (φ, H) = gd φ 30 true (fun φ => some (fput φ 34 (.tup []), H)) (fun φ => stp (some 34) φ H (just (aBin E.T .sub 3 (fget φ 33) (.int .i64 1)))) := s_gd (j := 2) (oj := Z10) rfl rfl rfl (fun _ => rfl) (fun _ => rfl)
theorem ZLF : stepA E C B 40 ZC ZlE (φ, H) = gd φ 30 true (fun φ => some (fput φ 35 (.tup []), H)) (fun φ => stp (some 35) φ H (just (Z3 E.T 22 (fget φ 32) (fget φ 34)))) := s_gd (j := 2) (oj := Z10) rfl rfl rfl (fun _ => rfl) (fun _ => rfl)
theorem ZOi : stepA E C B 40 ZC Zn1 (φ, H) = gd φ 30 true (fun φ => some (fput φ 36 (.tup []), H)) (fun φ => stp (some 36) φ H (just (aLoad E.T 3 (fget φ 35)))) := s_gd (j := 2) (oj := Z10) rfl rfl rfl (fun _ => rfl) (fun _ => rfl)
theorem ZLI : stepA E C B 40 ZC Zr8 (φ, H) = gd φ 30 true (fun φ => some (fput φ 37 (.tup []), H)) (fun φ => stp (some 37) φ H (just (aBin E.T .gtr 3 (fget φ 31) (fget φ 36)))) := s_gd (j := 2) (oj := Z10) rfl rfl rfl (fun _ => rfl) (fun _ => rfl)
theorem ZFA : stepA E C B 40 ZC Zeo (φ, H) = stp (some 38) φ H (opPick (fget φ 30) (fget φ 37) (.bool false)) := nf
theorem ZFK : stepA E C B 40 ZC ZeP (φ, H) = some (fput φ 27 (fget φ 38), H) := nf
def Zan := kR ZbF
def ZaH := kT Zan
def ZjI := kL ZaH
def Zbq := kO ZjI
def ZmJ := opN Zbq 0
theorem Z0f9 : XG 25 40 ZjI Zbq [0, 13, 14, 15, 27] := Z1 (by rfl) (by rfl) _
theorem ZRa : Zbq.toList = [ZmJ] := nf
theorem ZLW : stepA E C B 40 Zbq ZmJ (φ, H) = some (fput φ 2 (.int .i64 7), H) := nf
def ZJ0 := kR ZaH
theorem Z0cr : execA E C (fg 25) B 40 E0 N ZJ0 s = some (.ret, s) := Zj (by rfl) s
theorem Z0cs : XQ 25 40 ZaH ZjI ZJ0 := Z0 (by rfl) _
def ZI8 := kE Zan
theorem Z0aC : execA E C (fg 25) B 40 E0 N ZI8 s = some (.normal, s) := Ze (by rfl) s
theorem Z06n : XC 25 40 Zan 27 ZaH ZI8 := Zb (by rfl) _
theorem Z0eK : XQ 25 40 ZbF Zlo Zan := Z0 (by rfl) _
theorem Z0du : XC 25 40 Zcu 20 Zbg ZbF := Zb (by rfl) _
theorem Z092 : XQ 25 40 Z9X ZiI Zcu := Z0 (by rfl) _
theorem Z0e8 : execA E C (fg 25) B 40 E0 N Zjg s = blockX 3 (fun s => (forget s.1 [27], s.2)) (execA E C (fg 25) B 40 E0 N Z9X s) := Zf (by rfl) (by rfl) s
theorem Z09t : XQ 25 40 Zcs ZjV Zjg := Z0 (by rfl) _
theorem Z0fj : execA E C (fg 25) B 40 E0 N ZqZ s = blockX 2 (fun s => (forget s.1 [], s.2)) (execA E C (fg 25) B 40 E0 N Zcs s) := Zf (by rfl) (by rfl) s
def ZlC := kR ZbU
def Z4L := kO ZlC
def Zl5 := opN Z4L 0
def Zrb := opN Z4L 1
theorem Z0bW : XG 25 40 ZlC Z4L [39] := Z1 (by rfl) (by rfl) _
theorem ZN5 : Z4L.toList = [Zl5, Zrb] := nf
theorem ZNJ : stepA E C B 40 Z4L Zl5 (φ, H) = stp (some 39) φ H (just (aBin E.T .add 3 (fget φ 15) (.int .i64 1))) := nf
theorem ZJv : stepA E C B 40 Z4L Zrb (φ, H) = some (fput φ 15 (fget φ 39), H) := nf
theorem Z0f3 : XQ 25 40 ZbU ZqZ ZlC := Z0 (by rfl) _
theorem Z06D : XQ 25 40 Z8J Z99 ZbU := Z0 (by rfl) _
theorem Z0eT : XQ 25 40 Z3F ZiE Z8J := Z0 (by rfl) _
theorem Z0a3 : execA E C (fg 25) B 40 E0 N Zn2 s = iterA (execA E C (fg 25) B 40 E0 N Z3F) (headA E0) N s := ZM (by rfl) s
theorem Z0bJ : execA E C (fg 25) B 40 E0 N ZiK s = blockX 1 (fun s => (forget s.1 [0, 13, 14, 15, 16], s.2)) (execA E C (fg 25) B 40 E0 N Zn2 s) := Zf (by rfl) (by rfl) s
theorem Z0c9 : XQ 25 40 Z9I ZqI ZiK := Z0 (by rfl) _
def Zc5 := kR ZbG
def Zqm := kL Zc5
def Z8s := kO Zqm
def Zpp := opN Z8s 0
theorem Z06G : XG 25 40 Zqm Z8s [] := Z1 (by rfl) (by rfl) _
theorem ZNx : Z8s.toList = [Zpp] := nf
theorem ZRi : stepA E C B 40 Z8s Zpp (φ, H) = some (fput φ 2 (.int .i64 0), H) := nf
def ZGh := kR Zc5
theorem Z0bH : execA E C (fg 25) B 40 E0 N ZGh s = some (.ret, s) := Zj (by rfl) s
theorem Z0cW : XQ 25 40 Zc5 Zqm ZGh := Z0 (by rfl) _
theorem Z0cS : XQ 25 40 ZbG Z9I Zc5 := Z0 (by rfl) _
theorem Z0gv : XQ 25 40 ZhF ZCv ZbG := Z0 (by rfl) _
theorem Z0gL : XQ 25 40 Z9r ZCY ZhF := Z0 (by rfl) _
theorem Z0fv : fInfo E 25 = some ⟨40, #[.tmp 2], Z9r⟩ := nf
theorem b_25 (args : List AV) : bodyA E C fg N 25 args H B = bodyX E [.tmp 2] (execA E C (fg 25) B 40 H N Z9r (Z4 args 0 [], H)) := Zq Z0fv args H
abbrev F_25 := And.intro (And.intro (And.intro (And.intro (And.intro (And.intro @Z0hN (And.intro @Z05W @Z053)) (And.intro @Z0hv (And.intro @Z04V @Z05G))) (And.intro (And.intro @ZYJ (And.intro @ZXY @Z05U)) (And.intro (And.intro @Z0jg @Z01C) (And.intro @ZVY @Z0hQ)))) (And.intro (And.intro (And.intro @Z0gU (And.intro @Z0bw @ZVy)) (And.intro (And.intro @ZS7 @ZY0) (And.intro @Z04s @ZTZ))) (And.intro (And.intro @Z07D (And.intro @ZUQ @ZZ4)) (And.intro (And.intro @Z07V @Z06Y) (And.intro @Z08E @Z0dp))))) (And.intro (And.intro (And.intro (And.intro @Z086 (And.intro @Z0gX @Z0ii)) (And.intro @Z0fQ (And.intro @Z07K @Z00m))) (And.intro (And.intro @ZWS (And.intro @ZYL @ZWJ)) (And.intro (And.intro @Z08X @ZXk) (And.intro @ZWH @Z0cR)))) (And.intro (And.intro (And.intro @Z0an (And.intro @Z09R @Z08b)) (And.intro (And.intro @Z034 @Z01Y) (And.intro @ZVI @Z00y))) (And.intro (And.intro @ZYt (And.intro @ZZn @Z09e)) (And.intro (And.intro @ZV4 @ZWq) (And.intro @ZVF @Z00W)))))) (And.intro (And.intro (And.intro (And.intro (And.intro @Z04c (And.intro @ZZP @ZZS)) (And.intro @ZSa (And.intro @Z06N @Z03Z))) (And.intro (And.intro @ZUw (And.intro @Z07F @Z076)) (And.intro (And.intro @Z060 @ZR5) (And.intro @ZJY @ZOg)))) (And.intro (And.intro (And.intro @ZMl (And.intro @ZQd @ZL6)) (And.intro (And.intro @ZKZ @ZNR) (And.intro @ZLF @ZOi))) (And.intro (And.intro @ZLI (And.intro @ZFA @ZFK)) (And.intro (And.intro @Z0f9 @ZRa) (And.intro @ZLW @Z0cr))))) (And.intro (And.intro (And.intro (And.intro @Z0cs (And.intro @Z0aC @Z06n)) (And.intro (And.intro @Z0eK @Z0du) (And.intro @Z092 @Z0e8))) (And.intro (And.intro @Z09t (And.intro @Z0fj @Z0bW)) (And.intro (And.intro @ZN5 @ZNJ) (And.intro @ZJv @Z0f3)))) (And.intro (And.intro (And.intro @Z06D (And.intro @Z0eT @Z0a3)) (And.intro (And.intro @Z0bJ @Z0c9) (And.intro @Z06G @ZNx))) (And.intro (And.intro @ZRi (And.intro @Z0bH @Z0cW)) (And.intro (And.intro @Z0cS @Z0gv) (And.intro @Z0gL @b_25))))))
def Z9g := kBody Proofs.Try.f79
def ZCf := kL Z9g
def Zib := kO ZCf
def Zvp := opN Zib 0
theorem Z0k8 : XG 79 25 ZCf Zib [2] := Z1 (by rfl) (by rfl) _
theorem ZZX : Zib.toList = [Zvp] := nf
theorem Z03a : stepA E C B 25 Zib Zvp (φ, H) = some (fput φ 2 (.nilsl), H) := nf
def Zhb := kR Z9g
def ZCZ := kL Zhb
def Z7K := kO ZCZ
def Zze := opN Z7K 0
def Zzv := opN Z7K 1
theorem Z0jG : XG 79 25 ZCZ Z7K [6] := Z1 (by rfl) (by rfl) _
theorem Z04J : Z7K.toList = [Zze, Zzv] := nf
theorem ZVj : stepA E C B 25 Z7K Zze (φ, H) = stp (some 6) φ H (Z8 E.T (B + 6) 22 1 (evO E φ) [(0, Operand.const (Value.int .i64 0))]) := nf
theorem Z04l : stepA E C B 25 Z7K Zzv (φ, H) = some (fput φ 3 (fget φ 6), H) := nf
def Zh1 := kR Zhb
def Zh2 := kL Zh1
def ZC7 := kL Zh2
def Z4s := kO ZC7
def Zux := opN Z4s 0
def ZxT := opN Z4s 1
def Zub := opN Z4s 2
theorem Z0ho : XG 79 25 ZC7 Z4s [0] := Z1 (by rfl) (by rfl) _
theorem Z00x : Z4s.toList = [Zux, ZxT, Zub] := nf
theorem Z03J : stepA E C B 25 Z4s Zux (φ, H) = some (fput φ 7 (fget φ 0), H) := nf
theorem ZYG : stepA E C B 25 Z4s ZxT (φ, H) = stp (some 8) φ H (Z2 E.T (B + 8) .len #[22] [(fget φ 7)]) := nf
theorem Z05C : stepA E C B 25 Z4s Zub (φ, H) = some (fput φ 9 (.int .i64 0), H) := nf
def ZC0 := kR Zh2
def ZCn := kB ZC0
def Z5g := kB ZCn
def ZoX := kL Z5g
def ZgU := kO ZoX
def ZsT := opN ZgU 0
theorem Z08z : XG 79 25 ZoX ZgU [] := Z1 (by rfl) (by rfl) _
theorem ZVo : ZgU.toList = [ZsT] := nf
theorem ZYH : stepA E C B 25 ZgU ZsT (φ, H) = stp (some 10) φ H (just (aBin E.T .lss 3 (fget φ 9) (fget φ 8))) := nf
def ZaF := kR Z5g
def Zca := kL ZaF
def ZGI := kT Zca
theorem Z06B : execA E C (fg 79) B 25 E0 N ZGI s = some (.normal, s) := Ze (by rfl) s
def ZEf := kE Zca
theorem Z08A : execA E C (fg 79) B 25 E0 N ZEf s = some (.exit 0, s) := ZL (by rfl) s
theorem Z0bP : XC 79 25 Zca 10 ZGI ZEf := Zb (by rfl) _
def Zcn := kR ZaF
def ZpO := kL Zcn
def Zcd := kB ZpO
def Zow := kL Zcd
def Z1K := kO Zow
def ZvT := opN Z1K 0
def Zty := opN Z1K 1
def Zxy := opN Z1K 2
def ZxL := opN Z1K 3
def Zug := opN Z1K 4
theorem Z06S : XG 79 25 Zow Z1K [10, 11, 12, 13] := Z1 (by rfl) (by rfl) _
theorem Z02k : Z1K.toList = [ZvT, Zty, Zxy, ZxL, Zug] := nf
theorem ZVn : stepA E C B 25 Z1K ZvT (φ, H) = some (fput φ 11 (fget φ 9), H) := nf
theorem Z04H : stepA E C B 25 Z1K Zty (φ, H) = stp (some 12) φ H (just (Z3 E.T 22 (fget φ 7) (fget φ 9))) := nf
theorem ZY1 : stepA E C B 25 Z1K Zxy (φ, H) = stp (some 13) φ H (just (aLoad E.T 3 (fget φ 12))) := nf
theorem Z00J : stepA E C B 25 Z1K ZxL (φ, H) = some (fput φ 4 (fget φ 11), H) := nf
theorem ZSw : stepA E C B 25 Z1K Zug (φ, H) = some (fput φ 5 (fget φ 13), H) := nf
def Zrl := kR Zcd
def Z04 := kO Zrl
def Zsu := opN Z04 0
def Zui := opN Z04 1
def ZsK := opN Z04 2
def Zzc := opN Z04 3
def ZsI := opN Z04 4
def ZtB := opN Z04 5
def ZuY := opN Z04 6
def Zxb := opN Z04 7
def ZtI := opN Z04 8
def ZA6 := opN Z04 9
theorem Z08H : XG 79 25 Zrl Z04 [4, 5, 14, 15, 16, 17, 18, 19, 20, 21, 22] := Z1 (by rfl) (by rfl) _
theorem Z00A : Z04.toList = [Zsu, Zui, ZsK, Zzc, ZsI, ZtB, ZuY, Zxb, ZtI, ZA6] := nf
theorem Z02Q : stepA E C B 25 Z04 Zsu (φ, H) = some (fput φ 14 (fget φ 3), H) := nf
theorem ZTn : stepA E C B 25 Z04 Zui (φ, H) = some (fput φ 15 (fget φ 3), H) := nf
theorem Z02o : stepA E C B 25 Z04 ZsK (φ, H) = some (fput φ 16 (fget φ 4), H) := nf
theorem Z04v : stepA E C B 25 Z04 Zzc (φ, H) = stp (some 17) φ H (just (Z3 E.T 22 (fget φ 15) (fget φ 16))) := nf
theorem Z05l : stepA E C B 25 Z04 ZsI (φ, H) = stp (some 18) φ H (just (aLoad E.T 3 (fget φ 17))) := nf
theorem ZUh : stepA E C B 25 Z04 ZtB (φ, H) = some (fput φ 19 (fget φ 5), H) := nf
theorem Z01W : stepA E C B 25 Z04 ZuY (φ, H) = stp (some 20) φ H (just (aBin E.T .add 3 (fget φ 18) (fget φ 19))) := nf
theorem ZXe : stepA E C B 25 Z04 Zxb (φ, H) = stp (some 21) φ H (Z8 E.T (B + 21) 22 1 (evO E φ) [(0, Operand.tmp 20)]) := nf
theorem ZXm : stepA E C B 25 Z04 ZtI (φ, H) = stp (some 22) φ H (Z2 E.T (B + 22) .append #[22, 22] [(fget φ 14), (fget φ 21)]) := nf
theorem Z04K : stepA E C B 25 Z04 ZA6 (φ, H) = some (fput φ 3 (fget φ 22), H) := nf
theorem Z07W : XQ 79 25 Zcd Zow Zrl := Z0 (by rfl) _
theorem Z07I : execA E C (fg 79) B 25 E0 N ZpO s = blockX 1 (fun s => (forget s.1 [], s.2)) (execA E C (fg 79) B 25 E0 N Zcd s) := Zf (by rfl) (by rfl) s
def ZqG := kR Zcn
def Z6R := kO ZqG
def ZxO := opN Z6R 0
def ZtJ := opN Z6R 1
theorem Z08U : XG 79 25 ZqG Z6R [23] := Z1 (by rfl) (by rfl) _
theorem Z01y : Z6R.toList = [ZxO, ZtJ] := nf
theorem Z03h : stepA E C B 25 Z6R ZxO (φ, H) = stp (some 23) φ H (just (aBin E.T .add 3 (fget φ 9) (.int .i64 1))) := nf
theorem Z04W : stepA E C B 25 Z6R ZtJ (φ, H) = some (fput φ 9 (fget φ 23), H) := nf
theorem Z0dJ : XQ 79 25 Zcn ZpO ZqG := Z0 (by rfl) _
theorem Z08m : XQ 79 25 ZaF Zca Zcn := Z0 (by rfl) _
theorem Z0fu : XQ 79 25 Z5g ZoX ZaF := Z0 (by rfl) _
theorem Z0hm : execA E C (fg 79) B 25 E0 N ZCn s = iterA (execA E C (fg 79) B 25 E0 N Z5g) (headA E0) N s := ZM (by rfl) s
theorem Z0iW : execA E C (fg 79) B 25 E0 N ZC0 s = blockX 0 (fun s => (forget s.1 [7, 8, 9, 10], s.2)) (execA E C (fg 79) B 25 E0 N ZCn s) := Zf (by rfl) (by rfl) s
theorem Z0ia : XQ 79 25 Zh2 ZC7 ZC0 := Z0 (by rfl) _
def Z9B := kR Zh1
def ZoS := kL Z9B
def Z77 := kO ZoS
def ZrJ := opN Z77 0
def ZvA := opN Z77 1
theorem Z0fn : XG 79 25 ZoS Z77 [3, 24] := Z1 (by rfl) (by rfl) _
theorem ZVw : Z77.toList = [ZrJ, ZvA] := nf
theorem ZWi : stepA E C B 25 Z77 ZrJ (φ, H) = some (fput φ 24 (fget φ 3), H) := nf
theorem ZRM : stepA E C B 25 Z77 ZvA (φ, H) = some (fput φ 2 (fget φ 24), H) := nf
def ZHm := kR Z9B
theorem Z0b9 : execA E C (fg 79) B 25 E0 N ZHm s = some (.ret, s) := Zj (by rfl) s
theorem Z0eu : XQ 79 25 Z9B ZoS ZHm := Z0 (by rfl) _
theorem Z0fs : XQ 79 25 Zh1 Zh2 Z9B := Z0 (by rfl) _
theorem Z0iN : XQ 79 25 Zhb ZCZ Zh1 := Z0 (by rfl) _
theorem Z0jD : XQ 79 25 Z9g ZCf Zhb := Z0 (by rfl) _
theorem Z0jR : fInfo E 79 = some ⟨25, #[.tmp 2], Z9g⟩ := nf
theorem b_79 (args : List AV) : bodyA E C fg N 79 args H B = bodyX E [.tmp 2] (execA E C (fg 79) B 25 H N Z9g (Z4 args 0 [], H)) := Zq Z0jR args H
abbrev F_79 := And.intro (And.intro (And.intro (And.intro (And.intro @Z0k8 (And.intro @ZZX @Z03a)) (And.intro (And.intro @Z0jG @Z04J) (And.intro @ZVj @Z04l))) (And.intro (And.intro @Z0ho (And.intro @Z00x @Z03J)) (And.intro (And.intro @ZYG @Z05C) (And.intro @Z08z @ZVo)))) (And.intro (And.intro (And.intro @ZYH (And.intro @Z06B @Z08A)) (And.intro (And.intro @Z0bP @Z06S) (And.intro @Z02k @ZVn))) (And.intro (And.intro (And.intro @Z04H @ZY1) (And.intro @Z00J @ZSw)) (And.intro (And.intro @Z08H @Z00A) (And.intro @Z02Q @ZTn))))) (And.intro (And.intro (And.intro (And.intro @Z02o (And.intro @Z04v @Z05l)) (And.intro (And.intro @ZUh @Z01W) (And.intro @ZXe @ZXm))) (And.intro (And.intro (And.intro @Z04K @Z07W) (And.intro @Z07I @Z08U)) (And.intro (And.intro @Z01y @Z03h) (And.intro @Z04W @Z0dJ)))) (And.intro (And.intro (And.intro @Z08m (And.intro @Z0fu @Z0hm)) (And.intro (And.intro @Z0iW @Z0ia) (And.intro @Z0fn @ZVw))) (And.intro (And.intro (And.intro @ZWi @ZRM) (And.intro @Z0b9 @Z0eu)) (And.intro (And.intro @Z0fs @Z0iN) (And.intro @Z0jD @b_79)))))
def Zag := kBody Proofs.Try.f85
def ZCq := kL Zag
def Z4d := kO ZCq
def Zv6 := opN Z4d 0
def Zv1 := opN Z4d 1
def ZyE := opN Z4d 2
theorem Z0gt : XG 85 43 ZCq Z4d [4, 5, 6] := Z1 (by rfl) (by rfl) _
theorem ZTy : Z4d.toList = [Zv6, Zv1, ZyE] := nf
theorem ZYW : stepA E C B 43 Z4d Zv6 (φ, H) = some (fput φ 4 (.nilsl), H) := nf
theorem Z048 : stepA E C B 43 Z4d Zv1 (φ, H) = some (fput φ 5 (.nilsl), H) := nf
theorem Z00e : stepA E C B 43 Z4d ZyE (φ, H) = some (fput φ 6 (.int .i64 0), H) := nf
def ZhE := kR Zag
def ZgT := kL ZhE
def ZCi := kL ZgT
def Z4x := kO ZCi
def ZtT := opN Z4x 0
def Zzf := opN Z4x 1
def Zwu := opN Z4x 2
theorem Z0hL : XG 85 43 ZCi Z4x [9, 10] := Z1 (by rfl) (by rfl) _
theorem ZTe : Z4x.toList = [ZtT, Zzf, Zwu] := nf
theorem Z03Y : stepA E C B 43 Z4x ZtT (φ, H) = some (fput φ 9 (fget φ 0), H) := nf
theorem Z055 : stepA E C B 43 Z4x Zzf (φ, H) = stp (some 10) φ H (aCall C (fun j => B + j * 43 + 10) true 25 [(fget φ 9)]) := nf
theorem ZZd : stepA E C B 43 Z4x Zwu (φ, H) = some (fput φ 7 (fget φ 10), H) := nf
def Zi8 := kR ZgT
def ZCl := kL Zi8
def Z75 := kO ZCl
def Zyh := opN Z75 0
def ZAR := opN Z75 1
theorem Z0jt : XG 85 43 ZCl Z75 [11] := Z1 (by rfl) (by rfl) _
theorem ZYu : Z75.toList = [Zyh, ZAR] := nf
theorem ZUP : stepA E C B 43 Z75 Zyh (φ, H) = some (fput φ 11 (fget φ 7), H) := nf
theorem Z047 : stepA E C B 43 Z75 ZAR (φ, H) = stp (some 12) φ H (just (aBin E.T .neq 24 (fget φ 11) (.int .i64 0))) := nf
def Zhw := kR Zi8
def Zh6 := kT Zhw
def ZDe := kL Zh6
def Z2t := kO ZDe
def Zsz := opN Z2t 0
def Zt7 := opN Z2t 1
def Zws := opN Z2t 2
def ZAG := opN Z2t 3
theorem Z0hu : XG 85 43 ZDe Z2t [0, 1, 7, 12, 13] := Z1 (by rfl) (by rfl) _
theorem ZSp : Z2t.toList = [Zsz, Zt7, Zws, ZAG] := nf
theorem Z001 : stepA E C B 43 Z2t Zsz (φ, H) = some (fput φ 13 (fget φ 7), H) := nf
theorem Z04A : stepA E C B 43 Z2t Zt7 (φ, H) = some (fput φ 4 (.nilsl), H) := nf
theorem Z04e : stepA E C B 43 Z2t Zws (φ, H) = some (fput φ 5 (.nilsl), H) := nf
theorem Z05v : stepA E C B 43 Z2t ZAG (φ, H) = some (fput φ 6 (fget φ 13), H) := nf
def ZGG := kR Zh6
theorem Z0e3 : execA E C (fg 85) B 43 E0 N ZGG s = some (.ret, s) := Zj (by rfl) s
theorem Z0hy : XQ 85 43 Zh6 ZDe ZGG := Z0 (by rfl) _
def ZFi := kE Zhw
theorem Z066 : execA E C (fg 85) B 43 E0 N ZFi s = some (.normal, s) := Ze (by rfl) s
theorem Z0j1 : XC 85 43 Zhw 12 Zh6 ZFi := Zb (by rfl) _
theorem Z0jU : XQ 85 43 Zi8 ZCl Zhw := Z0 (by rfl) _
theorem Z0kr : XQ 85 43 ZgT ZCi Zi8 := Z0 (by rfl) _
def Z9y := kR ZhE
def ZcK := kL Z9y
def Zka := kL ZcK
def Z4t := kO Zka
def Zum := opN Z4t 0
def Zyf := opN Z4t 1
def ZAb := opN Z4t 2
theorem Z09c : XG 85 43 Zka Z4t [7, 12, 14, 15] := Z1 (by rfl) (by rfl) _
theorem ZUb : Z4t.toList = [Zum, Zyf, ZAb] := nf
theorem ZUU : stepA E C B 43 Z4t Zum (φ, H) = some (fput φ 14 (fget φ 1), H) := nf
theorem Z05r : stepA E C B 43 Z4t Zyf (φ, H) = stp (some 15) φ H (aCall C (fun j => B + j * 43 + 15) true 25 [(fget φ 14)]) := nf
theorem ZWz : stepA E C B 43 Z4t ZAb (φ, H) = some (fput φ 8 (fget φ 15), H) := nf
def ZcN := kR ZcK
def Znx := kL ZcN
def Z69 := kO Znx
def Zwr := opN Z69 0
def ZAw := opN Z69 1
theorem Z06e : XG 85 43 Znx Z69 [16] := Z1 (by rfl) (by rfl) _
theorem ZYx : Z69.toList = [Zwr, ZAw] := nf
theorem ZZ8 : stepA E C B 43 Z69 Zwr (φ, H) = some (fput φ 16 (fget φ 8), H) := nf
theorem ZYY : stepA E C B 43 Z69 ZAw (φ, H) = stp (some 17) φ H (just (aBin E.T .neq 24 (fget φ 16) (.int .i64 0))) := nf
def ZbI := kR ZcN
def Z9Z := kT ZbI
def Zlp := kL Z9Z
def Z2u := kO Zlp
def Zsf := opN Z2u 0
def ZAU := opN Z2u 1
def Zxt := opN Z2u 2
def Zvv := opN Z2u 3
theorem Z0eZ : XG 85 43 Zlp Z2u [0, 1, 8, 17, 18] := Z1 (by rfl) (by rfl) _
theorem ZXs : Z2u.toList = [Zsf, ZAU, Zxt, Zvv] := nf
theorem Z02L : stepA E C B 43 Z2u Zsf (φ, H) = some (fput φ 18 (fget φ 8), H) := nf
theorem Z02p : stepA E C B 43 Z2u ZAU (φ, H) = some (fput φ 4 (.nilsl), H) := nf
theorem ZVD : stepA E C B 43 Z2u Zxt (φ, H) = some (fput φ 5 (.nilsl), H) := nf
theorem ZUO : stepA E C B 43 Z2u Zvv (φ, H) = some (fput φ 6 (fget φ 18), H) := nf
def ZFV := kR Z9Z
theorem Z0eH : execA E C (fg 85) B 43 E0 N ZFV s = some (.ret, s) := Zj (by rfl) s
theorem Z0bD : XQ 85 43 Z9Z Zlp ZFV := Z0 (by rfl) _
def ZI7 := kE ZbI
theorem Z0bk : execA E C (fg 85) B 43 E0 N ZI7 s = some (.normal, s) := Ze (by rfl) s
theorem Z074 : XC 85 43 ZbI 17 Z9Z ZI7 := Zb (by rfl) _
theorem Z069 : XQ 85 43 ZcN Znx ZbI := Z0 (by rfl) _
theorem Z06f : XQ 85 43 ZcK Zka ZcN := Z0 (by rfl) _
def Z9R := kR Z9y
def Zpm := kL Z9R
def Z1c := kO Zpm
def ZAi := opN Z1c 0
def ZzR := opN Z1c 1
def Zvd := opN Z1c 2
def ZzT := opN Z1c 3
def ZtY := opN Z1c 4
def ZuZ := opN Z1c 5
theorem Z08r : XG 85 43 Zpm Z1c [8, 17, 19, 20, 21, 22] := Z1 (by rfl) (by rfl) _
theorem ZS6 : Z1c.toList = [ZAi, ZzR, Zvd, ZzT, ZtY, ZuZ] := nf
theorem ZS2 : stepA E C B 43 Z1c ZAi (φ, H) = some (fput φ 19 (fget φ 0), H) := nf
theorem ZVq : stepA E C B 43 Z1c ZzR (φ, H) = stp (some 20) φ H (aCall C (fun j => B + j * 43 + 20) true 79 [(fget φ 19)]) := nf
theorem ZW7 : stepA E C B 43 Z1c Zvd (φ, H) = some (fput φ 21 (fget φ 1), H) := nf
theorem Z036 : stepA E C B 43 Z1c ZzT (φ, H) = stp (some 22) φ H (aCall C (fun j => B + j * 43 + 22) true 79 [(fget φ 21)]) := nf
theorem Z01k : stepA E C B 43 Z1c ZtY (φ, H) = some (fput φ 4 (fget φ 20), H) := nf
theorem ZYh : stepA E C B 43 Z1c ZuZ (φ, H) = some (fput φ 5 (fget φ 22), H) := nf
def Zc8 := kR Z9R
def ZmO := kL Zc8
def ZcC := kB ZmO
def ZnQ := kL ZcC
def Z1b := kO ZnQ
def Zxu := opN Z1b 0
def Zut := opN Z1b 1
def ZBb := opN Z1b 2
def ZsA := opN Z1b 3
def Zwk := opN Z1b 4
def ZzJ := opN Z1b 5
theorem Z089 : XG 85 43 ZnQ Z1b [24, 25, 26, 27, 28] := Z1 (by rfl) (by rfl) _
theorem Z010 : Z1b.toList = [Zxu, Zut, ZBb, ZsA, Zwk, ZzJ] := nf
theorem ZTx : stepA E C B 43 Z1b Zxu (φ, H) = some (fput φ 24 (fget φ 0), H) := nf
theorem ZUE : stepA E C B 43 Z1b Zut (φ, H) = stp (some 25) φ H (Z2 E.T (B + 25) .len #[22] [(fget φ 24)]) := nf
theorem ZT5 : stepA E C B 43 Z1b ZBb (φ, H) = some (fput φ 26 (fget φ 1), H) := nf
theorem ZW9 : stepA E C B 43 Z1b ZsA (φ, H) = stp (some 27) φ H (Z2 E.T (B + 27) .len #[22] [(fget φ 26)]) := nf
theorem ZSC : stepA E C B 43 Z1b Zwk (φ, H) = stp (some 28) φ H (just (aBin E.T .neq 3 (fget φ 25) (fget φ 27))) := nf
theorem ZXp : stepA E C B 43 Z1b ZzJ (φ, H) = some (fput φ 23 (fget φ 28), H) := nf
def Zcy := kR ZcC
def ZaO := kT Zcy
def Zqe := kL ZaO
def Z4l := kO Zqe
def ZtH := opN Z4l 0
def Zs9 := opN Z4l 1
def Zyk := opN Z4l 2
theorem Z0ax : XG 85 43 Zqe Z4l [0, 1, 23] := Z1 (by rfl) (by rfl) _
theorem ZWR : Z4l.toList = [ZtH, Zs9, Zyk] := nf
theorem ZWP : stepA E C B 43 Z4l ZtH (φ, H) = some (fput φ 4 (.nilsl), H) := nf
theorem ZTB : stepA E C B 43 Z4l Zs9 (φ, H) = some (fput φ 5 (.nilsl), H) := nf
theorem ZVs : stepA E C B 43 Z4l Zyk (φ, H) = some (fput φ 6 (.int .i64 5), H) := nf
def ZGQ := kR ZaO
theorem Z0dZ : execA E C (fg 85) B 43 E0 N ZGQ s = some (.ret, s) := Zj (by rfl) s
theorem Z0aY : XQ 85 43 ZaO Zqe ZGQ := Z0 (by rfl) _
def Zc3 := kE Zcy
def ZlK := kL Zc3
def Zv := kO ZlK
def ZkB := opN Zv 0
def Zkz := opN Zv 1
def ZiH := opN Zv 2
def ZlY := opN Zv 3
def ZkS := opN Zv 4
def Zln := opN Zv 5
def Zk5 := opN Zv 6
def ZqK := opN Zv 7
def ZiW := opN Zv 8
def ZkI := opN Zv 9
def ZfK := opN Zv 10
def Zfe := opN Zv 11
theorem Z0cM : XD 85 43 ZlK Zv [0, 1, 23, 30, 31, 32, 33, 34, 35, 36, 37, 38, 39, 40] := Z3I (by rfl) (by rfl) _
theorem ZOS : Zv.toList = [ZkB, Zkz, ZiH, ZlY, ZkS, Zln, Zk5, ZqK, ZiW, ZkI, ZfK, Zfe] := nf
theorem ZDE : statOk Zv = true := by kernel_rfl
theorem ZHc : drawA E C B 43 Zv s = if neat 43 s = true then drX Zv (runT E C B 43 Zv Zv.toList 0 s) else none := Z2e ZDE s
theorem ZEu (l : List (Nat × Tr)) : dynOk Zv l = (!writing l || Zo [[], [], [1], [0, 1, 2], [0, 1, 2, 3], [], [], [6], [5, 6, 7], [5, 6, 7, 8], [0, 1, 2, 3, 4, 5, 6, 7, 8, 9], [0, 1, 2, 3, 4, 5, 6, 7, 8, 9, 10]] (Zm l)) := Z1P (by kernel_rfl) l
theorem ZQO : stepT E C B 43 Zv ZkB (φ, H) = some ((fput φ 30 (fget φ 4), H), ⟨false, [], []⟩) := Z9 rfl (Zh rfl rfl)
theorem ZMF : stepT E C B 43 Zv Zkz (φ, H) = some ((fput φ 31 (fget φ 0), H), ⟨false, [], []⟩) := Z9 rfl (Zh rfl rfl)
theorem ZMy : stepT E C B 43 Zv ZiH (φ, H) = stpT (some 32) φ H (Z2 E.T (B + 32) .len #[22] [(fget φ 31)]) := Z9 rfl (Zi rfl rfl)
theorem ZMd : stepT E C B 43 Zv ZlY (φ, H) = stpT (some 33) φ H (just (Z3 E.T 22 (fget φ 30) (fget φ 32))) := Z9 rfl (Zi rfl rfl)
theorem ZMO : stepT E C B 43 Zv ZkS (φ, H) = stpT (some 34) φ H (just (aLoad E.T 3 (fget φ 33))) := Z9 rfl (Zi rfl rfl)
theorem ZON : stepT E C B 43 Zv Zln (φ, H) = some ((fput φ 35 (fget φ 5), H), ⟨false, [], []⟩) := Z9 rfl (Zh rfl rfl)
theorem ZRb : stepT E C B 43 Zv Zk5 (φ, H) = some ((fput φ 36 (fget φ 1), H), ⟨false, [], []⟩) := Z9 rfl (Zh rfl rfl)
theorem ZOq : stepT E C B 43 Zv ZqK (φ, H) = stpT (some 37) φ H (Z2 E.T (B + 37) .len #[22] [(fget φ 36)]) := Z9 rfl (Zi rfl rfl)
theorem ZMG : stepT E C B 43 Zv ZiW (φ, H) = stpT (some 38) φ H (just (Z3 E.T 22 (fget φ 35) (fget φ 37))) := Z9 rfl (Zi rfl rfl)
theorem ZPL : stepT E C B 43 Zv ZkI (φ, H) = stpT (some 39) φ H (just (aLoad E.T 3 (fget φ 38))) := Z9 rfl (Zi rfl rfl)
theorem ZFR : stepT E C B 43 Zv ZfK (φ, H) = stpT (some 40) φ H (just (aBin E.T .neq 3 (fget φ 34) (fget φ 39))) := Z9 rfl (Zi rfl rfl)
theorem ZHv : stepT E C B 43 Zv Zfe (φ, H) = some ((fput φ 29 (fget φ 40), H), ⟨false, [], []⟩) := Z9 rfl (Zh rfl rfl)
def Zbo := kR Zc3
def Z8U := kT Zbo
def ZpE := kL Z8U
def Z39 := kO ZpE
def Zmj := opN Z39 0
def ZmH := opN Z39 1
def ZoH := opN Z39 2
theorem Z0eW : XG 85 43 ZpE Z39 [29] := Z1 (by rfl) (by rfl) _
theorem ZOO : Z39.toList = [Zmj, ZmH, ZoH] := nf
theorem ZOQ : stepA E C B 43 Z39 Zmj (φ, H) = some (fput φ 4 (.nilsl), H) := nf
theorem ZKz : stepA E C B 43 Z39 ZmH (φ, H) = some (fput φ 5 (.nilsl), H) := nf
theorem ZQ5 : stepA E C B 43 Z39 ZoH (φ, H) = some (fput φ 6 (.int .i64 17), H) := nf
def ZEB := kR Z8U
theorem Z08S : execA E C (fg 85) B 43 E0 N ZEB s = some (.ret, s) := Zj (by rfl) s
theorem Z0bf : XQ 85 43 Z8U ZpE ZEB := Z0 (by rfl) _
def ZGe := kE Zbo
theorem Z07c : execA E C (fg 85) B 43 E0 N ZGe s = some (.normal, s) := Ze (by rfl) s
theorem Z0ed : XC 85 43 Zbo 29 Z8U ZGe := Zb (by rfl) _
theorem Z06O : XQ 85 43 Zc3 ZlK Zbo := Z0 (by rfl) _
theorem Z0c3 : XC 85 43 Zcy 23 ZaO Zc3 := Zb (by rfl) _
theorem Z07w : XQ 85 43 ZcC ZnQ Zcy := Z0 (by rfl) _
theorem Z084 : execA E C (fg 85) B 43 E0 N ZmO s = blockX 0 (fun s => (forget s.1 [29], s.2)) (execA E C (fg 85) B 43 E0 N ZcC s) := Zf (by rfl) (by rfl) s
def Zao := kR Zc8
def ZiU := kL Zao
def Z12 := kO ZiU
def Zke := opN Z12 0
def Zoq := opN Z12 1
def ZiF := opN Z12 2
def ZkV := opN Z12 3
def Zrh := opN Z12 4
theorem Z0cL : XG 85 43 ZiU Z12 [41, 42] := Z1 (by rfl) (by rfl) _
theorem ZPl : Z12.toList = [Zke, Zoq, ZiF, ZkV, Zrh] := nf
theorem ZOI : stepA E C B 43 Z12 Zke (φ, H) = some (fput φ 41 (fget φ 4), H) := nf
theorem ZOF : stepA E C B 43 Z12 Zoq (φ, H) = some (fput φ 42 (fget φ 5), H) := nf
theorem ZOL : stepA E C B 43 Z12 ZiF (φ, H) = some (fput φ 4 (fget φ 41), H) := nf
theorem ZKK : stepA E C B 43 Z12 ZkV (φ, H) = some (fput φ 5 (fget φ 42), H) := nf
theorem ZLh : stepA E C B 43 Z12 Zrh (φ, H) = some (fput φ 6 (.int .i64 0), H) := nf
def ZEm := kR Zao
theorem Z0dd : execA E C (fg 85) B 43 E0 N ZEm s = some (.ret, s) := Zj (by rfl) s
theorem Z0dX : XQ 85 43 Zao ZiU ZEm := Z0 (by rfl) _
theorem Z08a : XQ 85 43 Zc8 ZmO Zao := Z0 (by rfl) _
theorem Z0a6 : XQ 85 43 Z9R Zpm Zc8 := Z0 (by rfl) _
theorem Z0c7 : XQ 85 43 Z9y ZcK Z9R := Z0 (by rfl) _
theorem Z0jN : XQ 85 43 ZhE ZgT Z9y := Z0 (by rfl) _
theorem Z0jY : XQ 85 43 Zag ZCq ZhE := Z0 (by rfl) _
theorem Z0jE : fInfo E 85 = some ⟨43, #[.tmp 4, .tmp 5, .tmp 6], Zag⟩ := nf
theorem b_85 (args : List AV) : bodyA E C fg N 85 args H B = bodyX E [.tmp 4, .tmp 5, .tmp 6] (execA E C (fg 85) B 43 H N Zag (Z4 args 0 [], H)) := Zq Z0jE args H
abbrev F_85 := And.intro (And.intro (And.intro (And.intro (And.intro (And.intro @Z0gt (And.intro @ZTy @ZYW)) (And.intro (And.intro @Z048 @Z00e) (And.intro @Z0hL @ZTe))) (And.intro (And.intro @Z03Y (And.intro @Z055 @ZZd)) (And.intro (And.intro @Z0jt @ZYu) (And.intro @ZUP @Z047)))) (And.intro (And.intro (And.intro @Z0hu (And.intro @ZSp @Z001)) (And.intro (And.intro @Z04A @Z04e) (And.intro @Z05v @Z0e3))) (And.intro (And.intro @Z0hy (And.intro @Z066 @Z0j1)) (And.intro (And.intro @Z0jU @Z0kr) (And.intro @Z09c @ZUb))))) (And.intro (And.intro (And.intro (And.intro @ZUU (And.intro @Z05r @ZWz)) (And.intro (And.intro @Z06e @ZYx) (And.intro @ZZ8 @ZYY))) (And.intro (And.intro @Z0eZ (And.intro @ZXs @Z02L)) (And.intro (And.intro @Z02p @ZVD) (And.intro @ZUO @Z0eH)))) (And.intro (And.intro (And.intro @Z0bD (And.intro @Z0bk @Z074)) (And.intro (And.intro @Z069 @Z06f) (And.intro @Z08r @ZS6))) (And.intro (And.intro (And.intro @ZS2 @ZVq) (And.intro @ZW7 @Z036)) (And.intro (And.intro @Z01k @ZYh) (And.intro @Z089 @Z010)))))) (And.intro (And.intro (And.intro (And.intro (And.intro @ZTx (And.intro @ZUE @ZT5)) (And.intro (And.intro @ZW9 @ZSC) (And.intro @ZXp @Z0ax))) (And.intro (And.intro @ZWR (And.intro @ZWP @ZTB)) (And.intro (And.intro @ZVs @Z0dZ) (And.intro @Z0aY @Z0cM)))) (And.intro (And.intro (And.intro @ZOS (And.intro @ZHc @ZEu)) (And.intro (And.intro @ZQO @ZMF) (And.intro @ZMy @ZMd))) (And.intro (And.intro @ZMO (And.intro @ZON @ZRb)) (And.intro (And.intro @ZOq @ZMG) (And.intro @ZPL @ZFR))))) (And.intro (And.intro (And.intro (And.intro @ZHv (And.intro @Z0eW @ZOO)) (And.intro (And.intro @ZOQ @ZKz) (And.intro @ZQ5 @Z08S))) (And.intro (And.intro @Z0bf (And.intro @Z07c @Z0ed)) (And.intro (And.intro @Z06O @Z0c3) (And.intro @Z07w @Z084)))) (And.intro (And.intro (And.intro @Z0cL (And.intro @ZPl @ZOI)) (And.intro (And.intro @ZOF @ZOL) (And.intro @ZKK @ZLh))) (And.intro (And.intro (And.intro @Z0dd @Z0dX) (And.intro @Z08a @Z0a6)) (And.intro (And.intro @Z0c7 @Z0jN) (And.intro @Z0jY @b_85))))))
end Go.AM.Ytfmnoohhhokicaa
end
noncomputable section
namespace Go.AM.Rub
def ps (f : Nat → Int) : Nat → Int
 | 0 => 0
 | k + 1 => ps f k + f k
theorem Z07 {f g : Nat → Int} : ∀ n, (∀ i, i < n → f i = g i) → ps f n = ps g n
 | 0, _ => rfl
 | n + 1, h => by simp only [ps]; rw [Z07 n fun i hi => h i (by omega), h n (by omega)]
def ap (a b : Nat → Int) (n : Nat) : Int := ps (fun i => max (a i - b i) 0) n
def DescF (a : Nat → Int) (n : Nat) : Prop := ∀ i, i + 1 < n → a (i + 1) ≤ a i
theorem Zt4 {a : Nat → Int} {n : Nat} (h : DescF a n) : ∀ m i, i + m < n → a (i + m) ≤ a i
 | 0, i, _ => Int.le_refl _
 | m + 1, i, hi => by
   have := Zt4 h m i (by omega)
   have := h (i + m) (by omega)
   rw [show i + (m + 1) = i + m + 1 by omega]; omega
theorem Z2b {a : Nat → Int} {n : Nat} (h : DescF a n) {i j : Nat} (hij : i ≤ j) (hj : j < n) : a j ≤ a i := by
 have := Zt4 h (j - i) i (by omega)
 rwa [show i + (j - i) = j by omega] at this
structure Maj (a b : Nat → Int) (n : Nat) : Prop where
 eq : ps a n = ps b n
 le : ∀ k, k ≤ n → ps b k ≤ ps a k
theorem Maj.refl (a : Nat → Int) (n : Nat) : Maj a a n := ⟨rfl, fun _ _ => Int.le_refl _⟩
theorem Maj.trans {a b c : Nat → Int} {n : Nat} (h1 : Maj a b n) (h2 : Maj b c n) : Maj a c n :=
 ⟨h1.eq.trans h2.eq, fun k hk => Int.le_trans (h2.le k hk) (h1.le k hk)⟩
def mvF (a : Nat → Int) (i j : Nat) (m : Nat) : Int := if m = i then a m - 1 else if m = j then a m + 1 else a m
theorem ZCo {a : Nat → Int} {i j : Nat} (hij : i < j) : ∀ k, ps (mvF a i j) k = ps a k - (if i < k ∧ k ≤ j then 1 else 0)
 | 0 => by simp [ps]
 | k + 1 => by
   simp only [ps, ZCo hij k, mvF]
   by_cases h1 : k = i
   · subst h1
     rw [if_pos rfl, if_neg (by omega), if_pos (by omega)]; omega
   · rw [if_neg h1]
     by_cases h2 : k = j
     · subst h2
       rw [if_pos rfl, if_pos (by omega), if_neg (by omega)]; omega
     · rw [if_neg h2]
       by_cases h3 : i < k ∧ k ≤ j
       · rw [if_pos h3, if_pos (by omega)]; omega
       · rw [if_neg h3, if_neg (by omega)]; omega
theorem ZpH {P : Nat → Prop} [DecidablePred P] : ∀ n, (∃ k, k < n ∧ P k) → ∃ k, k < n ∧ P k ∧ ∀ m, m < k → ¬ P m
 | 0, h => by obtain ⟨k, hk, _⟩ := h; omega
 | n + 1, h => by
   by_cases hx : ∃ k, k < n ∧ P k
   · obtain ⟨k, h1, h2, h3⟩ := ZpH n hx
     exact ⟨k, by omega, h2, h3⟩
   · obtain ⟨k, hk, hp⟩ := h
     have : k = n := by
       by_cases e : k = n
       · exact e
       · exact absurd ⟨k, by omega, hp⟩ hx
     subst this
     exact ⟨k, by omega, hp, fun m hm hpm => hx ⟨m, hm, hpm⟩⟩
theorem ZzV {P : Nat → Prop} [DecidablePred P] : ∀ n, (∃ k, k < n ∧ P k) → ∃ k, k < n ∧ P k ∧ ∀ m, k < m → m < n → ¬ P m
 | 0, h => by obtain ⟨k, hk, _⟩ := h; omega
 | n + 1, h => by
   by_cases hp : P n
   · exact ⟨n, by omega, hp, fun m h1 h2 => by omega⟩
   · obtain ⟨k, hk, hpk⟩ := h
     have hkn : k ≠ n := fun e => hp (e ▸ hpk)
     obtain ⟨k', h1, h2, h3⟩ := ZzV n ⟨k, by omega, hpk⟩
     refine ⟨k', by omega, h2, fun m hm1 hm2 => ?_⟩
     by_cases e : m = n
     · subst e; exact hp
     · exact h3 m hm1 (by omega)
theorem ZCD {a b : Nat → Int} : ∀ n, (∀ i, i < n → b i ≤ a i) → ps b n ≤ ps a n
 | 0, _ => by simp [ps]
 | n + 1, h => by
   have := ZCD n fun i hi => h i (by omega)
   have := h n (by omega)
   simp only [ps]; omega
theorem Z5c {a b : Nat → Int} {i : Nat} : ∀ n, i < n → (∀ m, m < n → b m ≤ a m) → ps b n + (a i - b i) ≤ ps a n
 | 0, hi, _ => by omega
 | n + 1, hi, h => by
   simp only [ps]
   by_cases e : i = n
   · subst e
     have := ZCD i fun m hm => h m (by omega)
     omega
   · have := Z5c (i := i) n (by omega) fun m hm => h m (by omega)
     have := h n (by omega)
     omega
theorem ZPQ {a b : Nat → Int} {n : Nat} (ha : DescF a n) (hb : DescF b n) (h : Maj a b n) (hne : ∃ k, k < n ∧ a k ≠ b k) :
   ∃ i j, i < j ∧ j < n ∧ a i - a j ≥ 2 ∧ DescF (mvF a i j) n ∧ Maj (mvF a i j) b n ∧ ap (mvF a i j) b n = ap a b n - 1 ∧ (∀ m, i < m → m < n → a m < a i) ∧ (∀ m, m < j → a j < a m) := by
 have hlt : ∃ k, k < n ∧ a k < b k := by
   by_cases hx : ∃ k, k < n ∧ a k < b k
   · exact hx
   · have hge : ∀ m, m < n → b m ≤ a m := fun m hm => by
       by_cases e : a m < b m
       · exact absurd ⟨m, hm, e⟩ hx
       · omega
     obtain ⟨k, hk, hk2⟩ := hne
     have := Z5c (i := k) n hk hge
     have := hge k hk
     have := h.eq
     omega
 obtain ⟨j, hj, hjl, hjf⟩ := ZpH n hlt
 have hgt : ∃ k, k < j ∧ b k < a k := by
   by_cases hx : ∃ k, k < j ∧ b k < a k
   · exact hx
   · have hle : ∀ m, m < j → a m ≤ b m := fun m hm => by
       by_cases e : b m < a m
       · exact absurd ⟨m, hm, e⟩ hx
       · omega
     have := ZCD (a := b) (b := a) j hle
     have := h.le (j + 1) (by omega)
     simp only [ps] at this
     omega
 obtain ⟨i, hi, hig, hil⟩ := ZzV j hgt
 have mid : ∀ m, i < m → m < j → a m = b m := fun m h1 h2 => by
   have := hil m h1 h2
   have := hjf m h2
   omega
 have before : ∀ m, m < j → b m ≤ a m := fun m hm => by have := hjf m hm; omega
 have bij : b j ≤ b i := Z2b hb (by omega) hj
 have h2 : a i - a j ≥ 2 := by omega
 have li : ∀ m, i < m → m < n → a m < a i := fun m h1 hm => by
   by_cases e : m < j
   · have := mid m h1 e
     have := Z2b hb (show i ≤ m by omega) hm
     omega
   · have := Z2b ha (show j ≤ m by omega) hm
     omega
 have fj : ∀ m, m < j → a j < a m := fun m hm => by
   by_cases e : i < m
   · have := mid m e hm
     have := Z2b hb (show m ≤ j by omega) hj
     omega
   · have := Z2b ha (show m ≤ i by omega) (by omega)
     omega
 refine ⟨i, j, hi, hj, h2, ?_, ?_, ?_, li, fj⟩
 · intro m hm
   have d := ha m hm
   simp only [mvF]
   by_cases e1 : m + 1 = i
   · rw [if_pos e1, if_neg (by omega), if_neg (by omega)]; omega
   · rw [if_neg e1]
     by_cases e2 : m + 1 = j
     · rw [if_pos e2]
       have := fj m (by omega)
       subst e2
       by_cases e3 : m = i
       · subst e3; rw [if_pos rfl]; omega
       · rw [if_neg e3, if_neg (by omega)]; omega
     · rw [if_neg e2]
       by_cases e3 : m = i
       · subst e3; rw [if_pos rfl]
         have := li (m + 1) (by omega) hm
         omega
       · rw [if_neg e3]
         by_cases e4 : m = j
         · rw [if_pos e4]; omega
         · rw [if_neg e4]; exact d
 · refine ⟨?_, fun k hk => ?_⟩
   · rw [ZCo hi, if_neg (by omega)]; have := h.eq; omega
   · rw [ZCo hi]
     have := h.le k hk
     split
     · rename_i hc
       have := Z5c (a := a) (b := b) (i := i) k (by omega) fun m hm => before m (by omega)
       omega
     · omega
 · have key : ∀ k, k ≤ n → ap (mvF a i j) b k = ap a b k - (if i < k then 1 else 0) := by
     intro k
     induction k with
     | zero => intro _; simp [ap, ps]
     | succ k ih =>
       intro hk
       have ih := ih (by omega)
       simp only [ap, ps] at ih ⊢
       rw [ih]
       have e : mvF a i j k = (if k = i then a k - 1 else if k = j then a k + 1 else a k) := rfl
       rw [e]
       by_cases e1 : k = i
       · subst e1; rw [if_pos rfl, if_neg (by omega), if_pos (by omega)]; omega
       · rw [if_neg e1]
         by_cases e2 : k = j
         · subst e2; rw [if_pos rfl, if_pos (by omega), if_pos (by omega)]; omega
         · rw [if_neg e2]
           by_cases e3 : i < k
           · rw [if_pos e3, if_pos (by omega)]; omega
           · rw [if_neg e3, if_neg (by omega)]; omega
   have := key n (Nat.le_refl _)
   rwa [if_pos (by omega)] at this
theorem Z5G (a b : Nat → Int) : ∀ n, 0 ≤ ap a b n
 | 0 => by simp [ap, ps]
 | n + 1 => by
   have := Z5G a b n
   simp only [ap, ps] at *; omega
theorem ZcY {a b : Nat → Int} : ∀ n, ap a b n = 0 ↔ ∀ k, k < n → a k ≤ b k
 | 0 => by simp [ap, ps]
 | n + 1 => by
   have ih := ZcY (a := a) (b := b) n
   have := Z5G a b n
   simp only [ap, ps] at *
   constructor
   · intro h k hk
     by_cases e : k = n
     · subst e; omega
     · exact ih.1 (by omega) k (by omega)
   · intro h
     have := ih.2 fun k hk => h k (by omega)
     have := h n (by omega)
     omega
theorem ZMC {a b : Nat → Int} {n : Nat} (h : ∀ k, k < n → a k ≤ b k) (he : ps a n = ps b n) : ∀ k, k < n → a k = b k := fun k hk => by
 have := Z5c (a := b) (b := a) (i := k) n hk h
 have := h k hk
 omega
end Go.AM.Rub
end
noncomputable section
namespace Go.AM.Rub
def IsRow : Int → List Int → Prop
 | _, [] => True
 | m, x :: l => 0 ≤ x ∧ x ≤ m ∧ IsRow x l
def totL : List Int → Int
 | [] => 0
 | x :: l => x + totL l
def dnN : Nat → List Int
 | 0 => [0]
 | n + 1 => ((n + 1 : Nat) : Int) :: dnN n
def dn (k : Int) : List Int := if k < 0 then [] else dnN k.toNat
theorem Ze9 : ∀ (n : Nat) (x : Int), x ∈ dnN n ↔ 0 ≤ x ∧ x ≤ n
 | 0, x => by simp [dnN]; omega
 | n + 1, x => by
   simp only [dnN, List.mem_cons, Ze9 n x]
   omega
theorem Zcr (k x : Int) : x ∈ dn k ↔ 0 ≤ x ∧ x ≤ k := by
 unfold dn
 split
 · simp; omega
 · rw [Ze9]; omega
theorem Zaa : ∀ n, (dnN n).length = n + 1
 | 0 => rfl
 | n + 1 => by simp [dnN, Zaa n]
def rowsL : Nat → Int → Int → List (List Int)
 | 0, s, _ => if s = 0 then [[]] else []
 | n + 1, s, m => (dn (min m s)).flatMap fun t => (rowsL n (s - t) t).map (t :: ·)
theorem Z7R : ∀ {m : Int} {l : List Int}, IsRow m l → 0 ≤ totL l
 | _, [], _ => by simp [totL]
 | m, x :: l, ⟨h1, h2, h3⟩ => by have := Z7R h3; simp only [totL]; omega
theorem Z0W : ∀ (n : Nat) (s m : Int) (l : List Int), l ∈ rowsL n s m ↔ l.length = n ∧ totL l = s ∧ IsRow m l
 | 0, s, m, l => by
   simp only [rowsL]
   constructor
   · intro h
     split at h
     · rename_i hs
       have h : l = [] := by simpa using h
       subst h; exact ⟨rfl, by simp [totL, hs], trivial⟩
     · simp at h
   · rintro ⟨h1, h2, h3⟩
     obtain rfl := List.length_eq_zero_iff.1 h1
     simp only [totL] at h2
     rw [if_pos h2.symm]; simp
 | n + 1, s, m, l => by
   simp only [rowsL, List.mem_flatMap, List.mem_map, Zcr]
   constructor
   · rintro ⟨t, ⟨t0, t1⟩, r, hr, rfl⟩
     obtain ⟨h1, h2, h3⟩ := (Z0W n (s - t) t r).1 hr
     exact ⟨by simp [h1], by simp only [totL]; omega, t0, by omega, h3⟩
   · rintro ⟨h1, h2, h3⟩
     match l, h1, h2, h3 with
     | x :: r, h1, h2, ⟨a, b, c⟩ =>
       have := Z7R c
       simp only [totL] at h2
       exact ⟨x, ⟨a, by omega⟩, r, (Z0W n (s - x) x r).2 ⟨by simpa using h1, by omega, c⟩, rfl⟩
def lexGt : List Int → List Int → Prop
 | x :: l, y :: r => x > y ∨ x = y ∧ lexGt l r
 | _, _ => False
theorem Zr6 : ∀ n, (dnN n).Pairwise (· > ·)
 | 0 => by simp [dnN]
 | n + 1 => by
   simp only [dnN]
   refine List.pairwise_cons.2 ⟨fun x hx => ?_, Zr6 n⟩
   have := (Ze9 n x).1 hx
   omega
theorem ZU0 (k : Int) : (dn k).Pairwise (· > ·) := by
 unfold dn
 split
 · simp
 · exact Zr6 _
theorem Zf2 {f : Int → List (List Int)} (hf : ∀ t, (f t).Pairwise lexGt) : ∀ {ts : List Int}, ts.Pairwise (· > ·) → (ts.flatMap fun t => (f t).map (t :: ·)).Pairwise lexGt
 | [], _ => by simp
 | t :: ts, h => by
   obtain ⟨h1, h2⟩ := List.pairwise_cons.1 h
   rw [List.flatMap_cons, List.pairwise_append]
   refine ⟨?_, Zf2 hf h2, fun a ha b hb => ?_⟩
   · rw [List.pairwise_map]
     exact (hf t).imp fun hab => .inr ⟨rfl, hab⟩
   · obtain ⟨r, _, rfl⟩ := List.mem_map.1 ha
     obtain ⟨u, hu, hb⟩ := List.mem_flatMap.1 hb
     obtain ⟨q, _, rfl⟩ := List.mem_map.1 hb
     exact .inl (h1 u hu)
theorem Z9o : ∀ (n : Nat) (s m : Int), (rowsL n s m).Pairwise lexGt
 | 0, s, m => by simp only [rowsL]; split <;> simp
 | n + 1, s, m => Zf2 (fun t => Z9o n (s - t) t) (ZU0 _)
theorem Zoj {β : Type} {f : Int → List β} {M : Nat} : ∀ {ts : List Int}, (∀ t ∈ ts, (f t).length ≤ M) → (ts.flatMap f).length ≤ ts.length * M
 | [], _ => by simp
 | t :: ts, h => by
   have := Zoj (f := f) (M := M) (ts := ts) fun u hu => h u (by simp [hu])
   have := h t (by simp)
   simp only [List.flatMap_cons, List.length_append, List.length_cons, Nat.add_mul, Nat.one_mul]
   omega
theorem Z45 : ∀ (n : Nat) (s m : Int), m ≤ 8 → (rowsL n s m).length ≤ 9 ^ n
 | 0, s, m, _ => by simp only [rowsL]; split <;> simp
 | n + 1, s, m, hm => by
   simp only [rowsL]
   refine Nat.le_trans (Zoj (M := 9 ^ n) fun t ht => ?_) ?_
   · rw [List.length_map]
     have := (Zcr _ _).1 ht
     exact Z45 n (s - t) t (by omega)
   · rw [Nat.pow_succ, Nat.mul_comm (9 ^ n)]
     refine Nat.mul_le_mul_right _ ?_
     unfold dn
     split
     · simp
     · rw [Zaa]; omega
def rowF (l : List Int) (i : Nat) : Int := l.getD i 0
theorem Z3o (x : Int) (l : List Int) : ∀ k, ps (rowF (x :: l)) (k + 1) = x + ps (rowF l) k
 | 0 => by simp [ps, rowF]
 | k + 1 => by rw [ps, Z3o x l k, ps]; simp [rowF]; omega
theorem Z0S : ∀ l : List Int, ps (rowF l) l.length = totL l
 | [] => rfl
 | x :: l => by rw [List.length_cons, Z3o, Z0S l]; rfl
theorem Z1n : ∀ {m : Int} {l : List Int}, IsRow m l → DescF (rowF l) l.length
 | _, [], _ => fun i hi => by simp at hi
 | m, x :: l, ⟨h1, h2, h3⟩ => fun i hi => by
   cases i with
   | zero =>
     cases l with
     | nil => simp at hi
     | cons y l => simp only [rowF]; simp; exact h3.2.1
   | succ i =>
     have := Z1n h3 i (by simpa using hi)
     simpa [rowF] using this
end Go.AM.Rub
end
noncomputable section
namespace Go.AM.Rub
theorem Z2i : ∀ {m : Int} {l : List Int}, (∀ i, i < l.length → 0 ≤ rowF l i) → (0 < l.length → rowF l 0 ≤ m) → DescF (rowF l) l.length → IsRow m l
 | _, [], _, _, _ => trivial
 | m, x :: l, h1, h2, h3 => by
   refine ⟨h1 0 (by simp), h2 (by simp), Z2i (fun i hi => ?_) (fun hl => ?_) (fun i hi => ?_)⟩
   · have := h1 (i + 1) (by simpa using hi); simpa [rowF] using this
   · have := h3 0 (by simpa using hl); simpa [rowF] using this
   · have := h3 (i + 1) (by simpa using hi); simpa [rowF] using this
theorem ZJ : ∀ {m : Int} {l : List Int}, IsRow m l → ∀ i, i < l.length → 0 ≤ rowF l i ∧ rowF l i ≤ m
 | _, [], _, i, hi => by simp at hi
 | m, x :: l, ⟨h1, h2, h3⟩, i, hi => by
   cases i with
   | zero => simp only [rowF]; simp; exact ⟨h1, h2⟩
   | succ i =>
     have := ZJ h3 i (by simpa using hi)
     have e : rowF (x :: l) (i + 1) = rowF l i := by simp [rowF]
     rw [e]; omega
theorem Z4C {a b : List Int} (hl : a.length = b.length) (h : ∀ i, i < a.length → rowF a i = rowF b i) : a = b := by
 apply List.ext_getElem hl
 intro i h1 h2
 have := h i h1
 simpa [rowF, h1, h2] using this
def mvL (l : List Int) (i j : Nat) : List Int := (l.set i (rowF l i - 1)).set j (rowF l j + 1)
theorem Z1v (l : List Int) (i j : Nat) : (mvL l i j).length = l.length := by simp [mvL]
theorem Z2f {l : List Int} {i j : Nat} (hij : i < j) (hj : j < l.length) (m : Nat) : rowF (mvL l i j) m = mvF (rowF l) i j m := by
 simp only [mvL, mvF]
 have e : ∀ (l : List Int) (k m : Nat) (v : Int), k < l.length → rowF (l.set k v) m = if m = k then v else rowF l m := by
   intro l k m v hk
   simp only [rowF, List.getD_eq_getElem?_getD, List.getElem?_set]
   by_cases h : k = m
   · subst h; simp [hk]
   · rw [if_neg h, if_neg (by omega)]
 rw [e _ _ _ _ (by simp; omega), e _ _ _ _ (by omega)]
 by_cases h1 : m = j
 · rw [if_pos h1, if_neg (by omega), if_pos h1, h1]
 · rw [if_neg h1, if_neg h1]
   by_cases h2 : m = i
   · rw [if_pos h2, if_pos h2, h2]
   · rw [if_neg h2, if_neg h2]
def lastEq (l : List Int) : Nat → Nat → Nat
 | i, 0 => i
 | i, m + 1 => if i + 1 < l.length ∧ rowF l (i + 1) = rowF l i then lastEq l (i + 1) m else i
def firstEq (l : List Int) : Nat → Nat
 | 0 => 0
 | j + 1 => if rowF l j = rowF l (j + 1) then firstEq l j else j + 1
theorem Z7X {l : List Int} (hd : DescF (rowF l) l.length) : ∀ (m i : Nat), i + m + 1 ≥ l.length → i < l.length → i ≤ lastEq l i m ∧ lastEq l i m < l.length ∧ rowF l (lastEq l i m) = rowF l i ∧ ∀ k, lastEq l i m < k → k < l.length → rowF l k < rowF l i
 | 0, i, h1, h2 => ⟨Nat.le_refl _, h2, rfl, fun k hk hk2 => by simp only [lastEq] at hk; omega⟩
 | m + 1, i, h1, h2 => by
   simp only [lastEq]
   by_cases h : i + 1 < l.length ∧ rowF l (i + 1) = rowF l i
   · rw [if_pos h]
     obtain ⟨a, b, c, d⟩ := Z7X hd m (i + 1) (by omega) h.1
     exact ⟨by omega, b, by rw [c, h.2], fun k hk hk2 => by rw [← h.2]; exact d k hk hk2⟩
   · rw [if_neg h]
     refine ⟨Nat.le_refl _, h2, rfl, fun k hk hk2 => ?_⟩
     have h3 : ¬ rowF l (i + 1) = rowF l i := fun e => h ⟨by omega, e⟩
     have h4 := hd i (by omega)
     have h5 := Z2b hd (show i + 1 ≤ k by omega) hk2
     omega
theorem Z5K {l : List Int} (hd : DescF (rowF l) l.length) : ∀ j, j < l.length → firstEq l j ≤ j ∧ rowF l (firstEq l j) = rowF l j ∧ ∀ k, k < firstEq l j → rowF l j < rowF l k
 | 0, _ => ⟨Nat.le_refl _, rfl, fun k hk => by simp only [firstEq] at hk; omega⟩
 | j + 1, hj => by
   simp only [firstEq]
   by_cases h : rowF l j = rowF l (j + 1)
   · rw [if_pos h]
     obtain ⟨a, b, c⟩ := Z5K hd j (by omega)
     exact ⟨by omega, by rw [b, h], fun k hk => by rw [← h]; exact c k hk⟩
   · rw [if_neg h]
     refine ⟨Nat.le_refl _, rfl, fun k hk => ?_⟩
     have h4 := hd j hj
     have h5 := Z2b hd (show k ≤ j by omega) (by omega)
     omega
def rubL (l : List Int) (i j : Nat) : List Int := mvL l (lastEq l i l.length) (firstEq l j)
structure Rw (n : Nat) (l : List Int) : Prop where
 len : l.length = n
 row : IsRow 8 l
theorem Z09s {n : Nat} {l : List Int} (h : Rw n l) {i j : Nat} (hij : i < j) (hj : j < n) (h2 : rowF l i - rowF l j ≥ 2) (hd : DescF (mvF (rowF l) i j) n) : Rw n (mvL l i j) := by
 have hl := h.len
 refine ⟨by rw [Z1v, hl], Z2i (fun k hk => ?_) (fun hk => ?_) (fun k hk => ?_)⟩
 · rw [Z1v] at hk
   rw [Z2f hij (by omega)]
   have a := ZJ h.row k hk
   have b := ZJ h.row j (by omega)
   simp only [mvF]
   by_cases e1 : k = i
   · rw [if_pos e1, e1]; omega
   · rw [if_neg e1]; split <;> omega
 · rw [Z2f hij (by omega)]
   have a := ZJ h.row 0 (by omega)
   have b := ZJ h.row i (by omega)
   simp only [mvF]
   by_cases e1 : 0 = i
   · rw [if_pos e1]; omega
   · rw [if_neg e1, if_neg (by omega)]; omega
 · rw [Z1v, hl] at hk
   rw [Z2f hij (by omega), Z2f hij (by omega)]
   exact hd k hk
structure Rb (n : Nat) (l : List Int) (i j : Nat) : Prop where
 lt : i < j
 lj : j < n
 df : rowF l i - rowF l j ≥ 2
theorem ZID {a a' b b' : Nat → Int} {n : Nat} (ha : ∀ i, i < n → a i = a' i) (hb : ∀ i, i < n → b i = b' i) (h : Maj a b n) : Maj a' b' n := by
 refine ⟨?_, fun k hk => ?_⟩
 · rw [← Z07 n ha, ← Z07 n hb]; exact h.eq
 · rw [← Z07 k fun i hi => ha i (by omega), ← Z07 k fun i hi => hb i (by omega)]; exact h.le k hk
theorem ZLj {a a' b b' : Nat → Int} {n : Nat} (ha : ∀ i, i < n → a i = a' i) (hb : ∀ i, i < n → b i = b' i) : ap a b n = ap a' b' n :=
 Z07 n fun i hi => by rw [ha i hi, hb i hi]
def MajL (a b : List Int) : Prop := Maj (rowF a) (rowF b) a.length
def apL (a b : List Int) : Nat := (ap (rowF a) (rowF b) a.length).toNat
theorem Z8d (a b : List Int) : (apL a b : Int) = ap (rowF a) (rowF b) a.length := by
 have := Z5G (rowF a) (rowF b) a.length
 unfold apL; omega
theorem ZHX {n : Nat} {a b : List Int} (ha : Rw n a) (hb : Rw n b) (h : MajL a b) (hne : a ≠ b) :
   ∃ i j, Rb n a i j ∧ Rw n (mvL a i j) ∧ MajL (mvL a i j) b ∧ apL a b = apL (mvL a i j) b + 1 ∧ rubL a i j = mvL a i j := by
 have la := ha.len
 have lb := hb.len
 have hx : ∃ k, k < n ∧ rowF a k ≠ rowF b k := by
   by_cases e : ∃ k, k < n ∧ rowF a k ≠ rowF b k
   · exact e
   · refine absurd (Z4C (by omega) fun i hi => ?_) hne
     by_cases e2 : rowF a i = rowF b i
     · exact e2
     · exact absurd ⟨i, by omega, e2⟩ e
 have da := Z1n ha.row
 have db := Z1n hb.row
 unfold MajL at h
 rw [la] at da h
 rw [lb] at db
 obtain ⟨i, j, h1, h2, h3, h4, h5, h6, h7, h8⟩ := ZPQ da db h hx
 have r : Rb n a i j := ⟨h1, h2, h3⟩
 have hj : j < a.length := by omega
 refine ⟨i, j, r, Z09s ha h1 h2 h3 h4, ?_, ?_, ?_⟩
 · unfold MajL
   rw [Z1v, la]
   exact ZID (fun k _ => (Z2f h1 hj k).symm) (fun _ _ => rfl) h5
 · have c1 := Z8d a b
   have c2 := Z8d (mvL a i j) b
   rw [Z1v] at c2
   have e : ap (rowF (mvL a i j)) (rowF b) a.length = ap (mvF (rowF a) i j) (rowF b) n := by rw [la]; exact ZLj (fun k _ => Z2f h1 hj k) (fun _ _ => rfl)
   rw [la] at c1 c2 e
   omega
 · obtain ⟨a1, a2, a3, a4⟩ := Z7X (Z1n ha.row) a.length i (by omega) (by omega)
   obtain ⟨b1, b2, b3⟩ := Z5K (Z1n ha.row) j (by omega)
   have e1 : lastEq a i a.length = i := by
     by_cases e : lastEq a i a.length = i
     · exact e
     · have := h7 (lastEq a i a.length) (by omega) (by omega); omega
   have e2 : firstEq a j = j := by
     by_cases e : firstEq a j = j
     · exact e
     · have := h8 (firstEq a j) (by omega); omega
   rw [rubL, e1, e2]
end Go.AM.Rub
end
noncomputable section
namespace Go.AM.Ytfmnoohhhokicaa
open Go Go.AM Go.AM.Rub
def pF (d : Nat) : Callee := callF E fr fg 1000000 d
def kF (d : Nat) : Callee := frC fr (pF d)
theorem pF_s (d : Nat) : pF (d + 1) = bodyA E (kF d) fg 1000000 := nf
theorem ZW {d : Nat} {f : FuncId} (hf : fr f = false) (args : List AV) (H : AHeap) (B : Nat) : kF (d + 1) f args H B = bodyA E (kF d) fg 1000000 f args H B := by
 unfold kF frC
 rw [hf]
 rfl
theorem Zii {d : Nat} {f : FuncId} (hf : fr f = true) (args : List AV) (H : AHeap) (B : Nat) : kF d f args H B = focus (pF d) f args H B (mark H 1000 (refsL args) []).reverse := by
 unfold kF frC
 rw [hf]
theorem Z3j {d : Nat} {f : FuncId} {args : List AV} {v : AV} (hf : fr f = false) (h : rsOf (bodyA E (kF d) fg 1000000 f args [] 0) = some v) : ∃ H', kF (d + 1) f args [] 0 = some (v, H') := by
 rw [ZW hf]; exact ZRz h
theorem loopM {E0 : AHeap} {f : St → XR} (st : Nat → St) (n : Nat) (h : ∀ i, i < n → ∃ s', f (st i) = some (.normal, s') ∧ headA E0 s' = st (i + 1)) (h0 : headA E0 (st 0) = st 0) (hn : n < 1000000) {e : Ex} {se : St} (he : f (st n) = some (e, se)) (hne : e ≠ .normal) :
   iterA f (headA E0) 1000000 (st 0) = some (e, se) :=
 Z5r st n 1000000 0 (st 0) h0 hn (fun i _ h2 => h i (by omega)) (by rw [Nat.zero_add]; exact he) hne
theorem loopMS {E0 : AHeap} {f : St → XR} {s0 : St} (st : Nat → St) (n : Nat) (h : ∀ i, i < n → ∃ s', f (st i) = some (.normal, s') ∧ headA E0 s' = st (i + 1)) (h0 : headA E0 s0 = st 0) (hn : n < 1000000) {e : Ex} {se : St} (he : f (st n) = some (e, se)) (hne : e ≠ .normal) :
   iterA f (headA E0) 1000000 s0 = some (e, se) :=
 Z5r st n 1000000 0 s0 h0 hn (fun i _ h2 => h i (by omega)) (by rw [Nat.zero_add]; exact he) hne
theorem Za4 {E0 : AHeap} {f : St → XR} {s0 : St} (h0 : headA E0 s0 = s0) {e : Ex} {se : St} (he : f s0 = some (e, se)) (hne : e ≠ .normal) : iterA f (headA E0) 1000000 s0 = some (e, se) :=
 loopM (fun _ => s0) 0 (fun i hi => by omega) h0 (by omega) he hne
def IV (l : List Int) (a : AV) : Prop := (l = [] ∧ a = .nilsl) ∨ ∃ ex, a = .imm (ics l) l.length ex
theorem ZI {l : List Int} {a : AV} (h : IV l a) (n : Nat) : snap (n + 1) a = .pure (a, []) := by
 rcases h with ⟨_, rfl⟩ | ⟨e, rfl⟩ <;> rfl
theorem Z0M {l : List Int} {a : AV} (h : IV l a) (h0 : 0 < l.length) : ∃ ex, a = .imm (ics l) l.length ex := by
 rcases h with ⟨rfl, _⟩ | h
 · simp at h0
 · exact h
theorem ZmN (l : List Int) (ex : Bool) : IV l (.imm (ics l) l.length ex) := .inr ⟨ex, rfl⟩
theorem Zdk {l : List Int} {k : Nat} (h : k < l.length) : l[k]? = some (rowF l k) := by
 simp [rowF, h]
theorem ZR {l : List Int} {k : Nat} (h : k < l.length) : (ics l)[k]? = some (.int .i64 (rowF l k)) := Z1F (Zdk h)
theorem rw_b {n : Nat} {l : List Int} (h : Rw n l) {k : Nat} (hk : k < n) : 0 ≤ rowF l k ∧ rowF l k ≤ 8 := ZJ h.row k (by rw [h.len]; exact hk)
theorem Zgh {C : Callee} {site : Nat → Nat} {seen : List Nat} {f : FuncId} {args : List AV} {id m c sz gl : Nat} {k : IntKind} {z : Int} {cells : List AV} {H' : AHeap} (h : C f args [] 0 = some (.tup [.ref id 0 m c gl sz false, .int k z], H')) (hg : hget H' id = some ⟨.row, cells⟩) (hl : cells.length = gl) :
   aBack site true seen (thaw C f args [] 0) = Z0I (site 0) seen (fun j => .tup [.ref j 0 m c gl sz false, .int k z]) ⟨.row, cells⟩ := by
 subst hl
 simp only [thaw, h, frzRet, aBack, sitesB, aBackAt, imp, imps, hg, List.length_nil, List.not_mem_nil, not_false_eq_true, and_true, if_true, List.map_cons, List.map_nil, AM.apart, List.elem_nil, Bool.not_false, Bool.and_true, AV.leads, AV.leads.leadsL, Bool.or_false, Z0I]
theorem Z23 {n : Nat} (h : n ≤ 1000000) : roomOk E.T 3 n = true := by
 simp only [roomOk, T_3, decide_eq_true_eq]; exact ⟨by decide, rfl, by omega⟩
theorem Z14 {k n : Nat} (h : 0 < n) : oV k 1 n = .ref k 0 n n n 1 false := by
 obtain ⟨m, rfl⟩ : ∃ m, n = m + 1 := ⟨n - 1, by omega⟩
 simp only [oV, Nat.mul_one]
theorem Z3p {k : Nat} {l : List Int} (h : 0 < l.length) : oH k (ics l) = [(k, ⟨.row, ics l⟩)] := ZRy k (by rw [Z5]; exact h)
theorem ZcR (k sz : Nat) : oV k sz 0 = .nilsl := rfl
theorem Z9z {E0 : AHeap} {φ : AFr} {H : AHeap} (h : ∀ p ∈ H, (hget E0 p.1).isSome = true) : headA E0 (φ, H) = (φ, H) := by
 have key : ∀ (keep : List Nat) (H : AHeap), (∀ p ∈ H, (hget E0 p.1).isSome = true) → keepB E0 keep H = H := by
   intro keep H
   induction H with
   | nil => intro _; rfl
   | cons p t ih =>
     intro h
     obtain ⟨i, b⟩ := p
     simp only [keepB, h _ (List.mem_cons_self ..), Bool.or_true, cond_true, ih fun q hq => h q (List.mem_cons_of_mem _ hq)]
 simp only [headA, key _ H h, gcIf]
 split <;> rfl
theorem Z82 : ∀ n, repC [.int .i64 0] n = ics (List.replicate n 0)
 | 0 => rfl
 | n + 1 => by rw [repC, Z82 n]; rfl
def RL (C : Callee) (f : FuncId) (args : List AV) (e : Int) (l : List Int) : Prop :=
 (e ≠ 0 ∧ ∀ (site : Nat → Nat) seen, aBack site true seen (thaw C f args [] 0) = .pure (.tup [.nilsl, .int .i64 e], [])) ∨
 (e = 0 ∧ ∀ (site : Nat → Nat) seen, aBack site true seen (thaw C f args [] 0) = Z0I (site 0) seen (fun k => .tup [.ref k 0 l.length l.length l.length 1 false, .int .i64 0]) ⟨.row, ics l⟩)
theorem ZgA {C : Callee} {f : FuncId} {args : List AV} {e : Int} {l : List Int} {n : Nat} (h : (e ≠ 0 ∧ ∃ H, C f args [] 0 = some (.tup [.nilsl, .int .i64 e], H)) ∨ (e = 0 ∧ ∃ g H, C f args [] 0 = some (.tup [.ref g 0 n n n 1 false, .int .i64 0], H) ∧ hget H g = some ⟨.row, ics l⟩)) (hl : l.length = n) : RL C f args e l := by
 subst hl
 rcases h with ⟨h0, h⟩ | ⟨h0, g, H, h, hg⟩
 · exact .inl ⟨h0, fun site seen => Z24 h⟩
 · exact .inr ⟨h0, fun site seen => Zgh h hg (Z5 l)⟩
def fe (e : Nat → Int) : Nat → Nat → Int
 | _, 0 => 0
 | k, m + 1 => if e k = 0 then fe e (k + 1) m else e k
theorem Z7C {e : Nat → Int} : ∀ (m k : Nat), fe e k m = 0 ↔ ∀ i, k ≤ i → i < k + m → e i = 0
 | 0, k => by simp only [fe, true_iff]; intro i h1 h2; omega
 | m + 1, k => by
   simp only [fe]
   split
   · rename_i h
     rw [Z7C m (k + 1)]
     exact ⟨fun hh i h1 h2 => if hi : i = k then by rw [hi]; exact h else hh i (by omega) (by omega), fun hh i h1 h2 => hh i (by omega) (by omega)⟩
   · rename_i h
     exact ⟨fun hh => absurd hh h, fun hh => absurd (hh k (Nat.le_refl _) (by omega)) h⟩
theorem loopE {E0 : AHeap} {f : St → XR} {e : Nat → Int} {R : Int → AHeap → St} {x : Ex} {se : St} (st : Nat → St) (n : Nat) (h0 : headA E0 (st 0) = st 0) (hn : n < 1000000) (hx : x ≠ .normal)
   (hgo : ∀ i, i < n → (∀ j, j < i → e j = 0) → e i = 0 → ∃ s', f (st i) = some (.normal, s') ∧ headA E0 s' = st (i + 1)) (hbad : ∀ i, i < n → (∀ j, j < i → e j = 0) → e i ≠ 0 → ∃ H, f (st i) = some (.ret, R (e i) H)) (hend : (∀ j, j < n → e j = 0) → f (st n) = some (x, se)) :
   (fe e 0 n = 0 ∧ iterA f (headA E0) 1000000 (st 0) = some (x, se)) ∨ (fe e 0 n ≠ 0 ∧ ∃ H, iterA f (headA E0) 1000000 (st 0) = some (.ret, R (fe e 0 n) H)) := by
 have key : ∀ (m k F : Nat) (s0 : St), k + m = n → (∀ j, j < k → e j = 0) → headA E0 s0 = st k → m < F → (fe e k m = 0 ∧ iterA f (headA E0) F s0 = some (x, se)) ∨ (fe e k m ≠ 0 ∧ ∃ H, iterA f (headA E0) F s0 = some (.ret, R (fe e k m) H)) := by
   intro m
   induction m with
   | zero =>
     intro k F s0 hk hz hs hF
     obtain ⟨F, rfl⟩ : ∃ G, F = G + 1 := ⟨F - 1, by omega⟩
     rw [Nat.add_zero] at hk
     subst hk
     refine .inl ⟨rfl, ?_⟩
     rw [Z28, hs, hend hz]
     cases x with
     | normal => exact absurd rfl hx
     | ret => rfl
     | exit i => rfl
   | succ m ih =>
     intro k F s0 hk hz hs hF
     obtain ⟨F, rfl⟩ : ∃ G, F = G + 1 := ⟨F - 1, by omega⟩
     simp only [fe]
     by_cases h : e k = 0
     · obtain ⟨s', h1, h2⟩ := hgo k (by omega) hz h
       rw [if_pos h, Z28, hs, h1, Z7Y]
       refine ih (k + 1) F s' (by omega) (fun j hj => ?_) h2 (by omega)
       by_cases hjk : j = k
       · rw [hjk]; exact h
       · exact hz j (by omega)
     · rw [if_neg h]
       obtain ⟨H, hH⟩ := hbad k (by omega) hz h
       refine .inr ⟨h, H, ?_⟩
       rw [Z28, hs, hH]
       rfl
 exact key n 0 1000000 (st 0) (by omega) (fun j hj => by omega) h0 (by omega)
end Go.AM.Ytfmnoohhhokicaa
end
noncomputable section
namespace Go.AM
open Go Go.RowKit Go.ChangeShapes Go.WideShapes
noncomputable section
variable {H : Type} {enc : TypeId × Value → H} {P : Program} {w : World} {base : Nat} {spare : Nat → Bool} {held : Bool}
theorem Z8k {t : TypeId} {k : IntKind} {v : Value} {b : Nat} {r : Reach} (ht : P.underlying t = some (.int k)) (hv : Value.okWide P w r b t v) : ∃ z, v = .int k z := by
 unfold Value.okWide at hv
 rw [ht] at hv
 simp only [Cell.okWide, ht] at hv
 unfold Cell.ok at hv
 rw [ht] at hv
 cases v <;> simp only at hv <;> try exact hv.elim
 exact ⟨_, by rw [hv.1]⟩
theorem ZmL (b o n : Nat) : (⟨b, o, none⟩ : Addr).add n = ⟨b, o + n, none⟩ := by
 unfold Addr.add
 split
 · rename_i h; subst h; rfl
 · rfl
theorem ZH5 {n : Nat} {a : Addr} {cs : List Value} (h : w.cells? base a n = some cs) : cs.length = n ∧ ∀ j, j < n → w.cell? (a.add j) = cs[j]? := by
 unfold World.cells? at h
 split at h
 · have hl := mapM_some_length h
   refine ⟨by simpa using hl, fun j hj => ?_⟩
   exact mapM_some_get h j j (by simp [hj])
 · exact absurd h (by simp)
theorem ZBt {t e : TypeId} {sz : Nat} {v : Value} {fuel : Nat} {x : DataW H × List MemPlace} {b0 : Nat} {r : Reach} (ht : P.underlying t = some (.slice e)) (hsz : P.cellsOf e = sz)
   (hel : ∀ (n : Nat) (cs : List Value) (x : DataW H × List MemPlace), cs.length = sz → DataW.trod enc P w base spare held n e cs = some x → ∃ zs : List Int, cs = zs.map (Value.int .i64))
   (hv : Cell.okWide P w r b0 t v) (h : DataW.trod enc P w base spare held fuel t [v] = some x) :
   v = .slice none 0 0 ∨ ∃ (b o len cap : Nat) (zs : List Int), v = .slice (some ⟨b, o, none⟩) len cap ∧ len ≤ cap ∧ b < w.heap.size ∧ zs.length = len * sz ∧ ∀ (i : Nat) (z : Int), zs[i]? = some z → w.cell? ⟨b, o + i, none⟩ = some (.int .i64 z) := by
 simp only [Cell.okWide, ht] at hv
 unfold Cell.ok at hv
 rw [ht] at hv
 cases v <;> simp only at hv <;> try exact hv.elim
 rename_i a len cap
 cases a with
 | none =>
   left
   split at hv <;> first | rfl | (rename_i h1 h2; simp at h2; done) | exact hv.elim | simp_all
 | some a =>
   right
   obtain ⟨h1, _, _, hspot, row, cells, hshape, _⟩ := hv
   obtain ⟨b, o, sp⟩ := a
   simp only at hspot hshape
   subst hspot
   have hb : b < w.heap.size := by
     unfold World.shape? at hshape
     split at hshape
     · rename_i hh; exact (Array.getElem?_eq_some_iff.1 hh).1
     · exact absurd hshape (by simp)
   rcases DataW.trod_slice ht h with ⟨hc, _⟩ | ⟨a', len', cap', elems, rest, n, _, hc, _, _, hle, _, hlen, hget, _⟩
   · simp at hc
   · simp only [List.cons.injEq, Value.slice.injEq, Option.some.injEq, and_true] at hc
     obtain ⟨rfl, rfl, rfl⟩ := hc
     rw [hsz] at hget
     have key : ∀ m, m ≤ len → ∃ zs : List Int, zs.length = m * sz ∧ ∀ (i : Nat) (z : Int), zs[i]? = some z → w.cell? ⟨b, o + i, none⟩ = some (.int .i64 z) := by
       intro m
       induction m with
       | zero => intro _; exact ⟨[], by simp, fun i z h => by simp at h⟩
       | succ m ih =>
         intro hm
         obtain ⟨zs, hz1, hz2⟩ := ih (by omega)
         have hg := hget m (by omega)
         rw [List.getElem?_eq_getElem (by omega)] at hg
         obtain ⟨cs, hc1, hc2⟩ := Option.bind_eq_some_iff.1 hg
         obtain ⟨hcl, hcg⟩ := ZH5 hc1
         obtain ⟨ys, hys⟩ := hel n cs _ hcl hc2
         have hyl : ys.length = sz := by rw [← hcl, hys]; simp
         refine ⟨zs ++ ys, by rw [List.length_append, hz1, hyl, Nat.succ_mul], fun i z hi => ?_⟩
         by_cases hlt : i < zs.length
         · rw [List.getElem?_append_left hlt] at hi
           exact hz2 i z hi
         · rw [List.getElem?_append_right (by omega)] at hi
           have hj : i - zs.length < sz := by rw [← hyl]; exact (List.getElem?_eq_some_iff.1 hi).1
           have := hcg (i - zs.length) hj
           rw [ZmL, ZmL, hys, List.getElem?_map, hi] at this
           rw [show o + i = o + m * sz + (i - zs.length) by omega]
           simpa using this
     obtain ⟨zs, hz1, hz2⟩ := key len (Nat.le_refl _)
     exact ⟨b, o, len, cap, zs, rfl, h1, hb, hz1, hz2⟩
theorem ZrA {n : Nat} {e : TypeId} {cs : List Value} {x : DataW H × List MemPlace} (he : P.underlying e = some (.int .i64)) (h : DataW.trod enc P w base spare held n e cs = some x) : ∃ zs : List Int, cs = zs.map (Value.int .i64) := by
 obtain ⟨z, rfl, _⟩ := DataW.trod_int he h
 exact ⟨[z], rfl⟩
theorem ZN2 {fz : Nat → Prop} {rf : RFt} {b o len cap : Nat} {zs : List Int} (h1 : len ≤ cap) (hb : fz b) (hz : ∀ (i : Nat) (z : Int), zs[i]? = some z → w.cell? ⟨b, o + i, none⟩ = some (.int .i64 z)) :
   VR fz w (.imm (zs.map (AV.int .i64)) len false) rf (.slice (some ⟨b, o, none⟩) len cap) := by
 simp only [VR]
 refine ⟨b, o, cap, rfl, h1, fun h => by simp at h, .inr ⟨hb, ?_⟩⟩
 rw [Z1s]
 intro i a hi
 rw [List.getElem?_map] at hi
 cases hz1 : zs[i]? with
 | none => rw [hz1] at hi; simp at hi
 | some z =>
   rw [hz1] at hi
   simp only [Option.map_some, Option.some.injEq] at hi
   subst hi
   exact ⟨_, hz i z hz1, rfl, by simp only [VR]⟩
end
end Go.AM
namespace Go.AM.Ytfmnoohhhokicaa
open Go Go.AM Go.RowKit Go.Proofs Go.Proofs.Ytfmnoohhhokicaa Go.ChangeShapes Go.WideShapes Go.ChangeAt Go.AM.Rub
theorem Z03M : Try.prog.cellsOf 3 = 1 := by kernel_rfl
noncomputable section
variable {H : Type} {enc : TypeId × Value → H} {W : World}
theorem ZvR {v : Value} {d : DataW H} {ps : List MemPlace} {b0 : Nat} {r : Reach} (hv : Value.okWide Try.prog W r b0 22 v) (h : DataW.Trod enc Try.prog W 0 (fun _ => true) true 22 v d ps) :
   ∃ a l, IV l a ∧ (start (fun k => k < W.heap.size) W).R a v := by
 unfold Value.okWide at hv
 rw [Try.underlying22] at hv
 simp only at hv
 obtain ⟨fuel, h⟩ := h
 have hc : v.cells.toList = [v] := by
   simp only [Cell.okWide, Try.underlying22] at hv
   unfold Cell.ok at hv
   rw [Try.underlying22] at hv
   cases v <;> simp only at hv <;> first | exact hv.elim | rfl
 rw [hc] at h
 rcases ZBt (sz := 1) Try.underlying22 Z03M (fun n cs x hl hx => ZrA Try.underlying3 hx) hv h with rfl | ⟨b, o, len, cap, zs, rfl, h1, h2, h3, h4⟩
 · exact ⟨.nilsl, [], .inl ⟨rfl, rfl⟩, by simp only [Gh.R, VR]⟩
 · have hl : zs.length = len := by omega
   refine ⟨.imm (ics zs) zs.length false, zs, .inr ⟨false, rfl⟩, ?_⟩
   rw [hl]
   exact ZN2 h1 h2 h4
end
end Go.AM.Ytfmnoohhhokicaa
end
end
