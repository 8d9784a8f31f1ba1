/- A part of the proof of rubFlat_holds: RoH. Own work of this project; texts printed by own programs among it. -/
import Derived.Carry
import Derived.KernelRfl
import Derived.Test.YtfmnoohhhokicaaWvG
set_option maxRecDepth 1000000
set_option maxHeartbeats 16000000
noncomputable section
noncomputable section
namespace Go.AM
open Go Go.RowKit Go.ChangeShapes
noncomputable section
variable {H : Type} {enc : TypeId × Value → H} {P : Program} {w : World} {base : Nat} {spare : Nat → Bool} {held : Bool}
theorem ZpG {t : TypeId} {v : Value} {d : DataW H} {ps : List MemPlace} (h : DataW.Trod enc P w base spare held t v d ps) : ∀ x ∈ ps, x.block < w.heap.size := by
 obtain ⟨n, h⟩ := h
 exact DataW.trod_lt n t _ _ h
theorem _root_.Go.RowKit.Below.trod' {t : TypeId} (hl : laidOutB P = true) (hr : P.readableRec t = true) (hrow : t < P.types.size) {W W' : World} {v : Value} {d : DataW H} {ps : List MemPlace} (hb : Below W.heap.size W W')
   (h : DataW.Trod enc P W 0 (fun _ => true) true t v d ps) : DataW.Trod enc P W' 0 (fun b => decide (b < W.heap.size)) true t v d ps :=
 Below.trod hl hr hrow h hb (ZpG h)
theorem ZIN {t : TypeId} {v : Value} {b : Nat} {r : Reach} (ht : P.underlying t = some (.int .u8)) (hv : Cell.okWide P w r b t v) : ∃ z, v = .int .u8 z ∧ 0 ≤ z ∧ z ≤ 255 := by
 simp only [Cell.okWide, ht] at hv
 unfold Cell.ok at hv
 rw [ht] at hv
 cases v <;> simp only at hv <;> try exact hv.elim
 rename_i k z
 obtain ⟨rfl, h1, h2⟩ := hv
 exact ⟨z, rfl, h1, h2⟩
theorem Zjh {t : TypeId} {v : Value} {b : Nat} {r : Reach} (ht : P.underlying t = some (.int .u8)) (hv : Value.okWide P w r b t v) : ∃ z, v = .int .u8 z ∧ 0 ≤ z ∧ z ≤ 255 := by
 unfold Value.okWide at hv
 rw [ht] at hv
 exact ZIN ht hv
end
end Go.AM
end
noncomputable section
namespace Go.AM
theorem nrfl {α : Type} {a b : α} (h : a = b) : a = b := h
theorem nf {α : Type} {a : α} : a = a := nrfl rfl
def kL : Code → Code
 | .seq a _ => a
 | c => c
def kR : Code → Code
 | .seq _ b => b
 | c => c
def kT : Code → Code
 | .cond _ t _ => t
 | c => c
def kE : Code → Code
 | .cond _ _ e => e
 | c => c
def kB : Code → Code
 | .block _ b => b
 | .loop b => b
 | .scope b => b
 | c => c
def kO : Code → Array Oper
 | .region _ ops _ => ops
 | _ => #[]
def kBody (f : Func) : Code := f.body.getD .skip
def opN (ops : Array Oper) (i : Nat) : Oper := ops.toList.getD i ⟨none, .move (.tmp 0), 0, "", #[], none⟩
abbrev XR := Option (Ex × St)
def seqX (r : XR) (k : St → XR) : XR :=
 match r with
 | some (.normal, s) => k s
 | r => r
def bindR (r : Option St) (k : St → Option St) : Option St :=
 match r with
 | some s => k s
 | none => none
def regX (r : Option St) (k : St → St) : XR :=
 match r with
 | some s => some (.normal, k s)
 | none => none
def condX (v : AV) (t e : XR) : XR :=
 match v with
 | .bool true => t
 | .bool false => e
 | _ => none
def blockX (id : Nat) (k : St → St) (r : XR) : XR :=
 match r with
 | some (.exit i, s) => match Nat.beq i id with
   | true => some (.normal, k s)
   | false => some (.exit i, s)
 | some (.normal, s) => some (.normal, k s)
 | r => r
def fset : AFr → Nat → AV → AFr
 | [], _, _ => []
 | (k, a) :: t, i, b => if k = i then (k, b) :: t else (k, a) :: fset t i b
def gd (φ : AFr) (k : Nat) (want : Bool) (no yes : AFr → Option St) : Option St :=
 match fget φ k with
 | .bool b => if b = want then yes (fset φ k (.bool want)) else no (fset φ k (.bool !want))
 | .tup _ => no φ
 | _ => none
def putD (d : Option Nat) (φ : AFr) (v : AV) : AFr :=
 match d with
 | some d => fput φ d v
 | none => φ
def stp (d : Option Nat) (φ : AFr) (H : AHeap) (r : Rd (AV × Ups)) : Option St :=
 match r.run H with
 | some (v, us) => some (putD d φ v, upds H us)
 | none => none
def mutX (d : Option Nat) (φ : AFr) (r : Option (AV × AHeap)) : Option St :=
 match r with
 | some (v, H) => some (putD d φ v, H)
 | none => none
def callV (E : Env) (C : Callee) (Bn : Nat) (d : Option Nat) (site : Nat → Nat) (φ : AFr) (H : AHeap) (f : AV) (args : List AV) (keep : Bool) : Option St :=
 match mutV E f args with
 | some (g, asx) => mutX d φ (C g asx H Bn)
 | none => stp d φ H (opCallV E C site keep f args)
def bodyX (E : Env) (rs : List ResultVar) (r : XR) : Option (AV × AHeap) :=
 match r with
 | some (.normal, s) => match resA E s rs with
   | some v => some (v, s.2)
   | none => none
 | some (.ret, s) => match resA E s rs with
   | some v => some (v, s.2)
   | none => none
 | _ => none
noncomputable section
variable {E : Env} {C : Callee} {fg : Nat → List Nat} {B n N : Nat} {E0 : AHeap}
theorem Z0 {c a b : Code} (h : c = .seq a b) (s : St) : execA E C fg B n E0 N c s = seqX (execA E C fg B n E0 N a s) (execA E C fg B n E0 N b) := by
 subst h; simp only [execA, seqX]; rfl
theorem Zp {c : Code} (h : c = .skip) (s : St) : execA E C fg B n E0 N c s = some (.normal, s) := by subst h; simp only [execA]
theorem Zs {c : Code} (h : c = .ret) (s : St) : execA E C fg B n E0 N c s = some (.ret, s) := by subst h; simp only [execA]
theorem Z07 {c : Code} {id} (h : c = .exit id) (s : St) : execA E C fg B n E0 N c s = some (.exit id, s) := by subst h; simp only [execA]
theorem Z2 {c : Code} {id ops} {l : List Nat} (h : c = .region id ops false) (hl : fg id = l) (s : St) : execA E C fg B n E0 N c s = regX (runA E C B n ops ops.toList s) (fun s => gcM E0 l (forget s.1 l, s.2)) := by
 subst h; subst hl; simp only [execA, regA, regX]
 split <;> rename_i h <;> simp only [h]
theorem Z1Z {c : Code} {id ops} {l : List Nat} (h : c = .region id ops true) (hl : fg id = l) (s : St) : execA E C fg B n E0 N c s = regX (drawA E C B n ops s) (fun s => gcM E0 l (forget s.1 l, s.2)) := by
 subst h; subst hl; simp only [execA, regA, regX]
 split <;> rename_i h <;> simp only [h]
theorem Zn {c : Code} {x t e} (h : c = .cond x t e) (s : St) : execA E C fg B n E0 N c s = condX (evO E s.1 x) (execA E C fg B n E0 N t s) (execA E C fg B n E0 N e s) := by
 subst h; simp only [execA, condX]; rfl
theorem Zk {c : Code} {id b} {l : List Nat} (h : c = .block id b) (hl : fg (id + 1000000) = l) (s : St) : execA E C fg B n E0 N c s = blockX id (fun s => (forget s.1 l, s.2)) (execA E C fg B n E0 N b s) := by
 subst h; subst hl; simp only [execA, blockX]; rfl
theorem Z0a {c : Code} {b} (h : c = .loop b) (s : St) : execA E C fg B n E0 N c s = iterA (execA E C fg B n E0 N b) (headA E0) N s := by
 subst h; simp only [execA]
theorem Z5v : ∀ (φ : AFr) (i : Nat), fset φ i (fget φ i) = φ
 | [], _ => rfl
 | (k, a) :: t, i => by
   simp only [fset, ZcY]
   cases h : Nat.beq k i
   · rw [if_neg (Nat.ne_of_beq_eq_false h)]
     simp only [cond_false]
     rw [Z5v t i]
   · rw [if_pos (Nat.eq_of_beq_eq_true h)]; rfl
theorem s_gd {ops : Array Oper} {o oj : Oper} {j dj : Nat} {want : Bool} {φ : AFr} {H : AHeap} {no yes : AFr → Option St} (hg : o.guard = some (j, want)) (hj : ops[j]? = some oj) (hd : oj.dst = some dj) (hn : ∀ φ, fin n o φ (.tup []) H = no φ) (hy : ∀ φ, goA E C B n o (φ, H) = yes φ) :
   stepA E C B n ops o (φ, H) = gd φ dj want no yes := by
 simp only [stepA, hg, wantA, hj, hd, gd]
 have hs := Z5v φ dj
 cases h : fget φ dj <;> simp only [hn, hy]
 rename_i b
 rw [h] at hs
 cases b <;> cases want <;> simp [hs]
theorem ZIU (ops : Array Oper) (s : St) : runA E C B n ops [] s = some s := rfl
theorem Zv3 (ops : Array Oper) (o : Oper) (os : List Oper) (s : St) : runA E C B n ops (o :: os) s = bindR (stepA E C B n ops o s) (runA E C B n ops os) := by
 simp only [runA, bindR]; rfl
theorem Zw {fgf : FuncId → Nat → List Nat} {f : FuncId} {nt : Nat} {rs : Array ResultVar} {c : Code} (h : fInfo E f = some ⟨nt, rs, c⟩) (args : List AV) (H : AHeap) :
   bodyA E C fgf N f args H B = bodyX E rs.toList (execA E C (fgf f) B nt H N c (Z3 args 0 [], H)) := by
 simp only [bodyA, h, bodyX]; rfl
@[simp] theorem Z5b (s : St) (k) : seqX (some (.normal, s)) k = k s := rfl
@[simp] theorem Zwa (s : St) (k) : seqX (some (.ret, s)) k = some (.ret, s) := rfl
@[simp] theorem ZqC (i) (s : St) (k) : seqX (some (.exit i, s)) k = some (.exit i, s) := rfl
@[simp] theorem Zrn (k) : seqX none k = none := rfl
@[simp] theorem ZvG (p : Prop) [Decidable p] (a b : XR) (k) : seqX (if p then a else b) k = if p then seqX a k else seqX b k := by split <;> rfl
@[simp] theorem Zoo (k) : bindR none k = none := rfl
@[simp] theorem Zrt (p : Prop) [Decidable p] (a b) (k) : bindR (if p then a else b) k = if p then bindR a k else bindR b k := by split <;> rfl
@[simp] theorem Zsz (k) : regX none k = none := rfl
@[simp] theorem Zuu (p : Prop) [Decidable p] (a b) (k) : regX (if p then a else b) k = if p then regX a k else regX b k := by split <;> rfl
@[simp] theorem Zqf (b : Bool) (t e : XR) : condX (.bool b) t e = if b = true then t else e := by cases b <;> rfl
@[simp] theorem Zh6 (id : Nat) (k) (i : Nat) (s : St) : blockX id k (some (.exit i, s)) = if i = id then some (.normal, k s) else some (.exit i, s) := by
 simp only [blockX]
 split <;> rename_i h
 · rw [if_pos (Nat.eq_of_beq_eq_true h)]
 · rw [if_neg (Nat.ne_of_beq_eq_false h)]
@[simp] theorem Z9t (id : Nat) (k) (s : St) : blockX id k (some (.normal, s)) = some (.normal, k s) := rfl
@[simp] theorem ZoF (id : Nat) (k) (s : St) : blockX id k (some (.ret, s)) = some (.ret, s) := rfl
@[simp] theorem Zh7 (id : Nat) (k) : blockX id k none = none := rfl
@[simp] theorem Zph (id : Nat) (k) (p : Prop) [Decidable p] (a b) : blockX id k (if p then a else b) = if p then blockX id k a else blockX id k b := by split <;> rfl
theorem ZvS (i : Nat) (b : AV) : fset [] i b = [] := rfl
theorem ZsH (k : Nat) (a : AV) (t : AFr) (i : Nat) (b : AV) : fset ((k, a) :: t) i b = if k = i then (k, b) :: t else (k, a) :: fset t i b := rfl
@[simp] theorem ZtJ (rs) (p : Prop) [Decidable p] (a b) : bodyX E rs (if p then a else b) = if p then bodyX E rs a else bodyX E rs b := by split <;> rfl
theorem Zss (rs) (s : St) : bodyX E rs (some (.ret, s)) = (resA E s rs).map fun v => (v, s.2) := by
 simp only [bodyX]; cases resA E s rs <;> rfl
theorem Zg0 (rs) (s : St) : bodyX E rs (some (.normal, s)) = (resA E s rs).map fun v => (v, s.2) := by
 simp only [bodyX]; cases resA E s rs <;> rfl
theorem ZsV (d : Nat) (φ : AFr) (v : AV) : putD (some d) φ v = fput φ d v := rfl
theorem ZrS (φ : AFr) (v : AV) : putD none φ v = φ := rfl
theorem Z1n (f : St → XR) (hd : St → St) (k : Nat) (s : St) : iterA f hd (k + 1) s = seqX (f (hd s)) (iterA f hd k) := by
 simp only [iterA, seqX]; rfl
theorem Z3L {f : St → XR} {hd : St → St} (st : Nat → St) : ∀ (n F k : Nat) (s0 : St), hd s0 = st k → n < F →
   (∀ i, k ≤ i → i < k + n → ∃ s', f (st i) = some (.normal, s') ∧ hd s' = st (i + 1)) → ∀ {e : Ex} {se : St}, f (st (k + n)) = some (e, se) → e ≠ .normal → iterA f hd F s0 = some (e, se)
 | 0, F + 1, k, s0, h0, _, _, e, se, he, hn => by
   rw [Z1n, h0]
   rw [Nat.add_zero] at he
   rw [he]
   cases e with
   | normal => exact absurd rfl hn
   | ret => rfl
   | exit i => rfl
 | n + 1, F + 1, k, s0, h0, hF, h, e, se, he, hn => by
   obtain ⟨s', h1, h2⟩ := h k (Nat.le_refl _) (by omega)
   rw [Z1n, h0, h1, Z5b]
   refine Z3L st n F (k + 1) s' h2 (by omega) (fun i h3 h4 => h i (by omega) (by omega)) (e := e) (se := se) ?_ hn
   rw [show k + 1 + n = k + (n + 1) by omega]
   exact he
 | _, 0, _, _, _, hF, _, _, _, _, _ => absurd hF (by omega)
theorem Z0E {site : Nat → Nat} {seen : List Nat} {f : FuncId} {args : List AV} {r : AV} {H' : AHeap} (h : C f args [] 0 = some (r, H')) (ht : frzRet H' r = some (r, H')) (hi : ∀ site, imp H' site 200 r [] [] = some (r, [], [])) (hl : r.leads = false) :
   aBack site true seen (thaw C f args [] 0) = .pure (r, []) := by
 simp only [thaw, h, ht, aBack, sitesB, freeOff, allFree, aBackAt, hi, List.map_nil, AM.apart, if_true, freeAll, Rd.bind, hl]
theorem Z44 {site : Nat → Nat} {seen : List Nat} {f : FuncId} {args : List AV} {k : IntKind} {z : Int} (h : ∃ H', C f args [] 0 = some (.int k z, H')) : aBack site true seen (thaw C f args [] 0) = .pure (.int k z, []) := by
 obtain ⟨H', h⟩ := h; exact Z0E h rfl (fun _ => rfl) rfl
theorem Z1p {site : Nat → Nat} {seen : List Nat} {f : FuncId} {args : List AV} {b : Bool} (h : ∃ H', C f args [] 0 = some (.bool b, H')) : aBack site true seen (thaw C f args [] 0) = .pure (.bool b, []) := by
 obtain ⟨H', h⟩ := h; exact Z0E h rfl (fun _ => rfl) rfl
theorem Zot {site : Nat → Nat} {seen : List Nat} {f : FuncId} {args : List AV} {k k' : IntKind} {z z' : Int} (h : ∃ H', C f args [] 0 = some (.tup [.int k z, .int k' z'], H')) : aBack site true seen (thaw C f args [] 0) = .pure (.tup [.int k z, .int k' z'], []) := by
 obtain ⟨H', h⟩ := h; exact Z0E h rfl (fun _ => rfl) rfl
theorem ZLH {k : IntKind} {z : Int} (h1 : kLo k ≤ z) (h2 : z ≤ kHi k) : wrp k z = z := by
 simp only [wrp, if_pos (And.intro h1 h2)]
theorem Z9 {z : Int} (h : -9223372036854775808 ≤ z ∧ z ≤ 9223372036854775807) : wrp .i64 z = z := ZLH h.1 h.2
theorem ZV {k : Nat} (h : k < 1000000) : wrp .i64 ((k : Int) + 1) = ((k + 1 : Nat) : Int) := by
 rw [Z9 (by omega)]; rfl
abbrev rsOf (r : Option (AV × AHeap)) : Option AV := r.map (·.1)
theorem ZJv (p : Prop) [Decidable p] (a b : Option (AV × AHeap)) : rsOf (if p then a else b) = if p then rsOf a else rsOf b := by split <;> rfl
theorem ZCr (v : AV) (H : AHeap) : rsOf (some (v, H)) = some v := rfl
theorem ZSk (p : Prop) [Decidable p] (k : IntKind) (a b : Int) : (if p then some (AV.int k a) else some (AV.int k b)) = some (AV.int k (if p then a else b)) := by split <;> rfl
theorem ZNv (p : Prop) [Decidable p] (a b : Bool) : (if p then some (AV.bool a) else some (AV.bool b)) = some (AV.bool (if p then a else b)) := by split <;> rfl
theorem ZKn (p : Prop) [Decidable p] (k l : IntKind) (a b c d : Int) : (if p then some (AV.tup [AV.int k a, AV.int l c]) else some (AV.tup [AV.int k b, AV.int l d])) = some (AV.tup [AV.int k (if p then a else b), AV.int l (if p then c else d)]) := by split <;> rfl
theorem ZqF (p : Prop) [Decidable p] (l : IntKind) (a b : Bool) (c d : Int) : (if p then some (AV.tup [AV.bool a, AV.int l c]) else some (AV.tup [AV.bool b, AV.int l d])) = some (AV.tup [AV.bool (if p then a else b), AV.int l (if p then c else d)]) := by split <;> rfl
theorem Zz1 {r : Option (AV × AHeap)} {v : AV} (h : rsOf r = some v) : ∃ H', r = some (v, H') := by
 cases r with
 | none => exact absurd h (by simp)
 | some x => obtain ⟨a, H⟩ := x; simp at h; exact ⟨H, by rw [h]⟩
theorem ZSN (E0 : AHeap) (s : St) : gcM E0 [] s = s := rfl
theorem ZRb (E0 : AHeap) (a : Nat) (l : List Nat) (s : St) : gcM E0 (a :: l) s = if a = 999999 then headA E0 s else s := by
 by_cases h : a = 999999
 · subst h; rfl
 · rw [if_neg h]; unfold gcM; split
   · rename_i e; exact absurd (List.cons.inj e).1 h
   · rfl
theorem Zxi (i : Nat) : fget [] i = .any := rfl
theorem ZpZ (k : Nat) (a : AV) (t : AFr) (i : Nat) : fget ((k, a) :: t) i = if k = i then a else fget t i := by
 simp only [ZcY]
 cases h : Nat.beq k i
 · rw [if_neg (Nat.ne_of_beq_eq_false h)]; rfl
 · rw [if_pos (Nat.eq_of_beq_eq_true h)]; rfl
theorem ZvT (i : Nat) (b : AV) : fput [] i b = [(i, b)] := rfl
theorem ZoK (k : Nat) (c : AV) (t : AFr) (i : Nat) (b : AV) : fput ((k, c) :: t) i b = if k = i then (i, b) :: t else if i ≤ k then (k, c) :: fput t i b else (i, b) :: (k, c) :: t := by
 simp only [Z0e]
 cases h : Nat.beq k i
 · rw [if_neg (Nat.ne_of_beq_eq_false h)]
   simp only [cond_false]
   cases h2 : Nat.ble i k
   · rw [if_neg (by intro h3; rw [Nat.ble_eq_true_of_le h3] at h2; exact absurd h2 (by simp))]; rfl
   · rw [if_pos (Nat.le_of_ble_eq_true h2)]; rfl
 · rw [if_pos (Nat.eq_of_beq_eq_true h)]; rfl
theorem ZpE (l : List Nat) : forget [] l = [] := rfl
theorem Zcd (k : Nat) (a : AV) (t : AFr) (l : List Nat) : forget ((k, a) :: t) l = if l.elem k = true then forget t l else (k, a) :: forget t l := by
 simp only [Z5w]; cases l.elem k <;> rfl
theorem Zrr (i : Nat) : hget [] i = none := rfl
theorem Zj (k : Nat) (b : Blk) (t : AHeap) (i : Nat) : hget ((k, b) :: t) i = if k = i then some b else hget t i := by
 simp only [Z6B]
 cases h : Nat.beq k i
 · rw [if_neg (Nat.ne_of_beq_eq_false h)]; rfl
 · rw [if_pos (Nat.eq_of_beq_eq_true h)]; rfl
theorem Zl (i : Nat) (b : Blk) : hset [] i b = [(i, b)] := rfl
theorem Zi (k : Nat) (c : Blk) (t : AHeap) (i : Nat) (b : Blk) : hset ((k, c) :: t) i b = if k = i then (i, b) :: t else if k ≤ i then (k, c) :: hset t i b else (i, b) :: (k, c) :: t := by
 simp only [ZcC]
 cases h : Nat.beq k i
 · rw [if_neg (Nat.ne_of_beq_eq_false h)]
   simp only [cond_false]
   cases h2 : Nat.ble k i
   · rw [if_neg (by intro h3; rw [Nat.ble_eq_true_of_le h3] at h2; exact absurd h2 (by simp))]; rfl
   · rw [if_pos (Nat.le_of_ble_eq_true h2)]; rfl
 · rw [if_pos (Nat.eq_of_beq_eq_true h)]; rfl
theorem ZpO (i gl : Nat) : Rd.liveBlk i gl = .get i fun
   | some b => if gl = b.cells.length then (match b.st with | .mp => .fail | _ => .pure b) else .fail
   | none => .fail := by
 simp only [Rd.liveBlk]
 congr 1
 funext b
 cases b with
 | none => rfl
 | some b =>
   simp only
   cases h : Nat.beq gl b.cells.length
   · rw [if_neg (Nat.ne_of_beq_eq_false h)]; rfl
   · rw [if_pos (Nat.eq_of_beq_eq_true h)]; rfl
theorem ZkZ (k t o : Nat) : freeOff [k] (t + 1) o = .get (k + o) fun
   | none => .pure o
   | some _ => freeOff [k] t (o + 1048576) := by
 rw [freeOff]
 generalize freeOff [k] t (o + 1048576) = z
 simp only [List.map_cons, List.map_nil, allFree, Rd.bind]
 congr 1
 funext b
 cases b <;> rfl
theorem fo6 (k : Nat) : freeOff [k] 6 0 = .get k fun
   | none => .pure 0
   | some _ => freeOff [k] 5 1048576 := by
 have := ZkZ k 5 0
 rw [Nat.add_zero, Nat.zero_add] at this
 exact this
theorem fo5 (k : Nat) : freeOff [k] 5 1048576 = .get (k + 1048576) fun
   | none => .pure 1048576
   | some _ => freeOff [k] 4 2097152 := by
 have := ZkZ k 4 1048576
 simp only [Nat.reduceAdd] at this
 exact this
theorem ZoN (φ : AFr) (H : AHeap) (h : refsF φ = []) : headA [] (φ, H) = (φ, []) := by
 have h1 : ∀ H : AHeap, keepB [] [] H = [] := by
   intro H
   induction H with
   | nil => rfl
   | cons p t ih => obtain ⟨i, b⟩ := p; simp only [keepB, ZM, List.elem_nil, Option.isSome_none, Bool.or_false, cond_false, ih]
 simp only [headA, h, mark, h1, gcIf, closedB, allHeld, closedH, Bool.and_true]
theorem ZqT (E0 : AHeap) (φ : AFr) : headA E0 (φ, []) = (φ, []) := by
 simp only [headA, keepB, gcIf]; split <;> rfl
def stepT (E : Env) (C : Callee) (B n : Nat) (ops : Array Oper) (o : Oper) (s : St) : Option (St × Tr) := (stepA E C B n ops o s).map fun s' => (s', trA E C B n ops o s)
def goT (E : Env) (C : Callee) (B n : Nat) (o : Oper) (s : St) : Option (St × Tr) := (goA E C B n o s).map fun s' => (s', trG E C B n o s)
def trS (r : Rd (AV × Ups)) (H : AHeap) : Tr :=
 match r.run H with
 | some (_, us) => ⟨false, r.foot H, us.map (·.1)⟩
 | none => ⟨true, [], []⟩
def stpT (d : Option Nat) (φ : AFr) (H : AHeap) (r : Rd (AV × Ups)) : Option (St × Tr) :=
 match r.run H with
 | some (v, us) => some ((putD d φ v, upds H us), ⟨false, r.foot H, us.map (·.1)⟩)
 | none => none
def trV (E : Env) (C : Callee) (site : Nat → Nat) (H : AHeap) (f : AV) (args : List AV) (keep : Bool) : Tr :=
 match mutV E f args with
 | some _ => ⟨true, [], []⟩
 | none => trS (opCallV E C site keep f args) H
def callVT (E : Env) (C : Callee) (Bn : Nat) (d : Option Nat) (site : Nat → Nat) (φ : AFr) (H : AHeap) (f : AV) (args : List AV) (keep : Bool) : Option (St × Tr) :=
 match mutV E f args with
 | some (g, asx) => (mutX d φ (C g asx H Bn)).map fun s => (s, ⟨true, [], []⟩)
 | none => stpT d φ H (opCallV E C site keep f args)
def gdT (φ : AFr) (k : Nat) (want : Bool) (no yes : AFr → Option (St × Tr)) : Option (St × Tr) :=
 match fget φ k with
 | .bool b => if b = want then yes (fset φ k (.bool want)) else no (fset φ k (.bool !want))
 | .tup _ => no φ
 | _ => none
theorem Zc {o : Oper} {φ : AFr} {H : AHeap} {d} {R : Rd (AV × Ups)} (h : goA E C B n o (φ, H) = stp d φ H R) (ht : trG E C B n o (φ, H) = trS R H) : goT E C B n o (φ, H) = stpT d φ H R := by
 simp only [goT, h, ht, stp, stpT, trS]
 cases R.run H <;> rfl
theorem Ze {o : Oper} {φ : AFr} {H : AHeap} {s'} (h : goA E C B n o (φ, H) = some s') (ht : trG E C B n o (φ, H) = ⟨false, [], []⟩) : goT E C B n o (φ, H) = some (s', ⟨false, [], []⟩) := by
 simp only [goT, h, ht, Option.map_some]
theorem Zoq {o : Oper} {φ : AFr} {H : AHeap} {Bn d site f args keep} (h : goA E C B n o (φ, H) = callV E C Bn d site φ H f args keep) (ht : trG E C B n o (φ, H) = trV E C site H f args keep) :
   goT E C B n o (φ, H) = callVT E C Bn d site φ H f args keep := by
 simp only [goT, h, ht, callV, callVT, trV]
 cases mutV E f args with
 | none =>
   simp only [stp, stpT, trS]
   cases (opCallV E C site keep f args).run H <;> rfl
 | some x => rfl
theorem Z5 {ops : Array Oper} {o : Oper} {s : St} {x} (hg : o.guard = none) (h : goT E C B n o s = x) : stepT E C B n ops o s = x := by
 rw [← h]; simp only [stepT, goT, stepA, trA, hg]
theorem ZL {ops : Array Oper} {o oj : Oper} {j dj : Nat} {want : Bool} {φ : AFr} {H : AHeap} {no : AFr → Option St} {yes : AFr → Option (St × Tr)} (hg : o.guard = some (j, want)) (hj : ops[j]? = some oj) (hd : oj.dst = some dj) (hn : ∀ φ, fin n o φ (.tup []) H = no φ) (hy : ∀ φ, goT E C B n o (φ, H) = yes φ) :
   stepT E C B n ops o (φ, H) = gdT φ dj want (fun φ => (no φ).map fun s => (s, ⟨false, [], []⟩)) yes := by
 have hs := Z5v φ dj
 simp only [stepT, stepA, trA, hg, wantA, hj, hd, gdT]
 cases h : fget φ dj with
 | bool b =>
   rw [h] at hs
   cases b <;> cases want <;> simp only [hs, beq_self_eq_true, if_true, Bool.not_true, Bool.not_false, hn, ← hy, goT] <;> rfl
 | tup l => simp only [hn]
 | _ => rfl
theorem Zqt {f : AV} {args : List AV} (h : mutV E f args = none) (Bn : Nat) (d : Option Nat) (site) (φ H) (keep) : callVT E C Bn d site φ H f args keep = stpT d φ H (opCallV E C site keep f args) := by
 simp only [callVT, h]
def rtX (n i : Nat) (r : Option (St × Tr)) (k : St → Option (St × List (Nat × Tr))) : Option (St × List (Nat × Tr)) :=
 match r with
 | some (s', t) => match neat n s' with
   | true => match k s' with
     | some (s2, l) => some (s2, (i, t) :: l)
     | none => none
   | false => none
 | none => none
theorem Zw6 (ops : Array Oper) (i : Nat) (s : St) : runT E C B n ops [] i s = some (s, []) := rfl
theorem ZrU (ops : Array Oper) (o : Oper) (os : List Oper) (i : Nat) (s : St) : runT E C B n ops (o :: os) i s = rtX n i (stepT E C B n ops o s) (runT E C B n ops os (i + 1)) := by
 simp only [runT, stepT, rtX]
 cases stepA E C B n ops o s with
 | none => rfl
 | some s' =>
   simp only [Option.map_some]
   cases neat n s' <;> rfl
def addT (i : Nat) (t : Tr) (r : Option (St × List (Nat × Tr))) : Option (St × List (Nat × Tr)) :=
 match r with
 | some (s2, l) => some (s2, (i, t) :: l)
 | none => none
theorem ZwE (i : Nat) (s' : St) (t : Tr) (k) : rtX n i (some (s', t)) k = if neat n s' = true then addT i t (k s') else none := by
 simp only [rtX, addT]; cases neat n s' <;> rfl
theorem Zyn (i : Nat) (k) : rtX n i none k = none := rfl
theorem ZHx (i : Nat) (p : Prop) [Decidable p] (a b) (k) : rtX n i (if p then a else b) k = if p then rtX n i a k else rtX n i b k := by split <;> rfl
theorem Zta (i : Nat) (t : Tr) (s l) : addT i t (some (s, l)) = some (s, (i, t) :: l) := rfl
theorem Ztf (i : Nat) (t : Tr) : addT i t none = none := rfl
theorem Zwl (i : Nat) (t : Tr) (p : Prop) [Decidable p] (a b) : addT i t (if p then a else b) = if p then addT i t a else addT i t b := by split <;> rfl
def drX (ops : Array Oper) (r : Option (St × List (Nat × Tr))) : Option St :=
 match r with
 | some (s', l) => if dynOk ops l = true then some s' else none
 | none => none
theorem ZxW (ops : Array Oper) (s' l) : drX ops (some (s', l)) = if dynOk ops l = true then some s' else none := rfl
theorem ZwJ (ops : Array Oper) : drX ops none = none := rfl
theorem ZDE (ops : Array Oper) (p : Prop) [Decidable p] (a b) : drX ops (if p then a else b) = if p then drX ops a else drX ops b := by split <;> rfl
theorem Z1h {ops : Array Oper} (h : statOk ops = true) (s : St) : drawA E C B n ops s = if neat n s = true then drX ops (runT E C B n ops ops.toList 0 s) else none := by
 simp only [drawA, h, drX]
 cases neat n s with
 | false => rfl
 | true =>
   simp only [if_true]
   cases runT E C B n ops ops.toList 0 s with
   | none => rfl
   | some x =>
     obtain ⟨s', l⟩ := x
     simp only
     cases dynOk ops l <;> rfl
theorem Z0K {ops : Array Oper} {an : List (List Nat)} (h : ancs ops.toList [] = an) (l) : dynOk ops l = (!writing l || Zd an (Zb l)) := by simp only [dynOk, h]
theorem ZBu (n : Nat) (φ : AFr) (H : AHeap) : neat n (φ, H) = (descF n φ && ascH 0 H) := rfl
theorem Zpo (h : Nat) : descF h [] = true := rfl
theorem Zhb (hi k : Nat) (a : AV) (t : AFr) : descF hi ((k, a) :: t) = (decide (k + 1 ≤ hi) && descF k t) := by
 simp only [Z1v]; congr 1
 cases h : Nat.ble (k + 1) hi
 · rw [eq_comm, decide_eq_false_iff_not]; intro h2; rw [Nat.ble_eq_true_of_le h2] at h; exact absurd h (by simp)
 · rw [eq_comm, decide_eq_true_eq]; exact Nat.le_of_ble_eq_true h
theorem ZtZ (h : Nat) : ascH h [] = true := rfl
theorem ZoM (lo k : Nat) (a : Blk) (t : AHeap) : ascH lo ((k, a) :: t) = (decide (lo ≤ k) && ascH (k + 1) t) := by
 simp only [Z1O]; congr 1
 cases h : Nat.ble lo k
 · rw [eq_comm, decide_eq_false_iff_not]; intro h2; rw [Nat.ble_eq_true_of_le h2] at h; exact absurd h (by simp)
 · rw [eq_comm, decide_eq_true_eq]; exact Nat.le_of_ble_eq_true h
end
end Go.AM
end
noncomputable section
namespace Go.AM
def Z0g (k : Nat) (seen : List Nat) (r : Nat → AV) (b : Blk) : Rd (AV × Ups) :=
 (freeOff [k] 6 0).bind fun off => (freeAll [k + off]).bind fun _ => (frz seen).bind fun us => .pure (r (k + off), us ++ [(k + off, b)])
theorem ZdI (k : Nat) (seen : List Nat) (r : Nat → AV) (b : Blk) : ∃ no : Blk → Rd (AV × Ups), Z0g k seen r b = .get k fun
   | none => .get k fun
     | none => (frz seen).bind fun us => .pure (r k, us ++ [(k, b)])
     | some _ => .fail
   | some b => no b := by
 refine ⟨fun _ => (freeOff [k] 5 1048576).bind fun off => (freeAll [k + off]).bind fun _ => (frz seen).bind fun us => .pure (r (k + off), us ++ [(k + off, b)]), ?_⟩
 simp only [Z0g, freeOff, List.map_cons, List.map_nil, allFree, Rd.bind, Nat.add_zero]
 congr 1
 funext x
 cases x with
 | none =>
   simp only [Rd.bind, freeAll, Nat.add_zero]
   congr 1
   funext y
   cases y <;> rfl
 | some _ => rfl
theorem Zsa {k : Nat} {seen : List Nat} {r : Nat → AV} {b : Blk} {H : AHeap} (h : hget H k = none) : (Z0g k seen r b).run H = ((frz seen).bind fun us => .pure (r k, us ++ [(k, b)])).run H := by
 obtain ⟨no, e⟩ := ZdI k seen r b
 rw [e]; simp only [Rd.run, h]
theorem Zp1 {k : Nat} {seen : List Nat} {r : Nat → AV} {b : Blk} {H : AHeap} (h : hget H k = none) : (Z0g k seen r b).foot H = k :: k :: ((frz seen).bind fun us => .pure (r k, us ++ [(k, b)])).foot H := by
 obtain ⟨no, e⟩ := ZdI k seen r b
 rw [e]; simp only [Rd.foot, h]
def ZqQ (k : Nat) (seen : List Nat) (r : Nat → AV) (b : Blk) : Rd (AV × Ups) := Z0g k seen r b
theorem ZHL {k : Nat} {seen : List Nat} {r : Nat → AV} {b : Blk} {H : AHeap} : (Z0g k seen r b).run H = match hget H k with
   | none => ((frz seen).bind fun us => .pure (r k, us ++ [(k, b)])).run H
   | some _ => (ZqQ k seen r b).run H := by
 cases h : hget H k with
 | none => exact Zsa h
 | some _ => rfl
theorem ZDQ {k : Nat} {seen : List Nat} {r : Nat → AV} {b : Blk} {H : AHeap} : (Z0g k seen r b).foot H = match hget H k with
   | none => k :: k :: ((frz seen).bind fun us => .pure (r k, us ++ [(k, b)])).foot H
   | some _ => (ZqQ k seen r b).foot H := by
 cases h : hget H k with
 | none => exact Zp1 h
 | some _ => rfl
def Zb2 (k0 k1 : Nat) (seen : List Nat) (r : Nat → Nat → AV) (b0 b1 : Blk) : Rd (AV × Ups) :=
 (freeOff [k1, k0] 6 0).bind fun off => (freeAll [k1 + off, k0 + off]).bind fun _ => (frz seen).bind fun us => .pure (r (k0 + off) (k1 + off), us ++ [(k1 + off, b1), (k0 + off, b0)])
def Zrj (k0 k1 : Nat) (seen : List Nat) (r : Nat → Nat → AV) (b0 b1 : Blk) : Rd (AV × Ups) := Zb2 k0 k1 seen r b0 b1
theorem Zwk (k0 k1 : Nat) (seen : List Nat) (r : Nat → Nat → AV) (b0 b1 : Blk) : ∃ no no' : Blk → Rd (AV × Ups), Zb2 k0 k1 seen r b0 b1 = .get k1 fun
   | none => .get k0 fun
     | none => .get k1 fun
       | none => .get k0 fun
         | none => (frz seen).bind fun us => .pure (r k0 k1, us ++ [(k1, b1), (k0, b0)])
         | some _ => .fail
       | some _ => .fail
     | some b => no b
   | some b => no' b := by
 refine ⟨fun _ => (freeOff [k1, k0] 5 1048576).bind fun off => (freeAll [k1 + off, k0 + off]).bind fun _ => (frz seen).bind fun us => .pure (r (k0 + off) (k1 + off), us ++ [(k1 + off, b1), (k0 + off, b0)]),
   fun _ => (freeOff [k1, k0] 5 1048576).bind fun off => (freeAll [k1 + off, k0 + off]).bind fun _ => (frz seen).bind fun us => .pure (r (k0 + off) (k1 + off), us ++ [(k1 + off, b1), (k0 + off, b0)]), ?_⟩
 simp only [Zb2, freeOff, List.map_cons, List.map_nil, allFree, Rd.bind, Nat.add_zero]
 congr 1
 funext x
 cases x with
 | some _ => rfl
 | none =>
   simp only [Rd.bind]
   congr 1
   funext y
   cases y with
   | some _ => rfl
   | none =>
     simp only [Rd.bind, freeAll, Nat.add_zero]
     congr 1
     funext x
     cases x with
     | some _ => rfl
     | none =>
       simp only [Rd.bind]
       congr 1
       funext y
       cases y <;> rfl
theorem ZGm {k0 k1 : Nat} {seen : List Nat} {r : Nat → Nat → AV} {b0 b1 : Blk} {H : AHeap} : (Zb2 k0 k1 seen r b0 b1).run H = match hget H k1 with
   | none => match hget H k0 with
     | none => ((frz seen).bind fun us => .pure (r k0 k1, us ++ [(k1, b1), (k0, b0)])).run H
     | some _ => (Zrj k0 k1 seen r b0 b1).run H
   | some _ => (Zrj k0 k1 seen r b0 b1).run H := by
 cases h : hget H k1 with
 | some _ => rfl
 | none =>
   cases h2 : hget H k0 with
   | some _ => rfl
   | none =>
     obtain ⟨no, no', e⟩ := Zwk k0 k1 seen r b0 b1
     rw [e]; simp only [Rd.run, h, h2]
theorem Z3Z {C : Callee} {site : Nat → Nat} {seen : List Nat} {f : FuncId} {args : List AV} {k' : IntKind} {z' : Int} (h : ∃ H', C f args [] 0 = some (.tup [.nilsl, .int k' z'], H')) : aBack site true seen (thaw C f args [] 0) = .pure (.tup [.nilsl, .int k' z'], []) := by
 obtain ⟨H', h⟩ := h; exact Z0E h rfl (fun _ => rfl) rfl
theorem Zrz {C : Callee} {site : Nat → Nat} {seen : List Nat} {f : FuncId} {args : List AV} (h : ∃ H', C f args [] 0 = some (.nilsl, H')) : aBack site true seen (thaw C f args [] 0) = .pure (.nilsl, []) := by
 obtain ⟨H', h⟩ := h; exact Z0E h rfl (fun _ => rfl) rfl
end Go.AM
end
noncomputable section
namespace Go.AM
theorem seqN (s : St) (k) : seqX (some (.normal, s)) k = k s := nf
theorem bindN (s : St) (k) : bindR (some s) k = k s := nf
theorem regN (s : St) (k) : regX (some s) k = some (.normal, k s) := nf
theorem ZuG (d : Nat) (k : IntKind) (z : Int) : snap (d + 1) (.int k z) = .pure (.int k z, []) := rfl
theorem ZpF (d : Nat) : snap (d + 1) .nilsl = .pure (.nilsl, []) := rfl
theorem ZuK (d : Nat) (c : List AV) (n : Nat) (ex : Bool) : snap (d + 1) (.imm c n ex) = .pure (.imm c n ex, []) := rfl
theorem Zx8 (d id off len cap gl sz : Nat) (ex : Bool) : snap (d + 1) (.ref id off len cap gl sz ex) = (Rd.liveBlk id gl).bind fun b =>
     if off + len * sz ≤ b.cells.length then
       match b.st with
       | .box => (snaps d ((b.cells.drop off).take (len * sz))).bind fun x =>
         .pure (.imm x.1 len (ex && decide (cap = len)), id :: x.2)
       | _ => .pure (.imm ((b.cells.drop off).take (len * sz)) len (ex && decide (cap = len)), [id])
     else .fail := rfl
theorem ZrV (d id off gl : Nat) : snap (d + 1) (.ptr id off gl) = (Rd.liveBlk id gl).bind fun b =>
     match b.st with
     | .box => (snaps d b.cells).bind fun x => .pure (.iptr x.1 off, id :: x.2)
     | _ => .pure (.iptr b.cells off, [id]) := rfl
theorem Zs8 (d : Nat) (c : List AV) (n : Nat) : snap (d + 1) (.iptr c n) = .pure (.iptr c n, []) := rfl
theorem ZqN (d : Nat) (b : Bool) : snap (d + 1) (.bool b) = .pure (.bool b, []) := rfl
theorem Zea (d : Nat) : snap (d + 1) .nilfunc = .pure (.nilfunc, []) := rfl
theorem Zw3 (d : Nat) (vs : List AV) : snap (d + 1) (.agg vs) = (snaps d vs).bind fun x => .pure (.agg x.1, x.2) := rfl
theorem Zy9 (d : Nat) (vs : List AV) : snap (d + 1) (.tup vs) = (snaps d vs).bind fun x => .pure (.tup x.1, x.2) := rfl
theorem Zx2 (d : Nat) (f : FuncId) (vs : List AV) : snap (d + 1) (.clo f vs) = (snaps d vs).bind fun x => .pure (.clo f x.1, x.2) := rfl
def frzB (s : BS) (cs : List AV) (i : Nat) (r : Rd Ups) : Rd Ups :=
 match s, cs.all AV.flat with
 | .box, false => .fail
 | .mp, _ => .fail
 | .froz, _ => r
 | _, _ => r.bind fun us => .pure ((i, ⟨.froz, cs⟩) :: us)
theorem ZBe : frz [] = .pure [] := rfl
theorem ZKE (i : Nat) (is : List Nat) : frz (i :: is) = .get i fun
   | some b => frzB b.st b.cells i (frz is)
   | none => .fail := rfl
theorem Zvk (cs : List AV) (i : Nat) (r : Rd Ups) : frzB .row cs i r = r.bind fun us => .pure ((i, ⟨.froz, cs⟩) :: us) := rfl
theorem Zrs (cs : List AV) (i : Nat) (r : Rd Ups) : frzB .froz cs i r = r := by unfold frzB; cases cs.all AV.flat <;> rfl
theorem Zwm (cs : List AV) (i : Nat) (r : Rd Ups) : frzB .box cs i r = if cs.all AV.flat = true then r.bind fun us => .pure ((i, ⟨.froz, cs⟩) :: us) else .fail := by
 unfold frzB; cases cs.all AV.flat <;> rfl
end Go.AM
namespace Go.AM.Ytfmnoohhhokicaa
open Go Go.AM
theorem cl0 : ((0 : Nat) : Int) = 0 := rfl
end Go.AM.Ytfmnoohhhokicaa
end
noncomputable section
namespace Go.AM
abbrev ZF := And.intro (And.intro (And.intro (And.intro (And.intro (And.intro (And.intro @Zwa @ZqC) (And.intro @Zrn (And.intro @ZvG
 @Zoo))) (And.intro (And.intro @Zrt @Zsz) (And.intro @Zuu (And.intro @Zqf @Zh6)))) (And.intro (And.intro
 (And.intro @Z9t @ZoF) (And.intro @Zh7 (And.intro @Zph @ZvS))) (And.intro (And.intro @ZsH @Bool.not_true)
 (And.intro @Bool.not_false (And.intro @ZtJ @Zss))))) (And.intro (And.intro (And.intro (And.intro @Zg0 @ZIU) (And.intro
 @Zv3 (And.intro @Zxi @ZpZ))) (And.intro (And.intro @ZvT @ZoK) (And.intro @ZpE (And.intro @Zcd
 @Zrr)))) (And.intro (And.intro (And.intro @Zj @Zl) (And.intro @Zi (And.intro @ZqT @ZSN))) (And.intro (And.intro
 @ZRb (And.intro @ZpO @decide_eq_true_eq)) (And.intro @decide_eq_false_iff_not (And.intro @Nat.zero_add @Nat.add_zero)))))) (And.intro
 (And.intro (And.intro (And.intro (And.intro @ZJv @ZCr) (And.intro @ZSk (And.intro @ZNv @ZKn))) (And.intro (And.intro @ZqF
 @bne_iff_ne.{0}) (And.intro @ne_eq.{1} (And.intro @beq_iff_eq.{0} @ite_not.{1})))) (And.intro (And.intro (And.intro @ZoN @List.nil_append.{0})
 (And.intro @List.getElem?_toArray.{0} (And.intro @ZwE @Zyn))) (And.intro (And.intro @ZHx (And.intro @Zta @Ztf)) (And.intro
 @Zwl (And.intro @ZxW @ZwJ))))) (And.intro (And.intro (And.intro (And.intro @ZDE @Zw6) (And.intro @ZrU (And.intro @ZBu
 @Zpo))) (And.intro (And.intro @Zhb @ZtZ) (And.intro @ZoM (And.intro @List.isEmpty_nil.{0} @List.isEmpty_cons.{0}))))
 (And.intro (And.intro (And.intro @List.map_nil.{0,0} @List.map_cons.{0,0}) (And.intro @Bool.true_or (And.intro @Bool.or_true @Bool.false_or)))
 (And.intro (And.intro @Bool.or_false (And.intro @Bool.and_true @Bool.true_and)) (And.intro @Bool.and_self (And.intro @decide_true @decide_false)))))))
 (And.intro (And.intro (And.intro (And.intro (And.intro (And.intro @not_true_eq_false @not_false_eq_true) (And.intro @or_false (And.intro @false_or
 @or_true))) (And.intro (And.intro @true_or @or_self) (And.intro @fo6 (And.intro @fo5 @Bool.not_eq_true)))) (And.intro (And.intro (And.intro
 @Bool.not_eq_false @Bool.not_eq_eq_eq_not) (And.intro @ZsV (And.intro @ZrS @and_true))) (And.intro (And.intro @true_and
 @Int.natCast_nonneg) (And.intro @Int.ofNat_lt (And.intro @Int.toNat_natCast @List.append_nil.{0}))))) (And.intro (And.intro (And.intro (And.intro
 @if_true.{1} @if_false.{1}) (And.intro @Option.map_some.{0,0} (And.intro @Option.map_none.{0,0} @List.elem_cons.{0}))) (And.intro (And.intro
 @List.elem_nil.{0} @cond_true.{1}) (And.intro @cond_false.{1} (And.intro @List.length_cons.{0} @List.length_nil.{0})))) (And.intro (And.intro
 (And.intro @List.getElem?_cons_zero.{0} @List.getElem?_cons_succ.{0}) (And.intro @List.drop_zero.{0} (And.intro @List.drop_succ_cons.{0}
 @List.take_succ_cons.{0}))) (And.intro (And.intro @List.take_zero.{0} (And.intro @List.take_nil.{0} @List.set_cons_zero.{0})) (And.intro
 @List.set_cons_succ.{0} (And.intro @ZBe @ZKE)))))) (And.intro (And.intro (And.intro (And.intro (And.intro @Zvk @Zrs) (And.intro
 @Zwm (And.intro @seqN @bindN))) (And.intro (And.intro @regN @ZuG) (And.intro @ZqN (And.intro @ZpF @Zea)))) (And.intro
 (And.intro (And.intro @ZuK @Zx8) (And.intro @ZrV (And.intro @Zs8 @Zw3))) (And.intro (And.intro @Zy9 (And.intro
 @Zx2 @List.all_cons.{0})) (And.intro @List.all_nil.{0} (And.intro @ZHL @ZDQ))))) (And.intro (And.intro (And.intro (And.intro @ZGm
 @List.cons_append.{0}) (And.intro @Nat.le_refl (And.intro @Nat.sub_zero @Nat.mul_one))) (And.intro (And.intro @Nat.zero_mul @Nat.mul_zero) (And.intro
 @List.not_mem_nil.{0} (And.intro @beq_self_eq_true.{0} @bne_self_eq_false.{0})))) (And.intro (And.intro (And.intro @Int.lt_irrefl @Nat.lt_irrefl)
 (And.intro @Bool.false_eq_true (And.intro @Bool.false_and @Option.getD_none.{0}))) (And.intro (And.intro @Option.getD_some.{0} (And.intro
 @List.contains_cons.{0} @List.contains_nil.{0})) (And.intro @List.getD_cons_zero.{0} (And.intro @List.getD_cons_succ.{0} @List.getD_nil.{0})))))))
end Go.AM
end
noncomputable section
namespace Go.AM
noncomputable section NC
def posF : List Nat → Nat → Nat → Option Nat
 | [], _, _ => none
 | k :: ks, j, i => if k = i then some j else posF ks (j + 1) i
mutual
def ren (ρ : Nat → Option Nat) : AV → Option AV
 | .agg vs => match renL ρ vs with
   | some xs => some (.agg xs)
   | none => none
 | .tup vs => match renL ρ vs with
   | some xs => some (.tup xs)
   | none => none
 | .clo f vs => match renL ρ vs with
   | some xs => some (.clo f xs)
   | none => none
 | .bnd f vs => match renL ρ vs with
   | some xs => some (.bnd f xs)
   | none => none
 | .ref id off len cap gl sz ex => match ρ id with
   | some j => some (.ref j off len cap gl sz ex)
   | none => none
 | .ptr id off gl => match ρ id with
   | some j => some (.ptr j off gl)
   | none => none
 | .mapv id => match ρ id with
   | some j => some (.mapv j)
   | none => none
 | a => some a
def renL (ρ : Nat → Option Nat) : List AV → Option (List AV)
 | [] => some []
 | a :: asx => match ren ρ a with
   | some x => match renL ρ asx with
     | some xs => some (x :: xs)
     | none => none
   | none => none
end
def renB (ρ : Nat → Option Nat) (b : Blk) : Option Blk :=
 match b.st with
 | .box => match renL ρ b.cells with
   | some cs => some ⟨.box, cs⟩
   | none => none
 | _ => some b
def foc (ρ : Nat → Option Nat) (H : AHeap) : Nat → List Nat → Option AHeap
 | _, [] => some []
 | j, i :: is => match hget H i with
   | some b => match renB ρ b with
     | some b1 => match foc ρ H (j + 1) is with
       | some t => some ((j, b1) :: t)
       | none => none
     | none => none
   | none => none
def outF (ks news : List Nat) (B n : Nat) : Option Nat :=
 if n < ks.length then ks[n]? else match posF news 0 n with
   | some j => some (B + j)
   | none => none
def goodB (H1 : AHeap) (m n : Nat) (b : Blk) : Bool :=
 b.st.open_ || (decide (n < m) && match hget H1 n with
   | some b0 => decide (b0.cells.length = b.cells.length)
   | none => false)
def unf (ρ : Nat → Option Nat) (H1 H2 : AHeap) (m : Nat) : List Nat → Option Ups
 | [] => some []
 | n :: ns => match ρ n with
   | some i => match hget H2 n with
     | some b => if goodB H1 m n b = true then
         match renB ρ b with
         | some b' => match unf ρ H1 H2 m ns with
           | some us => some ((i, b') :: us)
           | none => none
         | none => none
       else none
     | none => none
   | none => none
def newsF (H2 : AHeap) (r : AV) (m : Nat) : List Nat := (mark H2 1000 (refsOf r ++ List.range m) []).filter fun n => decide (m ≤ n)
def freeL (H : AHeap) (B : Nat) : Nat → Bool
 | 0 => true
 | n + 1 => (hget H (B + n)).isNone && freeL H B n
def baseF (H : AHeap) (n : Nat) : Nat → Nat → Option Nat
 | 0, _ => none
 | t + 1, B => if freeL H B n = true then some B else baseF H n t (B + 64)
def backF (H H1 : AHeap) (ks : List Nat) (B : Nat) : Option (AV × AHeap) → Option (AV × AHeap)
 | some (r, H2) =>
   match baseF H (newsF H2 r ks.length).length 8 B with
   | some B => if AM.apart (newsF H2 r ks.length) = true then
       match ren (outF ks (newsF H2 r ks.length) B) r, unf (outF ks (newsF H2 r ks.length) B) H1 H2 ks.length (List.range ks.length ++ newsF H2 r ks.length) with
       | some r', some us => some (r', upds H us)
       | _, _ => none
     else none
   | none => none
 | none => none
def focus (C : Callee) (f : FuncId) (args : List AV) (H : AHeap) (B : Nat) (ks : List Nat) : Option (AV × AHeap) :=
 if AM.apart ks = true then
   match renL (posF ks 0) args, foc (posF ks 0) H 0 ks with
   | some args1, some H1 => backF H H1 ks B (C f args1 H1 64)
   | _, _ => none
 else none
def frC (fr : FuncId → Bool) (C : Callee) : Callee := fun f args H B =>
 match fr f with
 | true => focus C f args H B (mark H 1000 (refsL args) []).reverse
 | false => C f args H B
def callF (E : Env) (fr : FuncId → Bool) (fg : FuncId → Nat → List Nat) (N : Nat) : Nat → Callee
 | 0 => fun _ _ _ _ => none
 | d + 1 => bodyA E (frC fr (callF E fr fg N d)) fg N
end NC
def AV.leaf : AV → Bool
 | .ref .. | .ptr .. | .mapv .. => true
 | _ => false
noncomputable section
variable {P : Program} {E : Env}
mutual
theorem Z3S {fz fz' : Nat → Prop} {w w' : World} (hf : ∀ k, fz k → fz' k ∧ w'.heap[k]? = w.heap[k]?) {rf rf' : RFt} {ρ : Nat → Option Nat}
   (hr : ∀ a a' v, a.leaf = true → ren ρ a = some a' → v.oneCell' = true → rf a v → rf' a' v) : ∀ (a a' : AV) (v : Value), ren ρ a = some a' → VR fz w a rf v → VR fz' w' a' rf' v
 | .int .., a', _, e, h => by simp only [ren, Option.some.injEq] at e; subst e; simpa only [VR] using h
 | .bool .., a', _, e, h => by simp only [ren, Option.some.injEq] at e; subst e; simpa only [VR] using h
 | .str .., a', _, e, h => by simp only [ren, Option.some.injEq] at e; subst e; simpa only [VR] using h
 | .nilsl, a', _, e, h => by simp only [ren, Option.some.injEq] at e; subst e; simpa only [VR] using h
 | .nilptr, a', _, e, h => by simp only [ren, Option.some.injEq] at e; subst e; simpa only [VR] using h
 | .nilfunc, a', _, e, h => by simp only [ren, Option.some.injEq] at e; subst e; simpa only [VR] using h
 | .nilmap, a', _, e, h => by simp only [ren, Option.some.injEq] at e; subst e; simpa only [VR] using h
 | .any, a', _, e, _ => by simp only [ren, Option.some.injEq] at e; subst e; simp only [VR]
 | .imm cells len ex, a', _, e, h => by
   simp only [ren, Option.some.injEq] at e; subst e
   simp only [VR] at h ⊢; obtain ⟨b, o, cap, e, h1, h2, h3⟩ := h
   refine ⟨b, o, cap, e, h1, h2, ?_⟩
   rcases h3 with h3 | ⟨h3, h4⟩
   · exact .inl h3
   · exact .inr ⟨(hf b h3).1, VRc.mono (K := fun _ => True) hf (fun _ _ _ h => h) cells b o (hf b h3).2 (fun _ _ => trivial) h4⟩
 | .iptr cells off, a', _, e, h => by
   simp only [ren, Option.some.injEq] at e; subst e
   simp only [VR] at h ⊢; obtain ⟨b, o, e, h3, h4⟩ := h
   exact ⟨b, o, e, (hf b h3).1, VRc.mono (K := fun _ => True) hf (fun _ _ _ h => h) cells b o (hf b h3).2 (fun _ _ => trivial) h4⟩
 | .agg vs, a', _, e, h => by
   simp only [ren] at e
   split at e
   · rename_i xs hx
     obtain rfl := Option.some.inj e
     simp only [VR] at h ⊢; obtain ⟨A, q, h⟩ := h
     exact ⟨A, q, Zjq hf hr vs xs _ hx h⟩
   · exact absurd e (by simp)
 | .tup vs, a', _, e, h => by
   simp only [ren] at e
   split at e
   · rename_i xs hx
     obtain rfl := Option.some.inj e
     simp only [VR] at h ⊢; obtain ⟨A, q, h⟩ := h
     exact ⟨A, q, Z39 hf hr vs xs _ hx h⟩
   · exact absurd e (by simp)
 | .clo f vs, a', _, e, h => by
   simp only [ren] at e
   split at e
   · rename_i xs hx
     obtain rfl := Option.some.inj e
     simp only [VR] at h ⊢; obtain ⟨A, q, h⟩ := h
     exact ⟨A, q, Z39 hf hr vs xs _ hx h⟩
   · exact absurd e (by simp)
 | .bnd f vs, a', _, e, h => by
   simp only [ren] at e
   split at e
   · rename_i xs hx
     obtain rfl := Option.some.inj e
     simp only [VR] at h ⊢; obtain ⟨A, q, h⟩ := h
     exact ⟨A, q, Z39 hf hr vs xs _ hx h⟩
   · exact absurd e (by simp)
 | .ref id off len cap gl sz ex, a', v, e, h => by
   have e0 := e
   simp only [ren] at e
   split at e
   · obtain rfl := Option.some.inj e
     simp only [VR] at h ⊢
     exact ⟨h.1, hr _ _ v rfl e0 h.1 h.2⟩
   · exact absurd e (by simp)
 | .ptr id off gl, a', v, e, h => by
   have e0 := e
   simp only [ren] at e
   split at e
   · obtain rfl := Option.some.inj e
     simp only [VR] at h ⊢
     exact ⟨h.1, hr _ _ v rfl e0 h.1 h.2⟩
   · exact absurd e (by simp)
 | .mapv id, a', v, e, h => by
   have e0 := e
   simp only [ren] at e
   split at e
   · obtain rfl := Option.some.inj e
     simp only [VR] at h ⊢
     exact ⟨h.1, hr _ _ v rfl e0 h.1 h.2⟩
   · exact absurd e (by simp)
theorem Z39 {fz fz' : Nat → Prop} {w w' : World} (hf : ∀ k, fz k → fz' k ∧ w'.heap[k]? = w.heap[k]?) {rf rf' : RFt} {ρ : Nat → Option Nat}
   (hr : ∀ a a' v, a.leaf = true → ren ρ a = some a' → v.oneCell' = true → rf a v → rf' a' v) : ∀ (asx bs : List AV) (vs : List Value), renL ρ asx = some bs → VRs fz w asx rf vs → VRs fz' w' bs rf' vs
 | [], bs, _, e, h => by simp only [renL, Option.some.injEq] at e; subst e; simpa only [VRs] using h
 | a :: asx, bs, _, e, h => by
   simp only [renL] at e
   split at e
   · rename_i x hx
     split at e
     · rename_i xs hxs
       obtain rfl := Option.some.inj e
       simp only [VRs] at h ⊢; obtain ⟨v, t, q, h1, h2⟩ := h
       exact ⟨v, t, q, Z3S hf hr a x v hx h1, Z39 hf hr asx xs t hxs h2⟩
     · exact absurd e (by simp)
   · exact absurd e (by simp)
theorem Zjq {fz fz' : Nat → Prop} {w w' : World} (hf : ∀ k, fz k → fz' k ∧ w'.heap[k]? = w.heap[k]?) {rf rf' : RFt} {ρ : Nat → Option Nat}
   (hr : ∀ a a' v, a.leaf = true → ren ρ a = some a' → v.oneCell' = true → rf a v → rf' a' v) : ∀ (asx bs : List AV) (vs : List Value), renL ρ asx = some bs → VRo fz w asx rf vs → VRo fz' w' bs rf' vs
 | [], bs, _, e, h => by simp only [renL, Option.some.injEq] at e; subst e; simpa only [VRo] using h
 | a :: asx, bs, _, e, h => by
   simp only [renL] at e
   split at e
   · rename_i x hx
     split at e
     · rename_i xs hxs
       obtain rfl := Option.some.inj e
       simp only [VRo] at h ⊢; obtain ⟨v, t, q, h0, h1, h2⟩ := h
       exact ⟨v, t, q, h0, Z3S hf hr a x v hx h1, Zjq hf hr asx xs t hxs h2⟩
     · exact absurd e (by simp)
   · exact absurd e (by simp)
end
theorem Zjf {fz fz' : Nat → Prop} {w w' : World} (hf : ∀ k, fz k → fz' k ∧ w'.heap[k]? = w.heap[k]?) {rf rf' : RFt} {ρ : Nat → Option Nat}
   (hr : ∀ a a' v, a.leaf = true → ren ρ a = some a' → v.oneCell' = true → rf a v → rf' a' v) : ∀ (asx bs : List AV) (b o : Nat), w'.heap[b]? = w.heap[b]? → renL ρ asx = some bs → VRc fz w asx rf b o → VRc fz' w' bs rf' b o
 | [], bs, _, _, _, e, _ => by simp only [renL, Option.some.injEq] at e; subst e; simp only [VRc]
 | a :: asx, bs, b, o, hb, e, h => by
   simp only [renL] at e
   split at e
   · rename_i x hx
     split at e
     · rename_i xs hxs
       obtain rfl := Option.some.inj e
       simp only [VRc] at h ⊢; obtain ⟨⟨v, q, h0, h1⟩, h2⟩ := h
       exact ⟨⟨v, by rw [Z4d hb]; exact q, h0, Z3S hf hr a x v hx h1⟩, Zjf hf hr asx xs b (o + 1) hb hxs h2⟩
     · exact absurd e (by simp)
   · exact absurd e (by simp)
mutual
theorem ZfX : ∀ a : AV, ren some a = some a
 | .int .. | .bool .. | .str .. | .nilsl | .nilptr | .nilfunc | .nilmap | .any | .imm .. | .iptr .. | .ref .. | .ptr .. | .mapv .. => by simp only [ren]
 | .agg vs => by simp only [ren, Z2b vs]
 | .tup vs => by simp only [ren, Z2b vs]
 | .clo f vs => by simp only [ren, Z2b vs]
 | .bnd f vs => by simp only [ren, Z2b vs]
theorem Z2b : ∀ l : List AV, renL some l = some l
 | [] => by simp only [renL]
 | a :: l => by simp only [renL, ZfX a, Z2b l]
end
theorem Z5a {ρ : Nat → Option Nat} : ∀ {l l' : List AV}, renL ρ l = some l' → l'.length = l.length
 | [], _, h => by simp only [renL, Option.some.injEq] at h; subst h; rfl
 | a :: l, l', h => by
   simp only [renL] at h
   split at h
   · split at h
     · rename_i xs hxs
       obtain rfl := Option.some.inj h
       rw [List.length_cons, List.length_cons, Z5a hxs]
     · exact absurd h (by simp)
   · exact absurd h (by simp)
theorem Z0D {ρ : Nat → Option Nat} {b b' : Blk} (h : renB ρ b = some b') : b'.st = b.st ∧ b'.cells.length = b.cells.length := by
 unfold renB at h
 split at h
 · rename_i hs
   split at h
   · rename_i cs hc
     obtain rfl := Option.some.inj h
     exact ⟨hs.symm, Z5a hc⟩
   · exact absurd h (by simp)
 · obtain rfl := Option.some.inj h; exact ⟨rfl, rfl⟩
theorem Z48 {g g' : Gh} {ρ : Nat → Option Nat} {i j : Nat} {b b' : Blk} (hmu : g'.mu j = g.mu i) (hh : g'.w.heap[(g.mu i).1]? = g.w.heap[(g.mu i).1]?) (hf : ∀ k, g.fz k → g'.fz k ∧ g'.w.heap[k]? = g.w.heap[k]?)
   (hr : ∀ a a' v, a.leaf = true → ren ρ a = some a' → v.oneCell' = true → RF g a v → RF g' a' v) (hb : renB ρ b = some b') (h : Lies g i b) : Lies g' j b' := by
 by_cases hs : b.st = .mp
 · have : b' = b := by unfold renB at hb; rw [hs] at hb; exact (Option.some.inj hb).symm
   subst this
   obtain ⟨es, h1, h2⟩ := h.map hs
   exact Z2h hs ⟨es, by rw [hmu, hh]; exact h1, h2⟩
 · obtain ⟨cs, t, h1, h2⟩ := h.cells hs
   refine Z38 (by rw [(Z0D hb).1]; exact hs) ⟨cs, t, by rw [hmu, hh]; exact h1, ?_⟩
   rw [hmu, (Z0D hb).1]
   unfold renB at hb
   split at hb
   · rename_i hst
     split at hb
     · rename_i cs' hc
       obtain rfl := Option.some.inj hb
       rw [hst] at h2 ⊢
       exact Zjf hf hr _ _ _ _ hh hc h2
     · exact absurd hb (by simp)
   · rename_i hst
     obtain rfl := Option.some.inj hb
     refine VRc.mono (K := fun _ => True) hf (fun a v _ h => ?_) _ _ _ hh (fun _ _ => trivial) h2
     cases hbs : b.st <;> rw [hbs] at h
     · exact absurd hbs hst
     all_goals exact h
theorem Z1l : ∀ (ks : List Nat) (j i n : Nat), posF ks j i = some n → j ≤ n ∧ ks[n - j]? = some i
 | [], _, _, _, h => by simp [posF] at h
 | k :: ks, j, i, n, h => by
   simp only [posF] at h
   split at h
   · rename_i e
     obtain rfl := Option.some.inj h
     subst e
     exact ⟨Nat.le_refl _, by rw [Nat.sub_self]; rfl⟩
   · obtain ⟨h1, h2⟩ := Z1l ks (j + 1) i n h
     refine ⟨by omega, ?_⟩
     rw [show n - j = (n - (j + 1)) + 1 by omega, List.getElem?_cons_succ]; exact h2
theorem Z0Q : ∀ (ks : List Nat) (j i n : Nat), ks.Nodup → ks[n]? = some i → posF ks j i = some (j + n)
 | [], _, _, _, _, h => by simp at h
 | k :: ks, j, i, n, hn, h => by
   rw [List.nodup_cons] at hn
   simp only [posF]
   cases n with
   | zero => rw [if_pos (by simpa using h)]; rfl
   | succ n =>
     rw [List.getElem?_cons_succ] at h
     rw [if_neg (fun e => hn.1 (by rw [e]; exact List.mem_of_getElem? h)), Z0Q ks (j + 1) i n hn.2 h]
     congr 1; omega
theorem ZfA {ρ : Nat → Option Nat} {H : AHeap} : ∀ (ks : List Nat) (j : Nat) {H1 : AHeap}, foc ρ H j ks = some H1 →
   (∀ n b1, hget H1 n = some b1 → j ≤ n ∧ ∃ i b, ks[n - j]? = some i ∧ hget H i = some b ∧ renB ρ b = some b1) ∧ (∀ n i, ks[n]? = some i → ∃ b b1, hget H i = some b ∧ renB ρ b = some b1 ∧ hget H1 (j + n) = some b1)
 | [], j, H1, h => by
   simp only [foc, Option.some.injEq] at h; subst h
   exact ⟨fun n b1 h => by simp [ZM] at h, fun n i h => by simp at h⟩
 | k :: ks, j, H1, h => by
   simp only [foc] at h
   split at h
   · rename_i b hb
     split at h
     · rename_i b1 hb1
       split at h
       · rename_i t ht
         obtain rfl := Option.some.inj h
         obtain ⟨h1, h2⟩ := ZfA ks (j + 1) ht
         refine ⟨fun n c hc => ?_, fun n i hi => ?_⟩
         · rw [ZQ] at hc
           split at hc
           · rename_i e
             subst e
             obtain rfl := Option.some.inj hc
             exact ⟨Nat.le_refl _, k, b, by rw [Nat.sub_self]; rfl, hb, hb1⟩
           · obtain ⟨q1, i, b', q2, q3, q4⟩ := h1 n c hc
             refine ⟨by omega, i, b', ?_, q3, q4⟩
             rw [show n - j = (n - (j + 1)) + 1 by omega, List.getElem?_cons_succ]; exact q2
         · cases n with
           | zero =>
             simp only [List.getElem?_cons_zero, Option.some.injEq] at hi
             subst hi
             exact ⟨b, b1, hb, hb1, by rw [ZQ, if_pos (by omega)]⟩
           | succ n =>
             rw [List.getElem?_cons_succ] at hi
             obtain ⟨b', b1', q1, q2, q3⟩ := h2 n i hi
             exact ⟨b', b1', q1, q2, by rw [ZQ, if_neg (by omega), show j + (n + 1) = j + 1 + n by omega]; exact q3⟩
       · exact absurd h (by simp)
     · exact absurd h (by simp)
   · exact absurd h (by simp)
theorem Zdo {ρ : Nat → Option Nat} {H1 H2 : AHeap} {m : Nat} : ∀ (ns : List Nat) {us : Ups}, unf ρ H1 H2 m ns = some us →
   (∀ n ∈ ns, ∃ i b b', ρ n = some i ∧ hget H2 n = some b ∧ goodB H1 m n b = true ∧ renB ρ b = some b' ∧ (i, b') ∈ us) ∧ us.map (fun p => some p.1) = ns.map ρ
 | [], us, h => by simp only [unf, Option.some.injEq] at h; subst h; exact ⟨fun n h => by simp at h, rfl⟩
 | n :: ns, us, h => by
   simp only [unf] at h
   split at h
   · rename_i i hi
     split at h
     · rename_i b hb
       split at h
       · rename_i hg
         split at h
         · rename_i b' hb'
           split at h
           · rename_i us' hu
             obtain rfl := Option.some.inj h
             obtain ⟨h1, h2⟩ := Zdo ns hu
             refine ⟨fun x hx => ?_, ?_⟩
             · rcases List.mem_cons.1 hx with rfl | hx
               · exact ⟨i, b, b', hi, hb, hg, hb', by simp⟩
               · obtain ⟨i2, b2, b3, q1, q2, q3, q4, q5⟩ := h1 x hx
                 exact ⟨i2, b2, b3, q1, q2, q3, q4, by simp [q5]⟩
             · rw [List.map_cons, List.map_cons, h2, hi]
           · exact absurd h (by simp)
         · exact absurd h (by simp)
       · exact absurd h (by simp)
     · exact absurd h (by simp)
   · exact absurd h (by simp)
theorem Z3A {H : AHeap} {B : Nat} : ∀ {n : Nat}, freeL H B n = true → ∀ j, j < n → hget H (B + j) = none
 | 0, _, j, hj => by omega
 | n + 1, h, j, hj => by
   simp only [freeL, Bool.and_eq_true, Option.isNone_iff_eq_none] at h
   by_cases e : j = n
   · rw [e]; exact h.1
   · exact Z3A h.2 j (by omega)
theorem Z73 {H : AHeap} {n : Nat} : ∀ {t B B' : Nat}, baseF H n t B = some B' → freeL H B' n = true
 | 0, _, _, h => by simp [baseF] at h
 | t + 1, B, B', h => by
   simp only [baseF] at h
   split at h
   · rename_i hf
     obtain rfl := Option.some.inj h
     exact hf
   · exact Z73 h
theorem Zzr (b : Blk) : renB some b = some b := by
 unfold renB
 split
 · rename_i hs
   rw [Z2b]
   obtain ⟨st, cs⟩ := b
   simp only at hs
   subst hs
   rfl
 · rfl
theorem Zuv {C : Callee} (hC : CS P E C) {f : FuncId} {args : List AV} {H : AHeap} {B : Nat} {ks : List Nat} {r : AV} {H' : AHeap} (h : focus C f args H B ks = some (r, H'))
   (g : Gh) (vs : List Value) (hH : g.H = H) (hI : Inv E g) (hs : g.Rs args vs) : Calls P f vs.toArray g.w fun
     | .returned v, w' => ∃ g', g'.w = w' ∧ g'.H = H' ∧ Inv E g' ∧ Adv g g' ∧ g'.R r v
     | _, _ => False := by
 subst hH
 unfold focus at h
 split at h
 case isFalse => exact absurd h (by simp)
 rename_i hap
 split at h
 case h_2 => exact absurd h (by simp)
 rename_i args1 H1 e1 e2
 cases hc : C f args1 H1 64 with
 | none => rw [hc] at h; simp [backF] at h
 | some rH =>
 obtain ⟨r1, H2⟩ := rH
 rw [hc] at h
 simp only [backF] at h
 generalize hnw0 : newsF H2 r1 ks.length = news at h
 generalize hB0 : B = B0 at h
 split at h
 case h_2 => exact absurd h (by simp)
 rename_i B hB
 have hfr := Z73 hB
 split at h
 case isFalse => exact absurd h (by simp)
 rename_i hapn
 split at h
 case h_2 => exact absurd h (by simp)
 rename_i r' us e3 e4
 simp only [Option.some.injEq, Prod.mk.injEq] at h
 obtain ⟨rfl, rfl⟩ := h
 have hnd := Z1G hap
 have hndn := Z1G hapn
 have hnews : ∀ n ∈ news, ks.length ≤ n := by
   intro n hn
   rw [← hnw0] at hn
   exact of_decide_eq_true (List.mem_filter.1 hn).2
 obtain ⟨fs1, fs2⟩ := ZfA ks 0 e2
 generalize hg1 : (⟨fun j => g.mu (ks.getD j 0), g.fz, H1, g.w⟩ : Gh) = g1
 have g1H : g1.H = H1 := by rw [← hg1]
 have g1w : g1.w = g.w := by rw [← hg1]
 have g1f : g1.fz = g.fz := by rw [← hg1]
 have hmu1 : ∀ n i, ks[n]? = some i → g1.mu n = g.mu i := by
   intro n i h
   rw [← hg1]
   simp only [List.getD_eq_getElem?_getD, h, Option.getD_some]
 have hf1 : ∀ k, g.fz k → g1.fz k ∧ g1.w.heap[k]? = g.w.heap[k]? := fun k hk => ⟨by rw [g1f]; exact hk, by rw [g1w]⟩
 have hin : ∀ a a' v, AV.leaf a = true → ren (posF ks 0) a = some a' → v.oneCell' = true → RF g a v → RF g1 a' v := by
   intro a a' v hl e _ hv
   cases a <;> simp only [AV.leaf, Bool.false_eq_true] at hl <;> simp only [ren] at e <;> split at e <;> try (simp at e; done)
   all_goals
     rename_i n hn
     obtain rfl := Option.some.inj e
     have hk := (Z1l _ _ _ _ hn).2
     rw [Nat.sub_zero] at hk
     obtain ⟨b, b1, q1, q2, q3⟩ := fs2 n _ hk
     rw [Nat.zero_add] at q3
     simp only [RF] at hv ⊢
     obtain ⟨b0, p1, p2, p3⟩ := hv
     rw [q1] at p1
     obtain rfl := Option.some.inj p1
     obtain ⟨r1, r2⟩ := Z0D q2
     refine ⟨b1, by rw [g1H]; exact q3, ?_, ?_⟩
   · rw [r2]; exact p2
   · rw [r2, hmu1 _ _ hk, g1w]; exact p3
   · rw [r2]; exact p2
   · rw [r2, hmu1 _ _ hk]; exact p3
   · rw [r1]; exact p2
   · rw [hmu1 _ _ hk]; exact p3
 have hI1 : Inv E g1 := by
   refine ⟨fun n b1 h => ?_, fun n n' b b' h h' hne => ?_, fun n b h ho => ?_, fun n b h ho => ?_, fun k hk => ?_, fun k cells h => ?_⟩
   · rw [g1H] at h
     obtain ⟨_, i, b, q1, q2, q3⟩ := fs1 n b1 h
     rw [Nat.sub_zero] at q1
     exact Z48 (hmu1 n i q1) (by rw [g1w]) hf1 hin q3 (hI.blk i b q2)
   · rw [g1H] at h h'
     obtain ⟨_, i, c, q1, q2, _⟩ := fs1 n b h
     obtain ⟨_, i', c', q1', q2', _⟩ := fs1 n' b' h'
     rw [Nat.sub_zero] at q1 q1'
     rw [hmu1 n i q1, hmu1 n' i' q1']
     refine hI.inj i i' c c' q2 q2' fun e => hne ?_
     subst e
     have a1 := Z0Q ks 0 i n hnd q1
     rw [Z0Q ks 0 i n' hnd q1'] at a1
     have := Option.some.inj a1; omega
   · rw [g1H] at h
     obtain ⟨_, i, c, q1, q2, q3⟩ := fs1 n b h
     rw [Nat.sub_zero] at q1
     rw [hmu1 n i q1, g1f]
     exact hI.opn i c q2 (by rw [← (Z0D q3).1]; exact ho)
   · rw [g1H] at h
     obtain ⟨_, i, c, q1, q2, q3⟩ := fs1 n b h
     rw [Nat.sub_zero] at q1
     rw [hmu1 n i q1, g1f]
     exact hI.frz i c q2 (by rw [← (Z0D q3).1]; exact ho)
   · rw [g1f] at hk; rw [g1w]; exact hI.lt k hk
   · rw [g1f, g1w]; exact hI.glob k cells h
 have hs1 : g1.Rs args1 vs := Z39 hf1 hin args args1 vs e1 hs
 have hcall := hC f args1 H1 64 r1 H2 hc g1 vs g1H hI1 hs1
 rw [g1w] at hcall
 refine hcall.mono ?_
 intro e w' he
 cases e with
 | panicked => exact he.elim
 | outgrown => exact he.elim
 | returned v =>
 obtain ⟨g2, rfl, hH2, hI2, hA, hR⟩ := he
 generalize hρ : outF ks news B = ρ at e3 e4
 have hinvd : ∃ inv : Nat → Option Nat, (∀ n i, ρ n = some i → inv i = some n ∧ (n < ks.length ∨ n ∈ news)) ∧ (∀ i n, inv i = some n → ρ n = some i) ∧ (∀ n i : Nat, ks[n]? = some i → inv i = some n ∧ ρ n = some i) ∧ ∀ i n : Nat, inv i = some n → held g.H i → ks[n]? = some i := by
   refine ⟨fun i => match posF ks 0 i with
     | some n => some n
     | none => if B ≤ i then news[i - B]? else none, ?_, ?_, ?_, ?_⟩
   · intro n i h
     rw [← hρ] at h
     unfold outF at h
     split at h
     · rename_i hl
       have := Z0Q ks 0 i n hnd h
       rw [Nat.zero_add] at this
       simp only [this]
       exact ⟨trivial, .inl hl⟩
     · split at h
       · rename_i j hj
         obtain rfl := Option.some.inj h
         have hjn := (Z1l _ _ _ _ hj).2
         rw [Nat.sub_zero] at hjn
         have hno : posF ks 0 (B + j) = none := by
           cases hp : posF ks 0 (B + j) with
           | none => rfl
           | some m =>
             have := (Z1l _ _ _ _ hp).2
             obtain ⟨b, _, q, _⟩ := fs2 _ _ this
             rw [Z3A hfr j (List.getElem?_eq_some_iff.1 hjn).1] at q
             exact absurd q (by simp)
         simp only [hno]
         rw [show B + j - B = j by omega, if_pos (by omega)]
         exact ⟨hjn, .inr (List.mem_of_getElem? hjn)⟩
       · exact absurd h (by simp)
   · intro i n h
     rw [← hρ]
     unfold outF
     cases hp : posF ks 0 i with
     | some m =>
       simp only [hp, Option.some.injEq] at h
       subst h
       have := (Z1l _ _ _ _ hp).2
       rw [Nat.sub_zero] at this
       rw [if_pos (List.getElem?_eq_some_iff.1 this).1]; exact this
     | none =>
       simp only [hp] at h
       split at h
       · rename_i hb
         have := hnews _ (List.mem_of_getElem? h)
         have hq := Z0Q news 0 n (i - B) hndn h
         rw [Nat.zero_add] at hq
         rw [if_neg (by omega), hq]
         show some (B + (i - B)) = some i
         congr 1; omega
       · exact absurd h (by simp)
   · intro n i h
     have := Z0Q ks 0 i n hnd h
     rw [Nat.zero_add] at this
     simp only [this, true_and]
     rw [← hρ]
     unfold outF
     rw [if_pos (List.getElem?_eq_some_iff.1 h).1]; exact h
   · intro i n h hh
     cases hp : posF ks 0 i with
     | some m =>
       simp only [hp, Option.some.injEq] at h
       subst h
       have := (Z1l _ _ _ _ hp).2
       rw [Nat.sub_zero] at this
       exact this
     | none =>
       simp only [hp] at h
       split at h
       · rename_i hb
         obtain ⟨b, hb2⟩ := hh
         have := Z3A hfr _ (List.getElem?_eq_some_iff.1 h).1
         rw [show B + (i - B) = i by omega, hb2] at this
         exact absurd this (by simp)
       · exact absurd h (by simp)
 obtain ⟨inv, hi1, hi2, hi3, hi4⟩ := hinvd
 obtain ⟨u1, u2⟩ := Zdo _ e4
 have hmem : ∀ n i, ρ n = some i → n ∈ List.range ks.length ++ news := by
   intro n i h
   rcases (hi1 n i h).2 with h | h
   · exact List.mem_append_left _ (List.mem_range.2 h)
   · exact List.mem_append_right _ h
 have hnsd : (List.range ks.length ++ news).Nodup := by
   rw [List.nodup_append]
   refine ⟨List.nodup_range, hndn, fun a ha b hb e => ?_⟩
   have := List.mem_range.1 ha
   have := hnews b hb
   omega
 have hund : (us.map (·.1)).Nodup := by
   have h1 : ((List.range ks.length ++ news).map ρ).Nodup := by
     unfold List.Nodup
     rw [List.pairwise_map]
     refine hnsd.imp_of_mem fun {a b} ha hb hne e => hne ?_
     obtain ⟨i, _, _, q, _⟩ := u1 a ha
     obtain ⟨j, _, _, q', _⟩ := u1 b hb
     rw [q, q'] at e
     obtain rfl := Option.some.inj e
     have := (hi1 a i q).1
     rw [(hi1 b i q').1] at this
     exact (Option.some.inj this).symm
   rw [← u2] at h1
   unfold List.Nodup at h1 ⊢
   rw [List.pairwise_map] at h1 ⊢
   exact h1.imp fun h e => h (by rw [e])
 have hk1 : ∀ n i, ρ n = some i → ∃ b b', hget H2 n = some b ∧ goodB H1 ks.length n b = true ∧ renB ρ b = some b' ∧ hget (upds g.H us) i = some b' := by
   intro n i h
   obtain ⟨i', b, b', q1, q2, q3, q4, q5⟩ := u1 n (hmem n i h)
   rw [h] at q1
   obtain rfl := Option.some.inj q1
   exact ⟨b, b', q2, q3, q4, Z18 us g.H hund _ q5⟩
 have hk2 : ∀ i, inv i = none → hget (upds g.H us) i = hget g.H i := by
   intro i h
   refine Zq us g.H i fun hm => ?_
   obtain ⟨p, hp, rfl⟩ := List.mem_map.1 hm
   have : some p.1 ∈ us.map (fun p => some p.1) := List.mem_map.2 ⟨p, hp, rfl⟩
   rw [u2] at this
   obtain ⟨n, _, hn⟩ := List.mem_map.1 this
   rw [(hi1 n _ hn).1] at h
   exact absurd h (by simp)
 generalize hg' : (⟨fun i => match inv i with | some n => g2.mu n | none => g.mu i, g2.fz, upds g.H us, g2.w⟩ : Gh) = g'
 have gH : g'.H = upds g.H us := by rw [← hg']
 have gw : g'.w = g2.w := by rw [← hg']
 have gf : g'.fz = g2.fz := by rw [← hg']
 have gm1 : ∀ i n, inv i = some n → g'.mu i = g2.mu n := by intro i n h; rw [← hg']; simp only [h]
 have gm2 : ∀ i, inv i = none → g'.mu i = g.mu i := by intro i h; rw [← hg']; simp only [h]
 have hout : ∀ a a' v, AV.leaf a = true → ren ρ a = some a' → v.oneCell' = true → RF g2 a v → RF g' a' v := by
   intro a a' v hl e _ hv
   cases a <;> simp only [AV.leaf, Bool.false_eq_true] at hl <;> simp only [ren] at e <;> split at e <;> try (simp at e; done)
   all_goals
     rename_i i hn
     obtain rfl := Option.some.inj e
     obtain ⟨b, b', q1, _, q3, q4⟩ := hk1 _ i hn
     simp only [RF] at hv ⊢
     obtain ⟨b0, p1, p2, p3⟩ := hv
     rw [hH2, q1] at p1
     obtain rfl := Option.some.inj p1
     obtain ⟨r1, r2⟩ := Z0D q3
     have hm := gm1 i _ (hi1 _ i hn).1
     refine ⟨b', by rw [gH]; exact q4, ?_, ?_⟩
   · rw [r2]; exact p2
   · rw [r2, hm, gw]; exact p3
   · rw [r2]; exact p2
   · rw [r2, hm]; exact p3
   · rw [r1]; exact p2
   · rw [hm]; exact p3
 have wr1 : ∀ k, wr g1 k → ∃ (n i : Nat) (b : Blk), ks[n]? = some i ∧ hget g.H i = some b ∧ b.st.open_ = true ∧ (g.mu i).1 = k := by
   rintro k ⟨n, b1, h, ho, e⟩
   rw [g1H] at h
   obtain ⟨_, i, b, q1, q2, q3⟩ := fs1 n b1 h
   rw [Nat.sub_zero] at q1
   exact ⟨n, i, b, q1, q2, by rw [← (Z0D q3).1]; exact ho, by rw [← hmu1 n i q1]; exact e⟩
 have wr1g : ∀ k, wr g1 k → wr g k := fun k h => by
   obtain ⟨_, i, b, _, q2, q3, q4⟩ := wr1 k h
   exact ⟨i, b, q2, q3, q4⟩
 have hold : ∀ k, k < g.w.heap.size → ¬ wr g1 k → g2.w.heap[k]? = g.w.heap[k]? := by
   intro k h1 h2
   have := hA.old k (by rw [g1w]; exact h1) h2
   rw [g1w] at this; exact this
 have hlt : ∀ i b, hget g.H i = some b → (g.mu i).1 < g.w.heap.size := fun i b h => (hI.blk i b h).lt
 have hnw : ∀ i b, hget g.H i = some b → inv i = none → ¬ wr g1 (g.mu i).1 := by
   intro i b h hi hw
   obtain ⟨n, i2, b2, q1, q2, _, q4⟩ := wr1 _ hw
   refine hI.inj i2 i b2 b q2 h (fun e => ?_) q4
   subst e
   rw [(hi3 n i2 q1).1] at hi
   exact absurd hi (by simp)
 have hnwf : ∀ k, g.fz k → ¬ wr g1 k := by
   intro k hk hw
   obtain ⟨i, b, q1, q2, q3⟩ := wr1g k hw
   exact hI.opn i b q1 q2 (by rw [q3]; exact hk)
 have hf2 : ∀ k, g2.fz k → g.fz k ∨ wr g1 k ∨ g.w.heap.size ≤ k := by
   intro k h
   have := hA.fz2 k h
   rw [g1f, g1w] at this; exact this
 have hf : ∀ k, g.fz k → g'.fz k ∧ g'.w.heap[k]? = g.w.heap[k]? := fun k hk =>
   ⟨by rw [gf]; exact hA.fz' k (by rw [g1f]; exact hk), by rw [gw]; exact hold k (hI.lt k hk) (hnwf k hk)⟩
 have hth : ∀ a a' v, AV.leaf a = true → ren some a = some a' → v.oneCell' = true → RF g a v → RF g' a' v := by
   intro a a' v hl e hv1 hv
   rw [ZfX] at e
   obtain rfl := Option.some.inj e
   have key : ∀ i, refsOf a = [i] → held g.H i → (∀ n, inv i = some n → ∃ a1, ren (posF ks 0) a = some a1 ∧ ren ρ a1 = some a) → (∃ n, inv i = some n) → RF g' a v := by
     intro i _ _ h2 ⟨n, hn⟩
     obtain ⟨a1, e1, e2⟩ := h2 n hn
     have hl1 : a1.leaf = true := by
       cases a <;> simp only [AV.leaf, Bool.false_eq_true] at hl <;> simp only [ren] at e1 <;> split at e1 <;> try (simp at e1; done)
       all_goals (obtain rfl := Option.some.inj e1; rfl)
     have h3 := hin a a1 v hl e1 hv1 hv
     have h4 : g1.R a1 v := by
       cases a1 <;> simp only [AV.leaf, Bool.false_eq_true] at hl1 <;> simp only [Gh.R, VR] <;> exact ⟨hv1, h3⟩
     have h5 := hA.vr a1 v h4
     have h6 : RF g2 a1 v := by
       cases a1 <;> simp only [AV.leaf, Bool.false_eq_true] at hl1 <;> simp only [Gh.R, VR] at h5 <;> exact h5.2
     exact hout a1 a v hl1 e2 hv1 h6
   cases a <;> simp only [AV.leaf, Bool.false_eq_true] at hl
   · rename_i i off len cap gl sz ex
     have hv0 := hv
     simp only [RF] at hv
     obtain ⟨b, p1, p2, p3⟩ := hv
     cases hi : inv i with
     | none =>
       simp only [RF]
       refine ⟨b, by rw [gH, hk2 i hi]; exact p1, p2, fun e => ?_⟩
       have eb : bsz g'.w (g.mu i).1 = bsz g.w (g.mu i).1 := by simp only [bsz, gw, hold _ (hlt i b p1) (hnw i b p1 hi)]
       rw [gm2 i hi, eb]
       exact p3 e
     | some n =>
       refine key i (by simp [refsOf]) ⟨b, p1⟩ (fun m hm => ?_) ⟨n, hi⟩
       have hk := hi4 i m hm ⟨b, p1⟩
       have := Z0Q ks 0 i m hnd hk
       rw [Nat.zero_add] at this
       exact ⟨.ref m off len cap gl sz ex, by simp only [ren, this], by simp only [ren, hi2 i m hm]⟩
   · rename_i i off gl
     have hv0 := hv
     simp only [RF] at hv
     obtain ⟨b, p1, p2, p3⟩ := hv
     cases hi : inv i with
     | none =>
       simp only [RF]
       refine ⟨b, by rw [gH, hk2 i hi]; exact p1, p2, fun e => ?_⟩
       rw [gm2 i hi]
       exact p3 e
     | some n =>
       refine key i (by simp [refsOf]) ⟨b, p1⟩ (fun m hm => ?_) ⟨n, hi⟩
       have hk := hi4 i m hm ⟨b, p1⟩
       have := Z0Q ks 0 i m hnd hk
       rw [Nat.zero_add] at this
       exact ⟨.ptr m off gl, by simp only [ren, this], by simp only [ren, hi2 i m hm]⟩
   · rename_i i
     have hv0 := hv
     simp only [RF] at hv
     obtain ⟨b, p1, p2, p3⟩ := hv
     cases hi : inv i with
     | none =>
       simp only [RF]
       refine ⟨b, by rw [gH, hk2 i hi]; exact p1, p2, ?_⟩
       rw [gm2 i hi]
       exact p3
     | some n =>
       refine key i (by simp [refsOf]) ⟨b, p1⟩ (fun m hm => ?_) ⟨n, hi⟩
       have hk := hi4 i m hm ⟨b, p1⟩
       have := Z0Q ks 0 i m hnd hk
       rw [Nat.zero_add] at this
       exact ⟨.mapv m, by simp only [ren, this], by simp only [ren, hi2 i m hm]⟩
 have hcase : ∀ i b, hget g'.H i = some b → (inv i = none ∧ hget g.H i = some b) ∨ ∃ n b2, inv i = some n ∧ hget g2.H n = some b2 ∧ goodB H1 ks.length n b2 = true ∧ renB ρ b2 = some b := by
   intro i b h
   rw [gH] at h
   cases hi : inv i with
   | none => rw [hk2 i hi] at h; exact .inl ⟨rfl, h⟩
   | some n =>
     obtain ⟨b2, b', q1, q2, q3, q4⟩ := hk1 n i (hi2 i n hi)
     rw [q4] at h
     obtain rfl := Option.some.inj h
     exact .inr ⟨n, b2, rfl, by rw [hH2]; exact q1, q2, q3⟩
 have hsep : ∀ i n b b2, inv i = none → hget g.H i = some b → hget g2.H n = some b2 → goodB H1 ks.length n b2 = true → (g2.mu n).1 ≠ (g.mu i).1 := by
   intro i n b b2 hi hb hb2 hgood e
   have hl := hlt i b hb
   cases ho : b2.st.open_ with
   | true =>
     rcases hA.wr' _ ⟨n, b2, hb2, ho, rfl⟩ with hw | hw
     · rw [e] at hw; exact hnw i b hb hi hw
     · rw [g1w] at hw; omega
   | false =>
     unfold goodB at hgood
     rw [ho, Bool.false_or, Bool.and_eq_true, decide_eq_true_eq] at hgood
     obtain ⟨hn, hgood⟩ := hgood
     split at hgood
     · rename_i b0 hb0
       have hlen := of_decide_eq_true hgood
       obtain ⟨_, i2, c, q1, q2, q3⟩ := fs1 n b0 hb0
       rw [Nat.sub_zero] at q1
       have hvr := hA.vr (.ptr n 0 b0.cells.length) (.pointer (some ⟨(g1.mu n).1, (g1.mu n).2 + 0, none⟩)) (Z6O (by rw [g1H]; exact hb0) rfl)
       simp only [Gh.R, VR, RF] at hvr
       obtain ⟨_, b3, k1, _, k3⟩ := hvr
       rw [hb2] at k1
       obtain rfl := Option.some.inj k1
       have := k3 hlen
       simp only [Value.pointer.injEq, Option.some.injEq, Addr.mk.injEq] at this
       rw [← this.1, hmu1 n i2 q1] at e
       refine hI.inj i2 i c b q2 hb (fun e2 => ?_) e
       subst e2
       rw [(hi3 n i2 q1).1] at hi
       exact absurd hi (by simp)
     · exact absurd hgood (by simp)
 refine ⟨g', gw, gH, ⟨fun i b h => ?_, fun i j b b' h h' hne => ?_, fun i b h ho => ?_, fun i b h ho => ?_, fun k hk => ?_, fun k cells h => ?_⟩,
   ⟨fun a v h => Z3S hf hth a a v (ZfX a) h, ?_, ?_, ?_, ?_, ?_, ?_, ?_, ?_⟩, ?_⟩
 · rcases hcase i b h with ⟨hi, hb⟩ | ⟨n, b2, hi, hb2, _, hr⟩
   · exact Z48 (gm2 i hi) (by rw [gw]; exact hold _ (hlt i b hb) (hnw i b hb hi)) hf hth (Zzr b) (hI.blk i b hb)
   · exact Z48 (gm1 i n hi) (by rw [gw]) (fun k hk => ⟨by rw [gf]; exact hk, by rw [gw]⟩) hout hr (hI2.blk n b2 hb2)
 · rcases hcase i b h with ⟨hi, hb⟩ | ⟨n, b2, hi, hb2, hgd, hr⟩ <;> rcases hcase j b' h' with ⟨hj, hb'⟩ | ⟨m, c2, hj, hc2, hgd', hr'⟩
   · rw [gm2 i hi, gm2 j hj]; exact hI.inj i j b b' hb hb' hne
   · rw [gm2 i hi, gm1 j m hj]; exact fun e => hsep i m b c2 hi hb hc2 hgd' e.symm
   · rw [gm1 i n hi, gm2 j hj]; exact hsep j n b' b2 hj hb' hb2 hgd
   · rw [gm1 i n hi, gm1 j m hj]
     refine hI2.inj n m b2 c2 hb2 hc2 fun e => hne ?_
     subst e
     have := hi2 i n hi
     rw [hi2 j n hj] at this
     exact (Option.some.inj this).symm
 · rw [gf]
   rcases hcase i b h with ⟨hi, hb⟩ | ⟨n, b2, hi, hb2, hgd, hr⟩
   · rw [gm2 i hi]
     intro hz
     rcases hf2 _ hz with q | q | q
     · exact hI.opn i b hb ho q
     · exact hnw i b hb hi q
     · have := hlt i b hb; omega
   · rw [gm1 i n hi]; exact hI2.opn n b2 hb2 (by rw [← (Z0D hr).1]; exact ho)
 · rw [gf]
   rcases hcase i b h with ⟨hi, hb⟩ | ⟨n, b2, hi, hb2, hgd, hr⟩
   · rw [gm2 i hi]; exact hA.fz' _ (by rw [g1f]; exact hI.frz i b hb ho)
   · rw [gm1 i n hi]; exact hI2.frz n b2 hb2 (by rw [← (Z0D hr).1]; exact ho)
 · rw [gf] at hk; rw [gw]; exact hI2.lt k hk
 · rw [gf, gw]; exact hI2.glob k cells h
 · rw [gw, hA.os, g1w]
 · rw [gw, hA.tape, g1w]
 · rw [gw, hA.out, g1w]
 · have := hA.size; rw [g1w] at this; rw [gw]; exact this
 · intro k hk hw; rw [gw]; exact hold k hk fun h => hw (wr1g k h)
 · rintro k ⟨i, b, h, ho, e⟩
   rcases hcase i b h with ⟨hi, hb⟩ | ⟨n, b2, hi, hb2, hgd, hr⟩
   · rw [gm2 i hi] at e; exact .inl ⟨i, b, hb, ho, e⟩
   · rw [gm1 i n hi] at e
     rcases hA.wr' k ⟨n, b2, hb2, by rw [← (Z0D hr).1]; exact ho, e⟩ with q | q
     · exact .inl (wr1g k q)
     · rw [g1w] at q; exact .inr q
 · intro k hk; exact (hf k hk).1
 · intro k hk
   rw [gf] at hk
   rcases hf2 k hk with q | q | q
   · exact .inl q
   · exact .inr (.inl (wr1g k q))
   · exact .inr (.inr q)
 · exact Z3S (fun k hk => ⟨by rw [gf]; exact hk, by rw [gw]⟩) hout r1 r' v e3 hR
theorem ZqG {fr : FuncId → Bool} {C : Callee} (hC : CS P E C) : CS P E (frC fr C) := by
 intro f args H B r H' h g vs hH hI hs
 unfold frC at h
 split at h
 · exact Zuv hC h g vs hH hI hs
 · exact hC f args H B r H' h g vs hH hI hs
theorem Z5k (hE : EnvOK P E) (hm : P.follows .mixedOrders = true) (fr : FuncId → Bool) (fg : FuncId → Nat → List Nat) (N : Nat) : ∀ d, CS P E (callF E fr fg N d)
 | 0 => fun f args H B r H' h => by simp [callF] at h
 | d + 1 => Zjz hE hm fg N (ZqG (Z5k hE hm fr fg N d))
end
end Go.AM
end
noncomputable section
namespace Go.AM
noncomputable section
variable {α : Type} {f : α → List AV} {sz : Nat}
end
def ics (l : List Int) : List AV := l.map (AV.int .i64)
theorem Z7 (l : List Int) : (ics l).length = l.length := by simp [ics]
theorem Z3U {l : List Int} {k : Nat} {z : Int} (h : l[k]? = some z) : (ics l)[k]? = some (.int .i64 z) := by simp [ics, h]
theorem Z1b (l : List Int) (z : Int) : ics l ++ [.int .i64 z] = ics (l ++ [z]) := by simp [ics]
theorem Z3B (l : List Int) (n : Nat) : (ics l).take n = ics (l.take n) := by simp [ics]
theorem ZJe (l : List Int) (k : Nat) (z : Int) : (ics l).set k (.int .i64 z) = ics (l.set k z) := by simp [ics]
def oV (k sz n : Nat) : AV := match n with
 | 0 => .nilsl
 | n + 1 => .ref k 0 (n + 1) (n + 1) ((n + 1) * sz) sz false
def oH (k : Nat) (cells : List AV) : AHeap := match cells with
 | [] => []
 | c :: cs => [(k, ⟨.row, c :: cs⟩)]
theorem Z3M {C : Callee} {site : Nat → Nat} {seen : List Nat} {f : FuncId} {args : List AV} {id m c sz gl : Nat} {cells : List AV} {H' : AHeap} (h : C f args [] 0 = some (.ref id 0 m c gl sz false, H')) (hg : hget H' id = some ⟨.row, cells⟩) (hl : cells.length = gl) :
   aBack site true seen (thaw C f args [] 0) = Z0g (site 0) seen (fun k => .ref k 0 m c gl sz false) ⟨.row, cells⟩ := by
 subst hl
 simp only [thaw, h, frzRet, aBack, sitesB, aBackAt, imp, hg, List.length_nil, List.not_mem_nil, not_false_eq_true, and_true, if_true, List.map_cons, List.map_nil, AM.apart, List.elem_nil, Bool.not_false, Bool.and_true, AV.leads, Z0g]
theorem ZyZ (k : Nat) {c : List AV} (h : 0 < c.length) : oH k c = [(k, ⟨.row, c⟩)] := by
 cases c with
 | nil => simp at h
 | cons a c => rfl
end Go.AM
end
noncomputable section
namespace Go.AM.Ytfmnoohhhokicaa
open Go Go.AM
abbrev XQ (f n : Nat) (c a b : Code) : Prop := ∀ {C : Callee} {B N : Nat} {E0 : AHeap} {s : St}, execA E C (fg f) B n E0 N c s = seqX (execA E C (fg f) B n E0 N a s) (execA E C (fg f) B n E0 N b)
abbrev XG (f n : Nat) (c : Code) (r : Array Oper) (l : List Nat) : Prop := ∀ {C : Callee} {B N : Nat} {E0 : AHeap} {s : St}, execA E C (fg f) B n E0 N c s = regX (runA E C B n r r.toList s) (fun s => gcM E0 l (forget s.1 l, s.2))
abbrev XD (f n : Nat) (c : Code) (r : Array Oper) (l : List Nat) : Prop := ∀ {C : Callee} {B N : Nat} {E0 : AHeap} {s : St}, execA E C (fg f) B n E0 N c s = regX (drawA E C B n r s) (fun s => gcM E0 l (forget s.1 l, s.2))
abbrev XC (f n : Nat) (c : Code) (k : Nat) (t e : Code) : Prop := ∀ {C : Callee} {B N : Nat} {E0 : AHeap} {φ : AFr} {H : AHeap}, execA E C (fg f) B n E0 N c (φ, H) = condX (fget φ k) (execA E C (fg f) B n E0 N t (φ, H)) (execA E C (fg f) B n E0 N e (φ, H))
abbrev XS (n : Nat) (r : Array Oper) (o : Oper) (d : Option Nat) (x : Callee → Nat → AFr → AHeap → Rd (AV × Ups)) : Prop := ∀ {C : Callee} {B : Nat} {φ : AFr} {H : AHeap}, stepA E C B n r o (φ, H) = stp d φ H (x C B φ H)
abbrev XM (n : Nat) (r : Array Oper) (o : Oper) (d : Nat) (x : AFr → AV) : Prop := ∀ {C : Callee} {B : Nat} {φ : AFr} {H : AHeap}, stepA E C B n r o (φ, H) = some (fput φ d (x φ), H)
variable {C : Callee} {B N : Nat} {E0 : AHeap} (φ : AFr) (H : AHeap) (s : St)
theorem T_0 : E.T 0 = some ⟨.other, 1, 0, none⟩ := nf
theorem T_1 : E.T 1 = some ⟨.other, 1, 8, (some [.nilfunc])⟩ := nf
theorem T_2 : E.T 2 = some ⟨.int .i64, 1, 8, (some [.int .i64 0])⟩ := nf
theorem T_3 : E.T 3 = some ⟨.int .i64, 1, 8, (some [.int .i64 0])⟩ := nf
theorem T_4 : E.T 4 = some ⟨.bool, 1, 1, (some [.bool false])⟩ := nf
theorem T_5 : E.T 5 = some ⟨.int .u8, 1, 1, (some [.int .u8 0])⟩ := nf
theorem T_6 : E.T 6 = some ⟨.int .u8, 1, 1, (some [.int .u8 0])⟩ := nf
theorem T_7 : E.T 7 = some ⟨.struct [(0, 2, 1), (1, 3, 1), (2, 4, 1), (3, 6, 1)] false, 4, 24, (some [.int .i64 0, .int .i64 0, .bool false, .int .u8 0])⟩ := nf
theorem T_8 : E.T 8 = some ⟨.struct [(0, 2, 1), (1, 3, 1), (2, 4, 1), (3, 6, 1)] false, 4, 24, (some [.int .i64 0, .int .i64 0, .bool false, .int .u8 0])⟩ := nf
theorem T_9 : E.T 9 = some ⟨.str, 1, 16, (some [.str ⟨#[]⟩])⟩ := nf
theorem T_10 : E.T 10 = some ⟨.str, 1, 16, (some [.str ⟨#[]⟩])⟩ := nf
theorem T_11 : E.T 11 = some ⟨.str, 1, 16, (some [.str ⟨#[]⟩])⟩ := nf
theorem T_12 : E.T 12 = some ⟨.int .u64, 1, 8, (some [.int .u64 0])⟩ := nf
theorem T_13 : E.T 13 = some ⟨.struct [(0, 9, 1), (1, 12, 1)] false, 2, 24, (some [.str ⟨#[]⟩, .int .u64 0])⟩ := nf
theorem T_14 : E.T 14 = some ⟨.struct [(0, 9, 1), (1, 12, 1)] false, 2, 24, (some [.str ⟨#[]⟩, .int .u64 0])⟩ := nf
theorem T_15 : E.T 15 = some ⟨.other, 1, 8, (some [.nilptr])⟩ := nf
theorem T_16 : E.T 16 = some ⟨.other, 1, 8, (some [.nilptr])⟩ := nf
theorem T_17 : E.T 17 = some ⟨.other, 1, 8, (some [.nilptr])⟩ := nf
theorem T_18 : E.T 18 = some ⟨.struct [(0, 17, 1)] false, 1, 8, (some [.nilptr])⟩ := nf
theorem T_19 : E.T 19 = some ⟨.struct [(0, 17, 1)] false, 1, 8, (some [.nilptr])⟩ := nf
theorem T_20 : E.T 20 = some ⟨.other, 1, 16, none⟩ := nf
theorem T_21 : E.T 21 = some ⟨.int .i32, 1, 4, (some [.int .i32 0])⟩ := nf
theorem T_22 : E.T 22 = some ⟨.slice 3, 1, 24, (some [.nilsl])⟩ := nf
theorem T_23 : E.T 23 = some ⟨.other, 1, 8, (some [.nilfunc])⟩ := nf
theorem T_24 : E.T 24 = some ⟨.int .i64, 1, 8, (some [.int .i64 0])⟩ := nf
theorem T_25 : E.T 25 = some ⟨.other, 1, 0, none⟩ := nf
theorem T_26 : E.T 26 = some ⟨.other, 1, 8, (some [.nilfunc])⟩ := nf
theorem T_27 : E.T 27 = some ⟨.other, 1, 8, (some [.nilfunc])⟩ := nf
theorem T_28 : E.T 28 = some ⟨.other, 1, 8, (some [.nilfunc])⟩ := nf
theorem T_29 : E.T 29 = some ⟨.other, 1, 8, (some [.nilfunc])⟩ := nf
theorem T_30 : E.T 30 = some ⟨.other, 1, 8, (some [.nilfunc])⟩ := nf
theorem T_31 : E.T 31 = some ⟨.other, 1, 0, none⟩ := nf
theorem T_32 : E.T 32 = some ⟨.other, 1, 8, (some [.nilfunc])⟩ := nf
theorem T_33 : E.T 33 = some ⟨.other, 1, 0, none⟩ := nf
theorem T_34 : E.T 34 = some ⟨.other, 1, 8, (some [.nilfunc])⟩ := nf
theorem T_35 : E.T 35 = some ⟨.other, 1, 0, none⟩ := nf
theorem T_36 : E.T 36 = some ⟨.other, 1, 8, (some [.nilfunc])⟩ := nf
theorem T_37 : E.T 37 = some ⟨.other, 1, 8, (some [.nilfunc])⟩ := nf
theorem T_38 : E.T 38 = some ⟨.other, 1, 8, (some [.nilfunc])⟩ := nf
theorem T_39 : E.T 39 = some ⟨.slice 22, 1, 24, (some [.nilsl])⟩ := nf
theorem T_40 : E.T 40 = some ⟨.other, 1, 0, none⟩ := nf
theorem T_41 : E.T 41 = some ⟨.other, 1, 8, (some [.nilfunc])⟩ := nf
theorem T_42 : E.T 42 = some ⟨.other, 1, 8, (some [.nilfunc])⟩ := nf
theorem T_43 : E.T 43 = some ⟨.other, 1, 8, (some [.nilfunc])⟩ := nf
theorem T_44 : E.T 44 = some ⟨.other, 1, 8, (some [.nilfunc])⟩ := nf
theorem T_45 : E.T 45 = some ⟨.other, 1, 8, (some [.nilfunc])⟩ := nf
theorem T_46 : E.T 46 = some ⟨.other, 1, 8, (some [.nilfunc])⟩ := nf
theorem T_47 : E.T 47 = some ⟨.arr 6 5 true, 6, 6, (some [.int .u8 0, .int .u8 0, .int .u8 0, .int .u8 0, .int .u8 0, .int .u8 0])⟩ := nf
theorem T_48 : E.T 48 = some ⟨.struct [(0, 5, 1), (1, 5, 1), (2, 47, 6)] false, 8, 8, (some [.int .u8 0, .int .u8 0, .int .u8 0, .int .u8 0, .int .u8 0, .int .u8 0, .int .u8 0, .int .u8 0])⟩ := nf
theorem T_49 : E.T 49 = some ⟨.struct [(0, 5, 1), (1, 5, 1), (2, 47, 6)] false, 8, 8, (some [.int .u8 0, .int .u8 0, .int .u8 0, .int .u8 0, .int .u8 0, .int .u8 0, .int .u8 0, .int .u8 0])⟩ := nf
theorem T_50 : E.T 50 = some ⟨.other, 1, 8, (some [.nilfunc])⟩ := nf
theorem T_51 : E.T 51 = some ⟨.other, 1, 8, (some [.nilfunc])⟩ := nf
theorem T_52 : E.T 52 = some ⟨.other, 1, 8, (some [.nilfunc])⟩ := nf
theorem T_53 : E.T 53 = some ⟨.other, 1, 8, (some [.nilfunc])⟩ := nf
theorem T_54 : E.T 54 = some ⟨.other, 1, 8, (some [.nilfunc])⟩ := nf
theorem T_55 : E.T 55 = some ⟨.other, 1, 8, (some [.nilfunc])⟩ := nf
theorem T_56 : E.T 56 = some ⟨.other, 1, 8, (some [.nilfunc])⟩ := nf
theorem T_57 : E.T 57 = some ⟨.other, 1, 8, (some [.nilfunc])⟩ := nf
theorem T_58 : E.T 58 = some ⟨.other, 1, 8, (some [.nilfunc])⟩ := nf
theorem T_59 : E.T 59 = some ⟨.other, 1, 0, none⟩ := nf
theorem T_60 : E.T 60 = some ⟨.other, 1, 8, (some [.nilfunc])⟩ := nf
theorem T_61 : E.T 61 = some ⟨.other, 1, 8, (some [.nilfunc])⟩ := nf
theorem T_62 : E.T 62 = some ⟨.other, 1, 8, (some [.nilfunc])⟩ := nf
theorem T_63 : E.T 63 = some ⟨.other, 1, 8, (some [.nilfunc])⟩ := nf
theorem T_64 : E.T 64 = some ⟨.other, 1, 8, (some [.nilfunc])⟩ := nf
theorem T_65 : E.T 65 = some ⟨.other, 1, 8, (some [.nilfunc])⟩ := nf
theorem T_66 : E.T 66 = some ⟨.other, 1, 8, (some [.nilfunc])⟩ := nf
theorem T_67 : E.T 67 = some ⟨.other, 1, 8, (some [.nilfunc])⟩ := nf
theorem T_68 : E.T 68 = some ⟨.other, 1, 8, (some [.nilfunc])⟩ := nf
theorem T_69 : E.T 69 = some ⟨.other, 1, 8, (some [.nilfunc])⟩ := nf
theorem T_70 : E.T 70 = some ⟨.other, 1, 8, (some [.nilfunc])⟩ := nf
theorem T_71 : E.T 71 = some ⟨.other, 1, 8, (some [.nilfunc])⟩ := nf
theorem T_72 : E.T 72 = some ⟨.other, 1, 8, (some [.nilfunc])⟩ := nf
theorem T_73 : E.T 73 = some ⟨.other, 1, 8, (some [.nilfunc])⟩ := nf
theorem T_74 : E.T 74 = some ⟨.other, 1, 8, (some [.nilfunc])⟩ := nf
theorem T_75 : E.T 75 = some ⟨.arr 6 3 true, 6, 48, (some [.int .i64 0, .int .i64 0, .int .i64 0, .int .i64 0, .int .i64 0, .int .i64 0])⟩ := nf
theorem T_76 : E.T 76 = some ⟨.arr 6 3 true, 6, 48, (some [.int .i64 0, .int .i64 0, .int .i64 0, .int .i64 0, .int .i64 0, .int .i64 0])⟩ := nf
theorem T_77 : E.T 77 = some ⟨.other, 1, 8, (some [.nilfunc])⟩ := nf
theorem T_78 : E.T 78 = some ⟨.other, 1, 8, (some [.nilfunc])⟩ := nf
theorem T_79 : E.T 79 = some ⟨.other, 1, 8, (some [.nilfunc])⟩ := nf
theorem T_80 : E.T 80 = some ⟨.other, 1, 0, none⟩ := nf
theorem T_81 : E.T 81 = some ⟨.other, 1, 8, (some [.nilfunc])⟩ := nf
theorem T_82 : E.T 82 = some ⟨.other, 1, 8, (some [.nilfunc])⟩ := nf
theorem T_83 : E.T 83 = some ⟨.other, 1, 8, (some [.nilfunc])⟩ := nf
theorem T_84 : E.T 84 = some ⟨.other, 1, 8, (some [.nilfunc])⟩ := nf
theorem T_85 : E.T 85 = some ⟨.other, 1, 8, (some [.nilfunc])⟩ := nf
theorem T_86 : E.T 86 = some ⟨.other, 1, 8, (some [.nilfunc])⟩ := nf
theorem T_87 : E.T 87 = some ⟨.map 76 3 (.int .i64 0), 1, 8, (some [.nilmap])⟩ := nf
theorem T_88 : E.T 88 = some ⟨.other, 1, 0, none⟩ := nf
theorem T_89 : E.T 89 = some ⟨.other, 1, 8, (some [.nilfunc])⟩ := nf
theorem T_90 : E.T 90 = some ⟨.other, 1, 8, (some [.nilfunc])⟩ := nf
theorem T_91 : E.T 91 = some ⟨.other, 1, 8, (some [.nilfunc])⟩ := nf
theorem T_92 : E.T 92 = some ⟨.other, 1, 8, (some [.nilfunc])⟩ := nf
theorem T_93 : E.T 93 = some ⟨.slice 5, 1, 24, (some [.nilsl])⟩ := nf
theorem T_94 : E.T 94 = some ⟨.other, 1, 8, (some [.nilfunc])⟩ := nf
theorem T_95 : E.T 95 = some ⟨.other, 1, 8, (some [.nilfunc])⟩ := nf
theorem T_96 : E.T 96 = some ⟨.other, 1, 8, (some [.nilfunc])⟩ := nf
theorem T_97 : E.T 97 = some ⟨.other, 1, 8, (some [.nilfunc])⟩ := nf
theorem T_98 : E.T 98 = some ⟨.int .u64, 1, 8, (some [.int .u64 0])⟩ := nf
theorem T_99 : E.T 99 = some ⟨.other, 1, 8, (some [.nilfunc])⟩ := nf
theorem ZRN : E.T 100 = some ⟨.other, 1, 8, (some [.nilfunc])⟩ := nf
theorem ZTW : E.T 101 = some ⟨.slice 39, 1, 24, (some [.nilsl])⟩ := nf
theorem ZQE : E.T 102 = some ⟨.other, 1, 8, (some [.nilfunc])⟩ := nf
theorem ZUD : E.T 103 = some ⟨.other, 1, 8, (some [.nilfunc])⟩ := nf
theorem ZSw : E.T 104 = some ⟨.other, 1, 8, (some [.nilfunc])⟩ := nf
theorem ZRX : E.T 105 = some ⟨.int .i64, 1, 8, (some [.int .i64 0])⟩ := nf
theorem ZUG : E.T 106 = some ⟨.other, 1, 0, none⟩ := nf
theorem ZSo : E.T 107 = some ⟨.other, 1, 8, (some [.nilfunc])⟩ := nf
theorem ZQZ : E.T 108 = some ⟨.other, 1, 8, (some [.nilfunc])⟩ := nf
theorem ZUB : E.T 109 = some ⟨.other, 1, 8, (some [.nilfunc])⟩ := nf
theorem ZRA : E.T 110 = some ⟨.other, 1, 8, (some [.nilfunc])⟩ := nf
theorem ZQi : E.T 111 = some ⟨.other, 1, 8, (some [.nilfunc])⟩ := nf
theorem ZQ1 : E.T 112 = some ⟨.int .u32, 1, 4, (some [.int .u32 0])⟩ := nf
theorem ZQV : E.T 113 = some ⟨.other, 1, 8, (some [.nilfunc])⟩ := nf
theorem ZS4 : E.T 114 = some ⟨.int .u64, 1, 8, (some [.int .u64 0])⟩ := nf
theorem ZSv : E.T 115 = some ⟨.other, 1, 8, (some [.nilptr])⟩ := nf
theorem ZTX : E.T 116 = some ⟨.other, 1, 8, (some [.nilfunc])⟩ := nf
theorem ZU9 : E.T 117 = some ⟨.other, 1, 8, (some [.nilfunc])⟩ := nf
theorem ZUe : E.T 118 = some ⟨.other, 1, 8, (some [.nilfunc])⟩ := nf
theorem ZTu : E.T 119 = some ⟨.other, 1, 8, (some [.nilfunc])⟩ := nf
theorem ZQ4 : E.T 120 = some ⟨.other, 1, 8, (some [.nilfunc])⟩ := nf
theorem ZSZ : E.T 121 = some ⟨.int .u64, 1, 8, (some [.int .u64 0])⟩ := nf
theorem ZRo : E.T 122 = some ⟨.other, 1, 8, (some [.nilfunc])⟩ := nf
theorem ZQo : E.T 123 = some ⟨.other, 1, 8, (some [.nilfunc])⟩ := nf
theorem ZRa : E.T 124 = some ⟨.other, 1, 8, (some [.nilfunc])⟩ := nf
theorem ZSx : E.T 125 = some ⟨.other, 1, 8, (some [.nilptr])⟩ := nf
theorem ZTL : E.T 126 = some ⟨.other, 1, 8, (some [.nilfunc])⟩ := nf
theorem ZTC : E.T 127 = some ⟨.other, 1, 8, (some [.nilfunc])⟩ := nf
theorem ZRF : E.T 128 = some ⟨.other, 1, 8, (some [.nilfunc])⟩ := nf
theorem ZTQ : E.T 129 = some ⟨.other, 1, 8, (some [.nilptr])⟩ := nf
theorem ZTY : E.T 130 = some ⟨.other, 1, 0, none⟩ := nf
theorem ZUA : E.T 131 = some ⟨.other, 1, 8, (some [.nilfunc])⟩ := nf
theorem ZUy : E.T 132 = some ⟨.other, 1, 8, (some [.nilfunc])⟩ := nf
theorem ZSI : E.T 133 = some ⟨.other, 1, 8, (some [.nilfunc])⟩ := nf
theorem ZT0 : E.T 134 = some ⟨.struct [(0, 17, 1), (1, 17, 1), (2, 17, 1), (3, 9, 1)] false, 4, 40, (some [.nilptr, .nilptr, .nilptr, .str ⟨#[]⟩])⟩ := nf
theorem ZTo : E.T 135 = some ⟨.struct [(0, 17, 1), (1, 17, 1), (2, 17, 1), (3, 9, 1)] false, 4, 40, (some [.nilptr, .nilptr, .nilptr, .str ⟨#[]⟩])⟩ := nf
theorem ZRU : E.T 136 = some ⟨.arr 0 16 false, 0, 0, (some [])⟩ := nf
theorem ZU0 : E.T 137 = some ⟨.struct [(0, 136, 0)] false, 0, 0, (some [])⟩ := nf
theorem ZQs : E.T 138 = some ⟨.struct [(0, 136, 0)] false, 0, 0, (some [])⟩ := nf
theorem ZSG : E.T 139 = some ⟨.other, 1, 8, (some [.nilfunc])⟩ := nf
theorem ZRI : E.T 140 = some ⟨.int .u8, 1, 1, (some [.int .u8 0])⟩ := nf
theorem ZQR : E.T 141 = some ⟨.int .u8, 1, 1, (some [.int .u8 0])⟩ := nf
theorem ZSC : E.T 142 = some ⟨.other, 1, 8, (some [.nilfunc])⟩ := nf
theorem ZUo : E.T 143 = some ⟨.other, 1, 8, (some [.nilptr])⟩ := nf
theorem ZQw : E.T 144 = some ⟨.int .i32, 1, 4, (some [.int .i32 0])⟩ := nf
theorem ZTI : E.T 145 = some ⟨.int .i32, 1, 4, (some [.int .i32 0])⟩ := nf
theorem ZSf : E.T 146 = some ⟨.struct [(0, 12, 1), (1, 12, 1), (2, 112, 1), (3, 140, 1), (4, 5, 1), (5, 5, 1), (6, 141, 1), (7, 142, 1), (8, 143, 1), (9, 144, 1), (10, 145, 1)] false, 11, 48, (some [.int .u64 0, .int .u64 0, .int .u32 0, .int .u8 0, .int .u8 0, .int .u8 0, .int .u8 0, .nilfunc, .nilptr, .int .i32 0, .int .i32 0])⟩ := nf
theorem ZRc : E.T 147 = some ⟨.struct [(0, 12, 1), (1, 12, 1), (2, 112, 1), (3, 140, 1), (4, 5, 1), (5, 5, 1), (6, 141, 1), (7, 142, 1), (8, 143, 1), (9, 144, 1), (10, 145, 1)] false, 11, 48, (some [.int .u64 0, .int .u64 0, .int .u32 0, .int .u8 0, .int .u8 0, .int .u8 0, .int .u8 0, .nilfunc, .nilptr, .int .i32 0, .int .i32 0])⟩ := nf
theorem ZTE : E.T 148 = some ⟨.other, 1, 8, (some [.nilptr])⟩ := nf
abbrev ZT := And.intro (And.intro (And.intro (And.intro (And.intro (And.intro (And.intro @T_0 @T_1) (And.intro @T_2 @T_3)) (And.intro (And.intro @T_4 @T_5) (And.intro @T_6 (And.intro @T_7 @T_8)))) (And.intro (And.intro (And.intro @T_9 @T_10) (And.intro @T_11 @T_12)) (And.intro (And.intro @T_13 @T_14) (And.intro @T_15 (And.intro @T_16 @T_17))))) (And.intro (And.intro (And.intro (And.intro @T_18 @T_19) (And.intro @T_20 @T_21)) (And.intro (And.intro @T_22 @T_23) (And.intro @T_24 (And.intro @T_25 @T_26)))) (And.intro (And.intro (And.intro @T_27 @T_28) (And.intro @T_29 (And.intro @T_30 @T_31))) (And.intro (And.intro @T_32 @T_33) (And.intro @T_34 (And.intro @T_35 @T_36)))))) (And.intro (And.intro (And.intro (And.intro (And.intro @T_37 @T_38) (And.intro @T_39 @T_40)) (And.intro (And.intro @T_41 @T_42) (And.intro @T_43 (And.intro @T_44 @T_45)))) (And.intro (And.intro (And.intro @T_46 @T_47) (And.intro @T_48 @T_49)) (And.intro (And.intro @T_50 @T_51) (And.intro @T_52 (And.intro @T_53 @T_54))))) (And.intro (And.intro (And.intro (And.intro @T_55 @T_56) (And.intro @T_57 @T_58)) (And.intro (And.intro @T_59 @T_60) (And.intro @T_61 (And.intro @T_62 @T_63)))) (And.intro (And.intro (And.intro @T_64 @T_65) (And.intro @T_66 (And.intro @T_67 @T_68))) (And.intro (And.intro @T_69 @T_70) (And.intro @T_71 (And.intro @T_72 @T_73))))))) (And.intro (And.intro (And.intro (And.intro (And.intro (And.intro @T_74 @T_75) (And.intro @T_76 @T_77)) (And.intro (And.intro @T_78 @T_79) (And.intro @T_80 (And.intro @T_81 @T_82)))) (And.intro (And.intro (And.intro @T_83 @T_84) (And.intro @T_85 @T_86)) (And.intro (And.intro @T_87 @T_88) (And.intro @T_89 (And.intro @T_90 @T_91))))) (And.intro (And.intro (And.intro (And.intro @T_92 @T_93) (And.intro @T_94 @T_95)) (And.intro (And.intro @T_96 @T_97) (And.intro @T_98 (And.intro @T_99 @ZRN)))) (And.intro (And.intro (And.intro @ZTW @ZQE) (And.intro @ZUD (And.intro @ZSw @ZRX))) (And.intro (And.intro @ZUG @ZSo) (And.intro @ZQZ (And.intro @ZUB @ZRA)))))) (And.intro (And.intro (And.intro (And.intro (And.intro @ZQi @ZQ1) (And.intro @ZQV @ZS4)) (And.intro (And.intro @ZSv @ZTX) (And.intro @ZU9 (And.intro @ZUe @ZTu)))) (And.intro (And.intro (And.intro @ZQ4 @ZSZ) (And.intro @ZRo (And.intro @ZQo @ZRa))) (And.intro (And.intro @ZSx @ZTL) (And.intro @ZTC (And.intro @ZRF @ZTQ))))) (And.intro (And.intro (And.intro (And.intro @ZTY @ZUA) (And.intro @ZUy @ZSI)) (And.intro (And.intro @ZT0 @ZTo) (And.intro @ZRU (And.intro @ZU0 @ZQs)))) (And.intro (And.intro (And.intro @ZSG @ZRI) (And.intro @ZQR (And.intro @ZSC @ZUo))) (And.intro (And.intro @ZQw @ZTI) (And.intro @ZSf (And.intro @ZRc @ZTE)))))))
def Z5T := kBody Proofs.Try.f25
def Zp7 := kL Z5T
def Z9S := kO Zp7
def ZhG := opN Z9S 0
theorem ZSs : XG 25 40 Zp7 Z9S [2] := Z2 (by rfl) (by rfl) _
theorem ZF6 : Z9S.toList = [ZhG] := nf
theorem ZBE : stepA E C B 40 Z9S ZhG (φ, H) = some (fput φ 2 (.int .i64 0), H) := nf
def Z9H := kR Z5T
def Zq9 := kL Z9H
def Zac := kB Zq9
def ZoP := kL Zac
def Z1K := kO ZoP
def Zjx := opN Z1K 0
def ZnR := opN Z1K 1
def Zk2 := opN Z1K 2
def ZjC := opN Z1K 3
theorem ZU5 : XG 25 40 ZoP Z1K [6, 7, 8] := Z2 (by rfl) (by rfl) _
theorem ZC0 : Z1K.toList = [Zjx, ZnR, Zk2, ZjC] := nf
theorem ZEM : stepA E C B 40 Z1K Zjx (φ, H) = some (fput φ 6 (fget φ 0), H) := nf
theorem ZE7 : stepA E C B 40 Z1K ZnR (φ, H) = stp (some 7) φ H (Z1 E.T (B + 7) .len #[22] [(fget φ 6)]) := nf
theorem ZCF : stepA E C B 40 Z1K Zk2 (φ, H) = stp (some 8) φ H (just (aBin E.T .eql 3 (fget φ 7) (.int .i64 0))) := nf
theorem ZGh : stepA E C B 40 Z1K ZjC (φ, H) = some (fput φ 5 (fget φ 8), H) := nf
def Zag := kR Zac
def Zal := kT Zag
def Zoy := kL Zal
def ZbB := kO Zoy
def Znb := opN ZbB 0
theorem ZQA : XG 25 40 Zoy ZbB [0, 5] := Z2 (by rfl) (by rfl) _
theorem ZDm : ZbB.toList = [Znb] := nf
theorem ZGJ : stepA E C B 40 ZbB Znb (φ, H) = some (fput φ 2 (.int .i64 4), H) := nf
def ZyW := kR Zal
theorem ZU3 : execA E C (fg 25) B 40 E0 N ZyW s = some (.ret, s) := Zs (by rfl) s
theorem ZQD : XQ 25 40 Zal Zoy ZyW := Z0 (by rfl) _
def Z7A := kE Zag
def Zcm := kL Z7A
def Z1M := kO Zcm
def ZlH := opN Z1M 0
def ZmH := opN Z1M 1
def Zm6 := opN Z1M 2
def ZiG := opN Z1M 3
theorem ZPk : XG 25 40 Zcm Z1M [5, 10, 11, 12] := Z2 (by rfl) (by rfl) _
theorem ZIK : Z1M.toList = [ZlH, ZmH, Zm6, ZiG] := nf
theorem ZC1 : stepA E C B 40 Z1M ZlH (φ, H) = some (fput φ 10 (fget φ 0), H) := nf
theorem ZIr : stepA E C B 40 Z1M ZmH (φ, H) = stp (some 11) φ H (Z1 E.T (B + 11) .len #[22] [(fget φ 10)]) := nf
theorem ZAB : stepA E C B 40 Z1M Zm6 (φ, H) = stp (some 12) φ H (just (aBin E.T .gtr 3 (fget φ 11) (.int .i64 6))) := nf
theorem ZzB : stepA E C B 40 Z1M ZiG (φ, H) = some (fput φ 9 (fget φ 12), H) := nf
def Z7L := kR Z7A
def Z7g := kT Z7L
def Zcg := kL Z7g
def ZaA := kO Zcg
def Zkr := opN ZaA 0
theorem ZMH : XG 25 40 Zcg ZaA [0, 9] := Z2 (by rfl) (by rfl) _
theorem ZD7 : ZaA.toList = [Zkr] := nf
theorem ZBR : stepA E C B 40 ZaA Zkr (φ, H) = some (fput φ 2 (.int .i64 3), H) := nf
def ZsG := kR Z7g
theorem ZN9 : execA E C (fg 25) B 40 E0 N ZsG s = some (.ret, s) := Zs (by rfl) s
theorem ZP0 : XQ 25 40 Z7g Zcg ZsG := Z0 (by rfl) _
def ZsS := kE Z7L
theorem ZKM : execA E C (fg 25) B 40 E0 N ZsS s = some (.normal, s) := Zp (by rfl) s
theorem ZOd : XC 25 40 Z7L 9 Z7g ZsS := Zn (by rfl) _
theorem ZK3 : XQ 25 40 Z7A Zcm Z7L := Z0 (by rfl) _
theorem ZQp : XC 25 40 Zag 5 Zal Z7A := Zn (by rfl) _
theorem ZR5 : XQ 25 40 Zac ZoP Zag := Z0 (by rfl) _
theorem ZUF : execA E C (fg 25) B 40 E0 N Zq9 s = blockX 0 (fun s => (forget s.1 [9], s.2)) (execA E C (fg 25) B 40 E0 N Zac s) := Zk (by rfl) (by rfl) s
def Z6q := kR Z9H
def Z84 := kL Z6q
def Zdq := kL Z84
def Z2N := kO Zdq
def Zl1 := opN Z2N 0
def Zki := opN Z2N 1
def ZlL := opN Z2N 2
theorem ZJx : XG 25 40 Zdq Z2N [] := Z2 (by rfl) (by rfl) _
theorem ZC6 : Z2N.toList = [Zl1, Zki, ZlL] := nf
theorem ZCJ : stepA E C B 40 Z2N Zl1 (φ, H) = some (fput φ 13 (fget φ 0), H) := nf
theorem ZI5 : stepA E C B 40 Z2N Zki (φ, H) = stp (some 14) φ H (Z1 E.T (B + 14) .len #[22] [(fget φ 13)]) := nf
theorem ZHS : stepA E C B 40 Z2N ZlL (φ, H) = some (fput φ 15 (.int .i64 0), H) := nf
def ZeF := kR Z84
def Zdf := kB ZeF
def Z2r := kB Zdf
def ZcA := kL Z2r
def ZaC := kO ZcA
def Zio := opN ZaC 0
theorem ZLI : XG 25 40 ZcA ZaC [] := Z2 (by rfl) (by rfl) _
theorem ZDH : ZaC.toList = [Zio] := nf
theorem ZGq : stepA E C B 40 ZaC Zio (φ, H) = stp (some 16) φ H (just (aBin E.T .lss 3 (fget φ 15) (fget φ 14))) := nf
def Z6t := kR Z2r
def Z8k := kL Z6t
def ZtV := kT Z8k
theorem ZKy : execA E C (fg 25) B 40 E0 N ZtV s = some (.normal, s) := Zp (by rfl) s
def ZsA := kE Z8k
theorem ZJs : execA E C (fg 25) B 40 E0 N ZsA s = some (.exit 1, s) := Z07 (by rfl) s
theorem ZK9 : XC 25 40 Z8k 16 ZtV ZsA := Zn (by rfl) _
def Z6M := kR Z6t
def ZdF := kL Z6M
def Z7r := kB ZdF
def Zc2 := kL Z7r
def Z17 := kO Zc2
def ZhW := opN Z17 0
def Zj9 := opN Z17 1
def Zjv := opN Z17 2
def Zo0 := opN Z17 3
def Zk1 := opN Z17 4
theorem ZP8 : XG 25 40 Zc2 Z17 [16, 17, 18, 19] := Z2 (by rfl) (by rfl) _
theorem ZCU : Z17.toList = [ZhW, Zj9, Zjv, Zo0, Zk1] := nf
theorem ZBc : stepA E C B 40 Z17 ZhW (φ, H) = some (fput φ 17 (fget φ 15), H) := nf
theorem ZIo : stepA E C B 40 Z17 Zj9 (φ, H) = stp (some 18) φ H (just (Z4 E.T 22 (fget φ 13) (fget φ 15))) := nf
theorem ZJ2 : stepA E C B 40 Z17 Zjv (φ, H) = stp (some 19) φ H (just (aLoad E.T 3 (fget φ 18))) := nf
theorem ZCQ : stepA E C B 40 Z17 Zo0 (φ, H) = some (fput φ 3 (fget φ 17), H) := nf
theorem ZzA : stepA E C B 40 Z17 Zk1 (φ, H) = some (fput φ 4 (fget φ 19), H) := nf
def ZbT := kR Z7r
def Z8j := kB ZbT
def Zg2 := kL Z8j
def Z0m := kO Zg2
def ZnQ := opN Z0m 0
def ZjB := opN Z0m 1
def Z4r := opN Z0m 2
def ZhQ := opN Z0m 3
def Zko := opN Z0m 4
def ZlS := opN Z0m 5
def Zhk := opN Z0m 6
theorem ZNL : XG 25 40 Zg2 Z0m [21, 22, 23, 24, 25, 26] := Z2 (by rfl) (by rfl) _
theorem ZIg : Z0m.toList = [ZnQ, ZjB, Z4r, ZhQ, Zko, ZlS, Zhk] := nf
theorem ZAs : stepA E C B 40 Z0m ZnQ (φ, H) = some (fput φ 21 (fget φ 4), H) := nf
theorem ZCp : stepA E C B 40 Z0m ZjB (φ, H) = stp (some 22) φ H (just (aBin E.T .lss 3 (fget φ 21) (.int .i64 0))) := nf
theorem ZEZ : stepA E C B 40 Z0m Z4r (φ, H) = some (fput φ 23 (fget φ 22), H) := nf
theorem ZHp : stepA E C B 40 Z0m ZhQ (φ, H) = gd φ 23 false (fun φ => some (fput φ 24 (.tup []), H)) (fun φ => some (fput φ 24 (fget φ 4), H)) := s_gd (j := 2) (oj := Z4r) rfl rfl rfl (fun _ => rfl) (fun _ => rfl)
theorem ZBf : stepA E C B 40 Z0m Zko (φ, H) = gd φ 23 false (fun φ => some (fput φ 25 (.tup []), H)) (fun φ => stp (some 25) φ H (just (aBin E.T .gtr 3 (fget φ 24) (.int .i64 8)))) := s_gd (j := 2) (oj := Z4r) rfl rfl rfl (fun _ => rfl) (fun _ => rfl)
theorem ZCu : stepA E C B 40 Z0m ZlS (φ, H) = stp (some 26) φ H (opPick (fget φ 23) (.bool true) (fget φ 25)) := nf
theorem ZFJ : stepA E C B 40 Z0m Zhk (φ, H) = some (fput φ 20 (fget φ 26), H) := nf
def Z5N := kR Z8j
def Z7S := kT Z5N
def Zgj := kL Z7S
def Z9R := kO Zgj
def ZiK := opN Z9R 0
theorem ZNV : XG 25 40 Zgj Z9R [0, 3, 4, 13, 14, 15, 20] := Z2 (by rfl) (by rfl) _
theorem ZGR : Z9R.toList = [ZiK] := nf
theorem ZIY : stepA E C B 40 Z9R ZiK (φ, H) = some (fput φ 2 (.int .i64 1), H) := nf
def ZsD := kR Z7S
theorem ZLc : execA E C (fg 25) B 40 E0 N ZsD s = some (.ret, s) := Zs (by rfl) s
theorem ZOz : XQ 25 40 Z7S Zgj ZsD := Z0 (by rfl) _
def Z7v := kE Z5N
def Zcw := kL Z7v
def Zz := kO Zcw
def ZbM := opN Zz 0
def Zgh := opN Zz 1
def Z0z := opN Zz 2
def Zga := opN Zz 3
def Zdt := opN Zz 4
def ZbW := opN Zz 5
def ZcS := opN Zz 6
def Zd2 := opN Zz 7
def ZgL := opN Zz 8
def Zf1 := opN Zz 9
def Z9h := opN Zz 10
def Z8U := opN Zz 11
theorem ZKU : XG 25 40 Zcw Zz [3, 4, 20, 28, 29, 30, 31, 32, 33, 34, 35, 36, 37, 38] := Z2 (by rfl) (by rfl) _
theorem Zxt : Zz.toList = [ZbM, Zgh, Z0z, Zga, Zdt, ZbW, ZcS, Zd2, ZgL, Zf1, Z9h, Z8U] := nf
theorem Zyp : stepA E C B 40 Zz ZbM (φ, H) = some (fput φ 28 (fget φ 3), H) := nf
theorem Zvi : stepA E C B 40 Zz Zgh (φ, H) = stp (some 29) φ H (just (aBin E.T .gtr 3 (fget φ 28) (.int .i64 0))) := nf
theorem Zy6 : stepA E C B 40 Zz Z0z (φ, H) = some (fput φ 30 (fget φ 29), H) := nf
theorem Zur : stepA E C B 40 Zz Zga (φ, H) = gd φ 30 true (fun φ => some (fput φ 31 (.tup []), H)) (fun φ => some (fput φ 31 (fget φ 4), H)) := s_gd (j := 2) (oj := Z0z) rfl rfl rfl (fun _ => rfl) (fun _ => rfl)
theorem Zys : stepA E C B 40 Zz Zdt (φ, H) = gd φ 30 true (fun φ => some (fput φ 32 (.tup []), H)) (fun φ => some (fput φ 32 (fget φ 0), H)) := s_gd (j := 2) (oj := Z0z) rfl rfl rfl (fun _ => rfl) (fun _ => rfl)
theorem ZwM : stepA E C B 40 Zz ZbW (φ, H) = gd φ 30 true (fun φ => some (fput φ 33 (.tup []), H)) (fun φ => some (fput φ 33 (fget φ 3), H)) := s_gd (j := 2) (oj := Z0z) rfl rfl rfl (fun _ => rfl) (fun _ => rfl)
theorem Zwq : stepA E C B 40 Zz ZcS (φ, H) = gd φ 30 true (fun φ => some (fput φ 34 (.tup []), H)) (fun φ => stp (some 34) φ H (just (aBin E.T .sub 3 (fget φ 33) (.int .i64 1)))) := s_gd (j := 2) (oj := Z0z) rfl rfl rfl (fun _ => rfl) (fun _ => rfl)
theorem Zvs : stepA E C B 40 Zz Zd2 (φ, H) = gd φ 30 true (fun φ => some (fput φ 35 (.tup []), H)) (fun φ => stp (some 35) φ H (just (Z4 E.T 22 (fget φ 32) (fget φ 34)))) := s_gd (j := 2) (oj := Z0z) rfl rfl rfl (fun _ => rfl) (fun _ => rfl)
theorem Zu6 : stepA E C B 40 Zz ZgL (φ, H) = gd φ 30 true (fun φ => some (fput φ 36 (.tup []), H)) (fun φ => stp (some 36) φ H (just (aLoad E.T 3 (fget φ 35)))) := s_gd (j := 2) (oj := Z0z) rfl rfl rfl (fun _ => rfl) (fun _ => rfl)
theorem Zx4 : stepA E C B 40 Zz Zf1 (φ, H) = gd φ 30 true (fun φ => some (fput φ 37 (.tup []), H)) (fun φ => stp (some 37) φ H (just (aBin E.T .gtr 3 (fget φ 31) (fget φ 36)))) := s_gd (j := 2) (oj := Z0z) rfl rfl rfl (fun _ => rfl) (fun _ => rfl)
theorem ZsP : stepA E C B 40 Zz Z9h (φ, H) = stp (some 38) φ H (opPick (fget φ 30) (fget φ 37) (.bool false)) := nf
theorem ZsO : stepA E C B 40 Zz Z8U (φ, H) = some (fput φ 27 (fget φ 38), H) := nf
def Z6r := kR Z7v
def Z6Q := kT Z6r
def ZbR := kL Z6Q
def Z7Z := kO ZbR
def ZcI := opN Z7Z 0
theorem ZO6 : XG 25 40 ZbR Z7Z [0, 13, 14, 15, 27] := Z2 (by rfl) (by rfl) _
theorem Zyx : Z7Z.toList = [ZcI] := nf
theorem Zwu : stepA E C B 40 Z7Z ZcI (φ, H) = some (fput φ 2 (.int .i64 7), H) := nf
def Zru := kR Z6Q
theorem ZNU : execA E C (fg 25) B 40 E0 N Zru s = some (.ret, s) := Zs (by rfl) s
theorem ZPr : XQ 25 40 Z6Q ZbR Zru := Z0 (by rfl) _
def ZrO := kE Z6r
theorem ZJS : execA E C (fg 25) B 40 E0 N ZrO s = some (.normal, s) := Zp (by rfl) s
theorem ZLh : XC 25 40 Z6r 27 Z6Q ZrO := Zn (by rfl) _
theorem ZMm : XQ 25 40 Z7v Zcw Z6r := Z0 (by rfl) _
theorem ZJQ : XC 25 40 Z5N 20 Z7S Z7v := Zn (by rfl) _
theorem ZKV : XQ 25 40 Z8j Zg2 Z5N := Z0 (by rfl) _
theorem ZL5 : execA E C (fg 25) B 40 E0 N ZbT s = blockX 3 (fun s => (forget s.1 [27], s.2)) (execA E C (fg 25) B 40 E0 N Z8j s) := Zk (by rfl) (by rfl) s
theorem ZPg : XQ 25 40 Z7r Zc2 ZbT := Z0 (by rfl) _
theorem ZLN : execA E C (fg 25) B 40 E0 N ZdF s = blockX 2 (fun s => (forget s.1 [], s.2)) (execA E C (fg 25) B 40 E0 N Z7r s) := Zk (by rfl) (by rfl) s
def Zcc := kR Z6M
def Z3q := kO Zcc
def ZcW := opN Z3q 0
def Zg3 := opN Z3q 1
theorem ZPs : XG 25 40 Zcc Z3q [39] := Z2 (by rfl) (by rfl) _
theorem Zvf : Z3q.toList = [ZcW, Zg3] := nf
theorem Zwv : stepA E C B 40 Z3q ZcW (φ, H) = stp (some 39) φ H (just (aBin E.T .add 3 (fget φ 15) (.int .i64 1))) := nf
theorem Zy2 : stepA E C B 40 Z3q Zg3 (φ, H) = some (fput φ 15 (fget φ 39), H) := nf
theorem ZLZ : XQ 25 40 Z6M ZdF Zcc := Z0 (by rfl) _
theorem ZM8 : XQ 25 40 Z6t Z8k Z6M := Z0 (by rfl) _
theorem ZOw : XQ 25 40 Z2r ZcA Z6t := Z0 (by rfl) _
theorem ZLU : execA E C (fg 25) B 40 E0 N Zdf s = iterA (execA E C (fg 25) B 40 E0 N Z2r) (headA E0) N s := Z0a (by rfl) s
theorem ZJO : execA E C (fg 25) B 40 E0 N ZeF s = blockX 1 (fun s => (forget s.1 [0, 13, 14, 15, 16], s.2)) (execA E C (fg 25) B 40 E0 N Zdf s) := Zk (by rfl) (by rfl) s
theorem ZOf : XQ 25 40 Z84 Zdq ZeF := Z0 (by rfl) _
def Z8a := kR Z6q
def ZfZ := kL Z8a
def Z64 := kO ZfZ
def ZdK := opN Z64 0
theorem ZOX : XG 25 40 ZfZ Z64 [] := Z2 (by rfl) (by rfl) _
theorem ZwF : Z64.toList = [ZdK] := nf
theorem ZvN : stepA E C B 40 Z64 ZdK (φ, H) = some (fput φ 2 (.int .i64 0), H) := nf
def Zs3 := kR Z8a
theorem ZNM : execA E C (fg 25) B 40 E0 N Zs3 s = some (.ret, s) := Zs (by rfl) s
theorem ZNP : XQ 25 40 Z8a ZfZ Zs3 := Z0 (by rfl) _
theorem ZMR : XQ 25 40 Z6q Z84 Z8a := Z0 (by rfl) _
theorem ZUd : XQ 25 40 Z9H Zq9 Z6q := Z0 (by rfl) _
theorem ZRJ : XQ 25 40 Z5T Zp7 Z9H := Z0 (by rfl) _
theorem ZPU : fInfo E 25 = some ⟨40, #[.tmp 2], Z5T⟩ := nf
theorem b_25 (args : List AV) : bodyA E C fg N 25 args H B = bodyX E [.tmp 2] (execA E C (fg 25) B 40 H N Z5T (Z3 args 0 [], H)) := Zw ZPU args H
abbrev F_25 := And.intro (And.intro (And.intro (And.intro (And.intro (And.intro @ZSs (And.intro @ZF6 @ZBE)) (And.intro @ZU5 (And.intro @ZC0 @ZEM))) (And.intro (And.intro @ZE7 (And.intro @ZCF @ZGh)) (And.intro (And.intro @ZQA @ZDm) (And.intro @ZGJ @ZU3)))) (And.intro (And.intro (And.intro @ZQD (And.intro @ZPk @ZIK)) (And.intro (And.intro @ZC1 @ZIr) (And.intro @ZAB @ZzB))) (And.intro (And.intro @ZMH (And.intro @ZD7 @ZBR)) (And.intro (And.intro @ZN9 @ZP0) (And.intro @ZKM @ZOd))))) (And.intro (And.intro (And.intro (And.intro @ZK3 (And.intro @ZQp @ZR5)) (And.intro @ZUF (And.intro @ZJx @ZC6))) (And.intro (And.intro @ZCJ (And.intro @ZI5 @ZHS)) (And.intro (And.intro @ZLI @ZDH) (And.intro @ZGq @ZKy)))) (And.intro (And.intro (And.intro @ZJs (And.intro @ZK9 @ZP8)) (And.intro (And.intro @ZCU @ZBc) (And.intro @ZIo @ZJ2))) (And.intro (And.intro @ZCQ (And.intro @ZzA @ZNL)) (And.intro (And.intro @ZIg @ZAs) (And.intro @ZCp @ZEZ)))))) (And.intro (And.intro (And.intro (And.intro (And.intro @ZHp (And.intro @ZBf @ZCu)) (And.intro @ZFJ (And.intro @ZNV @ZGR))) (And.intro (And.intro @ZIY (And.intro @ZLc @ZOz)) (And.intro (And.intro @ZKU @Zxt) (And.intro @Zyp @Zvi)))) (And.intro (And.intro (And.intro @Zy6 (And.intro @Zur @Zys)) (And.intro (And.intro @ZwM @Zwq) (And.intro @Zvs @Zu6))) (And.intro (And.intro @Zx4 (And.intro @ZsP @ZsO)) (And.intro (And.intro @ZO6 @Zyx) (And.intro @Zwu @ZNU))))) (And.intro (And.intro (And.intro (And.intro @ZPr (And.intro @ZJS @ZLh)) (And.intro (And.intro @ZMm @ZJQ) (And.intro @ZKV @ZL5))) (And.intro (And.intro @ZPg (And.intro @ZLN @ZPs)) (And.intro (And.intro @Zvf @Zwv) (And.intro @Zy2 @ZLZ)))) (And.intro (And.intro (And.intro @ZM8 (And.intro @ZOw @ZLU)) (And.intro (And.intro @ZJO @ZOf) (And.intro @ZOX @ZwF))) (And.intro (And.intro @ZvN (And.intro @ZNM @ZNP)) (And.intro (And.intro @ZMR @ZUd) (And.intro @ZRJ @b_25))))))
def Z6x := kBody Proofs.Try.f79
def Zp0 := kL Z6x
def ZbE := kO Zp0
def Znc := opN ZbE 0
theorem ZQu : XG 79 25 Zp0 ZbE [2] := Z2 (by rfl) (by rfl) _
theorem ZHj : ZbE.toList = [Znc] := nf
theorem ZFn : stepA E C B 25 ZbE Znc (φ, H) = some (fput φ 2 (.nilsl), H) := nf
def Zas := kR Z6x
def ZpH := kL Zas
def Z4H := kO ZpH
def ZmR := opN Z4H 0
def Zlc := opN Z4H 1
theorem ZTK : XG 79 25 ZpH Z4H [6] := Z2 (by rfl) (by rfl) _
theorem ZDZ : Z4H.toList = [ZmR, Zlc] := nf
theorem ZBW : stepA E C B 25 Z4H ZmR (φ, H) = stp (some 6) φ H (Z6 E.T (B + 6) 22 1 (evO E φ) [(0, Operand.const (Value.int .i64 0))]) := nf
theorem ZFc : stepA E C B 25 Z4H Zlc (φ, H) = some (fput φ 3 (fget φ 6), H) := nf
def Z9O := kR Zas
def Zb3 := kL Z9O
def Zpp := kL Zb3
def Z2Y := kO Zpp
def ZiL := opN Z2Y 0
def Zir := opN Z2Y 1
def Zmb := opN Z2Y 2
theorem ZRp : XG 79 25 Zpp Z2Y [0] := Z2 (by rfl) (by rfl) _
theorem ZBT : Z2Y.toList = [ZiL, Zir, Zmb] := nf
theorem ZH7 : stepA E C B 25 Z2Y ZiL (φ, H) = some (fput φ 7 (fget φ 0), H) := nf
theorem ZHi : stepA E C B 25 Z2Y Zir (φ, H) = stp (some 8) φ H (Z1 E.T (B + 8) .len #[22] [(fget φ 7)]) := nf
theorem ZGd : stepA E C B 25 Z2Y Zmb (φ, H) = some (fput φ 9 (.int .i64 0), H) := nf
def Zq1 := kR Zb3
def ZoU := kB Zq1
def Z3H := kB ZoU
def Zek := kL Z3H
def Za7 := kO Zek
def ZkL := opN Za7 0
theorem ZKG : XG 79 25 Zek Za7 [] := Z2 (by rfl) (by rfl) _
theorem ZEt : Za7.toList = [ZkL] := nf
theorem ZAC : stepA E C B 25 Za7 ZkL (φ, H) = stp (some 10) φ H (just (aBin E.T .lss 3 (fget φ 9) (fget φ 8))) := nf
def Z5I := kR Z3H
def Z5L := kL Z5I
def Zt6 := kT Z5L
theorem ZNO : execA E C (fg 79) B 25 E0 N Zt6 s = some (.normal, s) := Zp (by rfl) s
def Zsf := kE Z5L
theorem ZOK : execA E C (fg 79) B 25 E0 N Zsf s = some (.exit 0, s) := Z07 (by rfl) s
theorem ZOg : XC 79 25 Z5L 10 Zt6 Zsf := Zn (by rfl) _
def Z6l := kR Z5I
def Zc0 := kL Z6l
def Z7k := kB Zc0
def ZgI := kL Z7k
def Z13 := kO ZgI
def Ziz := opN Z13 0
def Zic := opN Z13 1
def ZmY := opN Z13 2
def Zj8 := opN Z13 3
def Zls := opN Z13 4
theorem ZJo : XG 79 25 ZgI Z13 [10, 11, 12, 13] := Z2 (by rfl) (by rfl) _
theorem ZDC : Z13.toList = [Ziz, Zic, ZmY, Zj8, Zls] := nf
theorem ZBM : stepA E C B 25 Z13 Ziz (φ, H) = some (fput φ 11 (fget φ 9), H) := nf
theorem ZHP : stepA E C B 25 Z13 Zic (φ, H) = stp (some 12) φ H (just (Z4 E.T 22 (fget φ 7) (fget φ 9))) := nf
theorem ZET : stepA E C B 25 Z13 ZmY (φ, H) = stp (some 13) φ H (just (aLoad E.T 3 (fget φ 12))) := nf
theorem ZHa : stepA E C B 25 Z13 Zj8 (φ, H) = some (fput φ 4 (fget φ 11), H) := nf
theorem ZCd : stepA E C B 25 Z13 Zls (φ, H) = some (fput φ 5 (fget φ 13), H) := nf
def ZfH := kR Z7k
def ZS := kO ZfH
def ZnF := opN ZS 0
def ZjO := opN ZS 1
def ZhB := opN ZS 2
def Zka := opN ZS 3
def ZnW := opN ZS 4
def Zo4 := opN ZS 5
def Zig := opN ZS 6
def Zob := opN ZS 7
def ZmE := opN ZS 8
def ZjT := opN ZS 9
theorem ZNq : XG 79 25 ZfH ZS [4, 5, 14, 15, 16, 17, 18, 19, 20, 21, 22] := Z2 (by rfl) (by rfl) _
theorem ZzP : ZS.toList = [ZnF, ZjO, ZhB, Zka, ZnW, Zo4, Zig, Zob, ZmE, ZjT] := nf
theorem ZHI : stepA E C B 25 ZS ZnF (φ, H) = some (fput φ 14 (fget φ 3), H) := nf
theorem ZEV : stepA E C B 25 ZS ZjO (φ, H) = some (fput φ 15 (fget φ 3), H) := nf
theorem ZBN : stepA E C B 25 ZS ZhB (φ, H) = some (fput φ 16 (fget φ 4), H) := nf
theorem Zzu : stepA E C B 25 ZS Zka (φ, H) = stp (some 17) φ H (just (Z4 E.T 22 (fget φ 15) (fget φ 16))) := nf
theorem ZBk : stepA E C B 25 ZS ZnW (φ, H) = stp (some 18) φ H (just (aLoad E.T 3 (fget φ 17))) := nf
theorem ZA5 : stepA E C B 25 ZS Zo4 (φ, H) = some (fput φ 19 (fget φ 5), H) := nf
theorem ZJb : stepA E C B 25 ZS Zig (φ, H) = stp (some 20) φ H (just (aBin E.T .add 3 (fget φ 18) (fget φ 19))) := nf
theorem ZDU : stepA E C B 25 ZS Zob (φ, H) = stp (some 21) φ H (Z6 E.T (B + 21) 22 1 (evO E φ) [(0, Operand.tmp 20)]) := nf
theorem ZEy : stepA E C B 25 ZS ZmE (φ, H) = stp (some 22) φ H (Z1 E.T (B + 22) .append #[22, 22] [(fget φ 14), (fget φ 21)]) := nf
theorem ZBI : stepA E C B 25 ZS ZjT (φ, H) = some (fput φ 3 (fget φ 22), H) := nf
theorem ZOZ : XQ 79 25 Z7k ZgI ZfH := Z0 (by rfl) _
theorem ZK8 : execA E C (fg 79) B 25 E0 N Zc0 s = blockX 1 (fun s => (forget s.1 [], s.2)) (execA E C (fg 79) B 25 E0 N Z7k s) := Zk (by rfl) (by rfl) s
def Zfy := kR Z6l
def Z4M := kO Zfy
def Zjy := opN Z4M 0
def ZmM := opN Z4M 1
theorem ZLP : XG 79 25 Zfy Z4M [23] := Z2 (by rfl) (by rfl) _
theorem ZHA : Z4M.toList = [Zjy, ZmM] := nf
theorem ZEb : stepA E C B 25 Z4M Zjy (φ, H) = stp (some 23) φ H (just (aBin E.T .add 3 (fget φ 9) (.int .i64 1))) := nf
theorem ZGL : stepA E C B 25 Z4M ZmM (φ, H) = some (fput φ 9 (fget φ 23), H) := nf
theorem ZMQ : XQ 79 25 Z6l Zc0 Zfy := Z0 (by rfl) _
theorem ZO8 : XQ 79 25 Z5I Z5L Z6l := Z0 (by rfl) _
theorem ZTh : XQ 79 25 Z3H Zek Z5I := Z0 (by rfl) _
theorem ZRL : execA E C (fg 79) B 25 E0 N ZoU s = iterA (execA E C (fg 79) B 25 E0 N Z3H) (headA E0) N s := Z0a (by rfl) s
theorem ZST : execA E C (fg 79) B 25 E0 N Zq1 s = blockX 0 (fun s => (forget s.1 [7, 8, 9, 10], s.2)) (execA E C (fg 79) B 25 E0 N ZoU s) := Zk (by rfl) (by rfl) s
theorem ZRZ : XQ 79 25 Zb3 Zpp Zq1 := Z0 (by rfl) _
def Z7P := kR Z9O
def Zfh := kL Z7P
def Z4N := kO Zfh
def Zik := opN Z4N 0
def ZjR := opN Z4N 1
theorem ZJU : XG 79 25 Zfh Z4N [3, 24] := Z2 (by rfl) (by rfl) _
theorem ZG8 : Z4N.toList = [Zik, ZjR] := nf
theorem ZF4 : stepA E C B 25 Z4N Zik (φ, H) = some (fput φ 24 (fget φ 3), H) := nf
theorem ZAp : stepA E C B 25 Z4N ZjR (φ, H) = some (fput φ 2 (fget φ 24), H) := nf
def Zqp := kR Z7P
theorem ZK1 : execA E C (fg 79) B 25 E0 N Zqp s = some (.ret, s) := Zs (by rfl) s
theorem ZOY : XQ 79 25 Z7P Zfh Zqp := Z0 (by rfl) _
theorem ZUI : XQ 79 25 Z9O Zb3 Z7P := Z0 (by rfl) _
theorem ZQO : XQ 79 25 Zas ZpH Z9O := Z0 (by rfl) _
theorem ZRR : XQ 79 25 Z6x Zp0 Zas := Z0 (by rfl) _
theorem ZS0 : fInfo E 79 = some ⟨25, #[.tmp 2], Z6x⟩ := nf
theorem b_79 (args : List AV) : bodyA E C fg N 79 args H B = bodyX E [.tmp 2] (execA E C (fg 79) B 25 H N Z6x (Z3 args 0 [], H)) := Zw ZS0 args H
abbrev F_79 := And.intro (And.intro (And.intro (And.intro (And.intro @ZQu (And.intro @ZHj @ZFn)) (And.intro (And.intro @ZTK @ZDZ) (And.intro @ZBW @ZFc))) (And.intro (And.intro @ZRp (And.intro @ZBT @ZH7)) (And.intro (And.intro @ZHi @ZGd) (And.intro @ZKG @ZEt)))) (And.intro (And.intro (And.intro @ZAC (And.intro @ZNO @ZOK)) (And.intro (And.intro @ZOg @ZJo) (And.intro @ZDC @ZBM))) (And.intro (And.intro (And.intro @ZHP @ZET) (And.intro @ZHa @ZCd)) (And.intro (And.intro @ZNq @ZzP) (And.intro @ZHI @ZEV))))) (And.intro (And.intro (And.intro (And.intro @ZBN (And.intro @Zzu @ZBk)) (And.intro (And.intro @ZA5 @ZJb) (And.intro @ZDU @ZEy))) (And.intro (And.intro (And.intro @ZBI @ZOZ) (And.intro @ZK8 @ZLP)) (And.intro (And.intro @ZHA @ZEb) (And.intro @ZGL @ZMQ)))) (And.intro (And.intro (And.intro @ZO8 (And.intro @ZTh @ZRL)) (And.intro (And.intro @ZST @ZRZ) (And.intro @ZJU @ZG8))) (And.intro (And.intro (And.intro @ZF4 @ZAp) (And.intro @ZK1 @ZOY)) (And.intro (And.intro @ZUI @ZQO) (And.intro @ZRR @b_79)))))
end Go.AM.Ytfmnoohhhokicaa
end
noncomputable section
namespace Go.AM.Rub
def ps (f : Nat → Int) : Nat → Int
 | 0 => 0
 | k + 1 => ps f k + f k
theorem Z0x {f g : Nat → Int} : ∀ n, (∀ i, i < n → f i = g i) → ps f n = ps g n
 | 0, _ => rfl
 | n + 1, h => by simp only [ps]; rw [Z0x n fun i hi => h i (by omega), h n (by omega)]
def ap (a b : Nat → Int) (n : Nat) : Int := ps (fun i => max (a i - b i) 0) n
def DescF (a : Nat → Int) (n : Nat) : Prop := ∀ i, i + 1 < n → a (i + 1) ≤ a i
theorem Ziw {a : Nat → Int} {n : Nat} (h : DescF a n) : ∀ m i, i + m < n → a (i + m) ≤ a i
 | 0, i, _ => Int.le_refl _
 | m + 1, i, hi => by
   have := Ziw h m i (by omega)
   have := h (i + m) (by omega)
   rw [show i + (m + 1) = i + m + 1 by omega]; omega
theorem Z0s {a : Nat → Int} {n : Nat} (h : DescF a n) {i j : Nat} (hij : i ≤ j) (hj : j < n) : a j ≤ a i := by
 have := Ziw h (j - i) i (by omega)
 rwa [show i + (j - i) = j by omega] at this
structure Maj (a b : Nat → Int) (n : Nat) : Prop where
 eq : ps a n = ps b n
 le : ∀ k, k ≤ n → ps b k ≤ ps a k
theorem Maj.refl (a : Nat → Int) (n : Nat) : Maj a a n := ⟨rfl, fun _ _ => Int.le_refl _⟩
theorem Maj.trans {a b c : Nat → Int} {n : Nat} (h1 : Maj a b n) (h2 : Maj b c n) : Maj a c n :=
 ⟨h1.eq.trans h2.eq, fun k hk => Int.le_trans (h2.le k hk) (h1.le k hk)⟩
def mvF (a : Nat → Int) (i j : Nat) (m : Nat) : Int := if m = i then a m - 1 else if m = j then a m + 1 else a m
theorem ZpM {a : Nat → Int} {i j : Nat} (hij : i < j) : ∀ k, ps (mvF a i j) k = ps a k - (if i < k ∧ k ≤ j then 1 else 0)
 | 0 => by simp [ps]
 | k + 1 => by
   simp only [ps, ZpM hij k, mvF]
   by_cases h1 : k = i
   · subst h1
     rw [if_pos rfl, if_neg (by omega), if_pos (by omega)]; omega
   · rw [if_neg h1]
     by_cases h2 : k = j
     · subst h2
       rw [if_pos rfl, if_pos (by omega), if_neg (by omega)]; omega
     · rw [if_neg h2]
       by_cases h3 : i < k ∧ k ≤ j
       · rw [if_pos h3, if_pos (by omega)]; omega
       · rw [if_neg h3, if_neg (by omega)]; omega
theorem Z5t {P : Nat → Prop} [DecidablePred P] : ∀ n, (∃ k, k < n ∧ P k) → ∃ k, k < n ∧ P k ∧ ∀ m, m < k → ¬ P m
 | 0, h => by obtain ⟨k, hk, _⟩ := h; omega
 | n + 1, h => by
   by_cases hx : ∃ k, k < n ∧ P k
   · obtain ⟨k, h1, h2, h3⟩ := Z5t n hx
     exact ⟨k, by omega, h2, h3⟩
   · obtain ⟨k, hk, hp⟩ := h
     have : k = n := by
       by_cases e : k = n
       · exact e
       · exact absurd ⟨k, by omega, hp⟩ hx
     subst this
     exact ⟨k, by omega, hp, fun m hm hpm => hx ⟨m, hm, hpm⟩⟩
theorem Zl5 {P : Nat → Prop} [DecidablePred P] : ∀ n, (∃ k, k < n ∧ P k) → ∃ k, k < n ∧ P k ∧ ∀ m, k < m → m < n → ¬ P m
 | 0, h => by obtain ⟨k, hk, _⟩ := h; omega
 | n + 1, h => by
   by_cases hp : P n
   · exact ⟨n, by omega, hp, fun m h1 h2 => by omega⟩
   · obtain ⟨k, hk, hpk⟩ := h
     have hkn : k ≠ n := fun e => hp (e ▸ hpk)
     obtain ⟨k', h1, h2, h3⟩ := Zl5 n ⟨k, by omega, hpk⟩
     refine ⟨k', by omega, h2, fun m hm1 hm2 => ?_⟩
     by_cases e : m = n
     · subst e; exact hp
     · exact h3 m hm1 (by omega)
theorem ZoV {a b : Nat → Int} : ∀ n, (∀ i, i < n → b i ≤ a i) → ps b n ≤ ps a n
 | 0, _ => by simp [ps]
 | n + 1, h => by
   have := ZoV n fun i hi => h i (by omega)
   have := h n (by omega)
   simp only [ps]; omega
theorem Z3K {a b : Nat → Int} {i : Nat} : ∀ n, i < n → (∀ m, m < n → b m ≤ a m) → ps b n + (a i - b i) ≤ ps a n
 | 0, hi, _ => by omega
 | n + 1, hi, h => by
   simp only [ps]
   by_cases e : i = n
   · subst e
     have := ZoV i fun m hm => h m (by omega)
     omega
   · have := Z3K (i := i) n (by omega) fun m hm => h m (by omega)
     have := h n (by omega)
     omega
theorem ZyH {a b : Nat → Int} {n : Nat} (ha : DescF a n) (hb : DescF b n) (h : Maj a b n) (hne : ∃ k, k < n ∧ a k ≠ b k) :
   ∃ i j, i < j ∧ j < n ∧ a i - a j ≥ 2 ∧ DescF (mvF a i j) n ∧ Maj (mvF a i j) b n ∧ ap (mvF a i j) b n = ap a b n - 1 ∧ (∀ m, i < m → m < n → a m < a i) ∧ (∀ m, m < j → a j < a m) := by
 have hlt : ∃ k, k < n ∧ a k < b k := by
   by_cases hx : ∃ k, k < n ∧ a k < b k
   · exact hx
   · have hge : ∀ m, m < n → b m ≤ a m := fun m hm => by
       by_cases e : a m < b m
       · exact absurd ⟨m, hm, e⟩ hx
       · omega
     obtain ⟨k, hk, hk2⟩ := hne
     have := Z3K (i := k) n hk hge
     have := hge k hk
     have := h.eq
     omega
 obtain ⟨j, hj, hjl, hjf⟩ := Z5t n hlt
 have hgt : ∃ k, k < j ∧ b k < a k := by
   by_cases hx : ∃ k, k < j ∧ b k < a k
   · exact hx
   · have hle : ∀ m, m < j → a m ≤ b m := fun m hm => by
       by_cases e : b m < a m
       · exact absurd ⟨m, hm, e⟩ hx
       · omega
     have := ZoV (a := b) (b := a) j hle
     have := h.le (j + 1) (by omega)
     simp only [ps] at this
     omega
 obtain ⟨i, hi, hig, hil⟩ := Zl5 j hgt
 have mid : ∀ m, i < m → m < j → a m = b m := fun m h1 h2 => by
   have := hil m h1 h2
   have := hjf m h2
   omega
 have before : ∀ m, m < j → b m ≤ a m := fun m hm => by have := hjf m hm; omega
 have bij : b j ≤ b i := Z0s hb (by omega) hj
 have h2 : a i - a j ≥ 2 := by omega
 have li : ∀ m, i < m → m < n → a m < a i := fun m h1 hm => by
   by_cases e : m < j
   · have := mid m h1 e
     have := Z0s hb (show i ≤ m by omega) hm
     omega
   · have := Z0s ha (show j ≤ m by omega) hm
     omega
 have fj : ∀ m, m < j → a j < a m := fun m hm => by
   by_cases e : i < m
   · have := mid m e hm
     have := Z0s hb (show m ≤ j by omega) hj
     omega
   · have := Z0s ha (show m ≤ i by omega) (by omega)
     omega
 refine ⟨i, j, hi, hj, h2, ?_, ?_, ?_, li, fj⟩
 · intro m hm
   have d := ha m hm
   simp only [mvF]
   by_cases e1 : m + 1 = i
   · rw [if_pos e1, if_neg (by omega), if_neg (by omega)]; omega
   · rw [if_neg e1]
     by_cases e2 : m + 1 = j
     · rw [if_pos e2]
       have := fj m (by omega)
       subst e2
       by_cases e3 : m = i
       · subst e3; rw [if_pos rfl]; omega
       · rw [if_neg e3, if_neg (by omega)]; omega
     · rw [if_neg e2]
       by_cases e3 : m = i
       · subst e3; rw [if_pos rfl]
         have := li (m + 1) (by omega) hm
         omega
       · rw [if_neg e3]
         by_cases e4 : m = j
         · rw [if_pos e4]; omega
         · rw [if_neg e4]; exact d
 · refine ⟨?_, fun k hk => ?_⟩
   · rw [ZpM hi, if_neg (by omega)]; have := h.eq; omega
   · rw [ZpM hi]
     have := h.le k hk
     split
     · rename_i hc
       have := Z3K (a := a) (b := b) (i := i) k (by omega) fun m hm => before m (by omega)
       omega
     · omega
 · have key : ∀ k, k ≤ n → ap (mvF a i j) b k = ap a b k - (if i < k then 1 else 0) := by
     intro k
     induction k with
     | zero => intro _; simp [ap, ps]
     | succ k ih =>
       intro hk
       have ih := ih (by omega)
       simp only [ap, ps] at ih ⊢
       rw [ih]
       have e : mvF a i j k = (if k = i then a k - 1 else if k = j then a k + 1 else a k) := rfl
       rw [e]
       by_cases e1 : k = i
       · subst e1; rw [if_pos rfl, if_neg (by omega), if_pos (by omega)]; omega
       · rw [if_neg e1]
         by_cases e2 : k = j
         · subst e2; rw [if_pos rfl, if_pos (by omega), if_pos (by omega)]; omega
         · rw [if_neg e2]
           by_cases e3 : i < k
           · rw [if_pos e3, if_pos (by omega)]; omega
           · rw [if_neg e3, if_neg (by omega)]; omega
   have := key n (Nat.le_refl _)
   rwa [if_pos (by omega)] at this
theorem Z42 (a b : Nat → Int) : ∀ n, 0 ≤ ap a b n
 | 0 => by simp [ap, ps]
 | n + 1 => by
   have := Z42 a b n
   simp only [ap, ps] at *; omega
theorem Z8u {a b : Nat → Int} : ∀ n, ap a b n = 0 ↔ ∀ k, k < n → a k ≤ b k
 | 0 => by simp [ap, ps]
 | n + 1 => by
   have ih := Z8u (a := a) (b := b) n
   have := Z42 a b n
   simp only [ap, ps] at *
   constructor
   · intro h k hk
     by_cases e : k = n
     · subst e; omega
     · exact ih.1 (by omega) k (by omega)
   · intro h
     have := ih.2 fun k hk => h k (by omega)
     have := h n (by omega)
     omega
theorem ZvU {a b : Nat → Int} {n : Nat} (h : ∀ k, k < n → a k ≤ b k) (he : ps a n = ps b n) : ∀ k, k < n → a k = b k := fun k hk => by
 have := Z3K (a := b) (b := a) (i := k) n hk h
 have := h k hk
 omega
end Go.AM.Rub
end
noncomputable section
namespace Go.AM.Rub
def IsRow : Int → List Int → Prop
 | _, [] => True
 | m, x :: l => 0 ≤ x ∧ x ≤ m ∧ IsRow x l
def totL : List Int → Int
 | [] => 0
 | x :: l => x + totL l
def dnN : Nat → List Int
 | 0 => [0]
 | n + 1 => ((n + 1 : Nat) : Int) :: dnN n
def dn (k : Int) : List Int := if k < 0 then [] else dnN k.toNat
theorem Z8J : ∀ (n : Nat) (x : Int), x ∈ dnN n ↔ 0 ≤ x ∧ x ≤ n
 | 0, x => by simp [dnN]; omega
 | n + 1, x => by
   simp only [dnN, List.mem_cons, Z8J n x]
   omega
theorem Z7D (k x : Int) : x ∈ dn k ↔ 0 ≤ x ∧ x ≤ k := by
 unfold dn
 split
 · simp; omega
 · rw [Z8J]; omega
theorem Z75 : ∀ n, (dnN n).length = n + 1
 | 0 => rfl
 | n + 1 => by simp [dnN, Z75 n]
def rowsL : Nat → Int → Int → List (List Int)
 | 0, s, _ => if s = 0 then [[]] else []
 | n + 1, s, m => (dn (min m s)).flatMap fun t => (rowsL n (s - t) t).map (t :: ·)
theorem Z5f : ∀ {m : Int} {l : List Int}, IsRow m l → 0 ≤ totL l
 | _, [], _ => by simp [totL]
 | m, x :: l, ⟨h1, h2, h3⟩ => by have := Z5f h3; simp only [totL]; omega
theorem Z1i : ∀ (n : Nat) (s m : Int) (l : List Int), l ∈ rowsL n s m ↔ l.length = n ∧ totL l = s ∧ IsRow m l
 | 0, s, m, l => by
   simp only [rowsL]
   constructor
   · intro h
     split at h
     · rename_i hs
       have h : l = [] := by simpa using h
       subst h; exact ⟨rfl, by simp [totL, hs], trivial⟩
     · simp at h
   · rintro ⟨h1, h2, h3⟩
     obtain rfl := List.length_eq_zero_iff.1 h1
     simp only [totL] at h2
     rw [if_pos h2.symm]; simp
 | n + 1, s, m, l => by
   simp only [rowsL, List.mem_flatMap, List.mem_map, Z7D]
   constructor
   · rintro ⟨t, ⟨t0, t1⟩, r, hr, rfl⟩
     obtain ⟨h1, h2, h3⟩ := (Z1i n (s - t) t r).1 hr
     exact ⟨by simp [h1], by simp only [totL]; omega, t0, by omega, h3⟩
   · rintro ⟨h1, h2, h3⟩
     match l, h1, h2, h3 with
     | x :: r, h1, h2, ⟨a, b, c⟩ =>
       have := Z5f c
       simp only [totL] at h2
       exact ⟨x, ⟨a, by omega⟩, r, (Z1i n (s - x) x r).2 ⟨by simpa using h1, by omega, c⟩, rfl⟩
def lexGt : List Int → List Int → Prop
 | x :: l, y :: r => x > y ∨ x = y ∧ lexGt l r
 | _, _ => False
theorem Zfu : ∀ n, (dnN n).Pairwise (· > ·)
 | 0 => by simp [dnN]
 | n + 1 => by
   simp only [dnN]
   refine List.pairwise_cons.2 ⟨fun x hx => ?_, Zfu n⟩
   have := (Z8J n x).1 hx
   omega
theorem ZGY (k : Int) : (dn k).Pairwise (· > ·) := by
 unfold dn
 split
 · simp
 · exact Zfu _
theorem Z9b {f : Int → List (List Int)} (hf : ∀ t, (f t).Pairwise lexGt) : ∀ {ts : List Int}, ts.Pairwise (· > ·) → (ts.flatMap fun t => (f t).map (t :: ·)).Pairwise lexGt
 | [], _ => by simp
 | t :: ts, h => by
   obtain ⟨h1, h2⟩ := List.pairwise_cons.1 h
   rw [List.flatMap_cons, List.pairwise_append]
   refine ⟨?_, Z9b hf h2, fun a ha b hb => ?_⟩
   · rw [List.pairwise_map]
     exact (hf t).imp fun hab => .inr ⟨rfl, hab⟩
   · obtain ⟨r, _, rfl⟩ := List.mem_map.1 ha
     obtain ⟨u, hu, hb⟩ := List.mem_flatMap.1 hb
     obtain ⟨q, _, rfl⟩ := List.mem_map.1 hb
     exact .inl (h1 u hu)
theorem Z5J : ∀ (n : Nat) (s m : Int), (rowsL n s m).Pairwise lexGt
 | 0, s, m => by simp only [rowsL]; split <;> simp
 | n + 1, s, m => Z9b (fun t => Z5J n (s - t) t) (ZGY _)
theorem ZeY {β : Type} {f : Int → List β} {M : Nat} : ∀ {ts : List Int}, (∀ t ∈ ts, (f t).length ≤ M) → (ts.flatMap f).length ≤ ts.length * M
 | [], _ => by simp
 | t :: ts, h => by
   have := ZeY (f := f) (M := M) (ts := ts) fun u hu => h u (by simp [hu])
   have := h t (by simp)
   simp only [List.flatMap_cons, List.length_append, List.length_cons, Nat.add_mul, Nat.one_mul]
   omega
theorem Z41 : ∀ (n : Nat) (s m : Int), m ≤ 8 → (rowsL n s m).length ≤ 9 ^ n
 | 0, s, m, _ => by simp only [rowsL]; split <;> simp
 | n + 1, s, m, hm => by
   simp only [rowsL]
   refine Nat.le_trans (ZeY (M := 9 ^ n) fun t ht => ?_) ?_
   · rw [List.length_map]
     have := (Z7D _ _).1 ht
     exact Z41 n (s - t) t (by omega)
   · rw [Nat.pow_succ, Nat.mul_comm (9 ^ n)]
     refine Nat.mul_le_mul_right _ ?_
     unfold dn
     split
     · simp
     · rw [Z75]; omega
def rowF (l : List Int) (i : Nat) : Int := l.getD i 0
theorem Z2d (x : Int) (l : List Int) : ∀ k, ps (rowF (x :: l)) (k + 1) = x + ps (rowF l) k
 | 0 => by simp [ps, rowF]
 | k + 1 => by rw [ps, Z2d x l k, ps]; simp [rowF]; omega
theorem Z1m : ∀ l : List Int, ps (rowF l) l.length = totL l
 | [] => rfl
 | x :: l => by rw [List.length_cons, Z2d, Z1m l]; rfl
theorem Z0v : ∀ {m : Int} {l : List Int}, IsRow m l → DescF (rowF l) l.length
 | _, [], _ => fun i hi => by simp at hi
 | m, x :: l, ⟨h1, h2, h3⟩ => fun i hi => by
   cases i with
   | zero =>
     cases l with
     | nil => simp at hi
     | cons y l => simp only [rowF]; simp; exact h3.2.1
   | succ i =>
     have := Z0v h3 i (by simpa using hi)
     simpa [rowF] using this
end Go.AM.Rub
end
noncomputable section
namespace Go.AM.Rub
theorem Z3D : ∀ {m : Int} {l : List Int}, (∀ i, i < l.length → 0 ≤ rowF l i) → (0 < l.length → rowF l 0 ≤ m) → DescF (rowF l) l.length → IsRow m l
 | _, [], _, _, _ => trivial
 | m, x :: l, h1, h2, h3 => by
   refine ⟨h1 0 (by simp), h2 (by simp), Z3D (fun i hi => ?_) (fun hl => ?_) (fun i hi => ?_)⟩
   · have := h1 (i + 1) (by simpa using hi); simpa [rowF] using this
   · have := h3 0 (by simpa using hl); simpa [rowF] using this
   · have := h3 (i + 1) (by simpa using hi); simpa [rowF] using this
theorem Z09 : ∀ {m : Int} {l : List Int}, IsRow m l → ∀ i, i < l.length → 0 ≤ rowF l i ∧ rowF l i ≤ m
 | _, [], _, i, hi => by simp at hi
 | m, x :: l, ⟨h1, h2, h3⟩, i, hi => by
   cases i with
   | zero => simp only [rowF]; simp; exact ⟨h1, h2⟩
   | succ i =>
     have := Z09 h3 i (by simpa using hi)
     have e : rowF (x :: l) (i + 1) = rowF l i := by simp [rowF]
     rw [e]; omega
theorem Z8G {a b : List Int} (hl : a.length = b.length) (h : ∀ i, i < a.length → rowF a i = rowF b i) : a = b := by
 apply List.ext_getElem hl
 intro i h1 h2
 have := h i h1
 simpa [rowF, h1, h2] using this
def mvL (l : List Int) (i j : Nat) : List Int := (l.set i (rowF l i - 1)).set j (rowF l j + 1)
theorem Z0R (l : List Int) (i j : Nat) : (mvL l i j).length = l.length := by simp [mvL]
theorem Z1A {l : List Int} {i j : Nat} (hij : i < j) (hj : j < l.length) (m : Nat) : rowF (mvL l i j) m = mvF (rowF l) i j m := by
 simp only [mvL, mvF]
 have e : ∀ (l : List Int) (k m : Nat) (v : Int), k < l.length → rowF (l.set k v) m = if m = k then v else rowF l m := by
   intro l k m v hk
   simp only [rowF, List.getD_eq_getElem?_getD, List.getElem?_set]
   by_cases h : k = m
   · subst h; simp [hk]
   · rw [if_neg h, if_neg (by omega)]
 rw [e _ _ _ _ (by simp; omega), e _ _ _ _ (by omega)]
 by_cases h1 : m = j
 · rw [if_pos h1, if_neg (by omega), if_pos h1, h1]
 · rw [if_neg h1, if_neg h1]
   by_cases h2 : m = i
   · rw [if_pos h2, if_pos h2, h2]
   · rw [if_neg h2, if_neg h2]
def lastEq (l : List Int) : Nat → Nat → Nat
 | i, 0 => i
 | i, m + 1 => if i + 1 < l.length ∧ rowF l (i + 1) = rowF l i then lastEq l (i + 1) m else i
def firstEq (l : List Int) : Nat → Nat
 | 0 => 0
 | j + 1 => if rowF l j = rowF l (j + 1) then firstEq l j else j + 1
theorem Z59 {l : List Int} (hd : DescF (rowF l) l.length) : ∀ (m i : Nat), i + m + 1 ≥ l.length → i < l.length → i ≤ lastEq l i m ∧ lastEq l i m < l.length ∧ rowF l (lastEq l i m) = rowF l i ∧ ∀ k, lastEq l i m < k → k < l.length → rowF l k < rowF l i
 | 0, i, h1, h2 => ⟨Nat.le_refl _, h2, rfl, fun k hk hk2 => by simp only [lastEq] at hk; omega⟩
 | m + 1, i, h1, h2 => by
   simp only [lastEq]
   by_cases h : i + 1 < l.length ∧ rowF l (i + 1) = rowF l i
   · rw [if_pos h]
     obtain ⟨a, b, c, d⟩ := Z59 hd m (i + 1) (by omega) h.1
     exact ⟨by omega, b, by rw [c, h.2], fun k hk hk2 => by rw [← h.2]; exact d k hk hk2⟩
   · rw [if_neg h]
     refine ⟨Nat.le_refl _, h2, rfl, fun k hk hk2 => ?_⟩
     have h3 : ¬ rowF l (i + 1) = rowF l i := fun e => h ⟨by omega, e⟩
     have h4 := hd i (by omega)
     have h5 := Z0s hd (show i + 1 ≤ k by omega) hk2
     omega
theorem Z3T {l : List Int} (hd : DescF (rowF l) l.length) : ∀ j, j < l.length → firstEq l j ≤ j ∧ rowF l (firstEq l j) = rowF l j ∧ ∀ k, k < firstEq l j → rowF l j < rowF l k
 | 0, _ => ⟨Nat.le_refl _, rfl, fun k hk => by simp only [firstEq] at hk; omega⟩
 | j + 1, hj => by
   simp only [firstEq]
   by_cases h : rowF l j = rowF l (j + 1)
   · rw [if_pos h]
     obtain ⟨a, b, c⟩ := Z3T hd j (by omega)
     exact ⟨by omega, by rw [b, h], fun k hk => by rw [← h]; exact c k hk⟩
   · rw [if_neg h]
     refine ⟨Nat.le_refl _, rfl, fun k hk => ?_⟩
     have h4 := hd j hj
     have h5 := Z0s hd (show k ≤ j by omega) (by omega)
     omega
def rubL (l : List Int) (i j : Nat) : List Int := mvL l (lastEq l i l.length) (firstEq l j)
structure Rw (n : Nat) (l : List Int) : Prop where
 len : l.length = n
 row : IsRow 8 l
theorem ZL0 {n : Nat} {l : List Int} (h : Rw n l) {i j : Nat} (hij : i < j) (hj : j < n) (h2 : rowF l i - rowF l j ≥ 2) (hd : DescF (mvF (rowF l) i j) n) : Rw n (mvL l i j) := by
 have hl := h.len
 refine ⟨by rw [Z0R, hl], Z3D (fun k hk => ?_) (fun hk => ?_) (fun k hk => ?_)⟩
 · rw [Z0R] at hk
   rw [Z1A hij (by omega)]
   have a := Z09 h.row k hk
   have b := Z09 h.row j (by omega)
   simp only [mvF]
   by_cases e1 : k = i
   · rw [if_pos e1, e1]; omega
   · rw [if_neg e1]; split <;> omega
 · rw [Z1A hij (by omega)]
   have a := Z09 h.row 0 (by omega)
   have b := Z09 h.row i (by omega)
   simp only [mvF]
   by_cases e1 : 0 = i
   · rw [if_pos e1]; omega
   · rw [if_neg e1, if_neg (by omega)]; omega
 · rw [Z0R, hl] at hk
   rw [Z1A hij (by omega), Z1A hij (by omega)]
   exact hd k hk
structure Rb (n : Nat) (l : List Int) (i j : Nat) : Prop where
 lt : i < j
 lj : j < n
 df : rowF l i - rowF l j ≥ 2
theorem ZqH {a a' b b' : Nat → Int} {n : Nat} (ha : ∀ i, i < n → a i = a' i) (hb : ∀ i, i < n → b i = b' i) (h : Maj a b n) : Maj a' b' n := by
 refine ⟨?_, fun k hk => ?_⟩
 · rw [← Z0x n ha, ← Z0x n hb]; exact h.eq
 · rw [← Z0x k fun i hi => ha i (by omega), ← Z0x k fun i hi => hb i (by omega)]; exact h.le k hk
theorem Zuq {a a' b b' : Nat → Int} {n : Nat} (ha : ∀ i, i < n → a i = a' i) (hb : ∀ i, i < n → b i = b' i) : ap a b n = ap a' b' n :=
 Z0x n fun i hi => by rw [ha i hi, hb i hi]
def MajL (a b : List Int) : Prop := Maj (rowF a) (rowF b) a.length
def apL (a b : List Int) : Nat := (ap (rowF a) (rowF b) a.length).toNat
theorem Z5m (a b : List Int) : (apL a b : Int) = ap (rowF a) (rowF b) a.length := by
 have := Z42 (rowF a) (rowF b) a.length
 unfold apL; omega
theorem Z9c {n : Nat} {a b : List Int} (ha : Rw n a) (hb : Rw n b) (h : MajL a b) (hne : a ≠ b) :
   ∃ i j, Rb n a i j ∧ Rw n (mvL a i j) ∧ MajL (mvL a i j) b ∧ apL a b = apL (mvL a i j) b + 1 ∧ rubL a i j = mvL a i j := by
 have la := ha.len
 have lb := hb.len
 have hx : ∃ k, k < n ∧ rowF a k ≠ rowF b k := by
   by_cases e : ∃ k, k < n ∧ rowF a k ≠ rowF b k
   · exact e
   · refine absurd (Z8G (by omega) fun i hi => ?_) hne
     by_cases e2 : rowF a i = rowF b i
     · exact e2
     · exact absurd ⟨i, by omega, e2⟩ e
 have da := Z0v ha.row
 have db := Z0v hb.row
 unfold MajL at h
 rw [la] at da h
 rw [lb] at db
 obtain ⟨i, j, h1, h2, h3, h4, h5, h6, h7, h8⟩ := ZyH da db h hx
 have r : Rb n a i j := ⟨h1, h2, h3⟩
 have hj : j < a.length := by omega
 refine ⟨i, j, r, ZL0 ha h1 h2 h3 h4, ?_, ?_, ?_⟩
 · unfold MajL
   rw [Z0R, la]
   exact ZqH (fun k _ => (Z1A h1 hj k).symm) (fun _ _ => rfl) h5
 · have c1 := Z5m a b
   have c2 := Z5m (mvL a i j) b
   rw [Z0R] at c2
   have e : ap (rowF (mvL a i j)) (rowF b) a.length = ap (mvF (rowF a) i j) (rowF b) n := by rw [la]; exact Zuq (fun k _ => Z1A h1 hj k) (fun _ _ => rfl)
   rw [la] at c1 c2 e
   omega
 · obtain ⟨a1, a2, a3, a4⟩ := Z59 (Z0v ha.row) a.length i (by omega) (by omega)
   obtain ⟨b1, b2, b3⟩ := Z3T (Z0v ha.row) j (by omega)
   have e1 : lastEq a i a.length = i := by
     by_cases e : lastEq a i a.length = i
     · exact e
     · have := h7 (lastEq a i a.length) (by omega) (by omega); omega
   have e2 : firstEq a j = j := by
     by_cases e : firstEq a j = j
     · exact e
     · have := h8 (firstEq a j) (by omega); omega
   rw [rubL, e1, e2]
end Go.AM.Rub
end
noncomputable section
namespace Go.AM.Ytfmnoohhhokicaa
open Go Go.AM Go.AM.Rub
def pF (d : Nat) : Callee := callF E fr fg 1000000 d
def kF (d : Nat) : Callee := frC fr (pF d)
theorem pF_s (d : Nat) : pF (d + 1) = bodyA E (kF d) fg 1000000 := nf
theorem Z15 {d : Nat} {f : FuncId} (hf : fr f = false) (args : List AV) (H : AHeap) (B : Nat) : kF (d + 1) f args H B = bodyA E (kF d) fg 1000000 f args H B := by
 unfold kF frC
 rw [hf]
 rfl
theorem Z0b {d : Nat} {f : FuncId} (hf : fr f = true) (args : List AV) (H : AHeap) (B : Nat) : kF d f args H B = focus (pF d) f args H B (mark H 1000 (refsL args) []).reverse := by
 unfold kF frC
 rw [hf]
theorem Z2F {d : Nat} {f : FuncId} {args : List AV} {v : AV} (hf : fr f = false) (h : rsOf (bodyA E (kF d) fg 1000000 f args [] 0) = some v) : ∃ H', kF (d + 1) f args [] 0 = some (v, H') := by
 rw [Z15 hf]; exact Zz1 h
theorem loopM {E0 : AHeap} {f : St → XR} (st : Nat → St) (n : Nat) (h : ∀ i, i < n → ∃ s', f (st i) = some (.normal, s') ∧ headA E0 s' = st (i + 1)) (h0 : headA E0 (st 0) = st 0) (hn : n < 1000000) {e : Ex} {se : St} (he : f (st n) = some (e, se)) (hne : e ≠ .normal) :
   iterA f (headA E0) 1000000 (st 0) = some (e, se) :=
 Z3L st n 1000000 0 (st 0) h0 hn (fun i _ h2 => h i (by omega)) (by rw [Nat.zero_add]; exact he) hne
theorem loopMS {E0 : AHeap} {f : St → XR} {s0 : St} (st : Nat → St) (n : Nat) (h : ∀ i, i < n → ∃ s', f (st i) = some (.normal, s') ∧ headA E0 s' = st (i + 1)) (h0 : headA E0 s0 = st 0) (hn : n < 1000000) {e : Ex} {se : St} (he : f (st n) = some (e, se)) (hne : e ≠ .normal) :
   iterA f (headA E0) 1000000 s0 = some (e, se) :=
 Z3L st n 1000000 0 s0 h0 hn (fun i _ h2 => h i (by omega)) (by rw [Nat.zero_add]; exact he) hne
theorem Z6K {E0 : AHeap} {f : St → XR} {s0 : St} (h0 : headA E0 s0 = s0) {e : Ex} {se : St} (he : f s0 = some (e, se)) (hne : e ≠ .normal) : iterA f (headA E0) 1000000 s0 = some (e, se) :=
 loopM (fun _ => s0) 0 (fun i hi => by omega) h0 (by omega) he hne
def IV (l : List Int) (a : AV) : Prop := (l = [] ∧ a = .nilsl) ∨ ∃ ex, a = .imm (ics l) l.length ex
theorem Z8v {l : List Int} {a : AV} (h : IV l a) (n : Nat) : snap (n + 1) a = .pure (a, []) := by
 rcases h with ⟨_, rfl⟩ | ⟨e, rfl⟩ <;> rfl
theorem Z67 {l : List Int} {a : AV} (h : IV l a) (h0 : 0 < l.length) : ∃ ex, a = .imm (ics l) l.length ex := by
 rcases h with ⟨rfl, _⟩ | h
 · simp at h0
 · exact h
theorem Z3V (l : List Int) (ex : Bool) : IV l (.imm (ics l) l.length ex) := .inr ⟨ex, rfl⟩
theorem ZHk {l : List Int} {k : Nat} (h : k < l.length) : l[k]? = some (rowF l k) := by
 simp [rowF, h]
theorem Z02 {l : List Int} {k : Nat} (h : k < l.length) : (ics l)[k]? = some (.int .i64 (rowF l k)) := Z3U (ZHk h)
theorem rw_b {n : Nat} {l : List Int} (h : Rw n l) {k : Nat} (hk : k < n) : 0 ≤ rowF l k ∧ rowF l k ≤ 8 := Z09 h.row k (by rw [h.len]; exact hk)
theorem Z3N {C : Callee} {site : Nat → Nat} {seen : List Nat} {f : FuncId} {args : List AV} {id m c sz gl : Nat} {k : IntKind} {z : Int} {cells : List AV} {H' : AHeap} (h : C f args [] 0 = some (.tup [.ref id 0 m c gl sz false, .int k z], H')) (hg : hget H' id = some ⟨.row, cells⟩) (hl : cells.length = gl) :
   aBack site true seen (thaw C f args [] 0) = Z0g (site 0) seen (fun j => .tup [.ref j 0 m c gl sz false, .int k z]) ⟨.row, cells⟩ := by
 subst hl
 simp only [thaw, h, frzRet, aBack, sitesB, aBackAt, imp, imps, hg, List.length_nil, List.not_mem_nil, not_false_eq_true, and_true, if_true, List.map_cons, List.map_nil, AM.apart, List.elem_nil, Bool.not_false, Bool.and_true, AV.leads, AV.leads.leadsL, Bool.or_false, Z0g]
theorem Z01 {n : Nat} (h : n ≤ 1000000) : roomOk E.T 3 n = true := by
 simp only [roomOk, T_3, decide_eq_true_eq]; exact ⟨by decide, rfl, by omega⟩
theorem ZR {k n : Nat} (h : 0 < n) : oV k 1 n = .ref k 0 n n n 1 false := by
 obtain ⟨m, rfl⟩ : ∃ m, n = m + 1 := ⟨n - 1, by omega⟩
 simp only [oV, Nat.mul_one]
theorem Z8y {k : Nat} {l : List Int} (h : 0 < l.length) : oH k (ics l) = [(k, ⟨.row, ics l⟩)] := ZyZ k (by rw [Z7]; exact h)
theorem Z25 {E0 : AHeap} {φ : AFr} {H : AHeap} (h : ∀ p ∈ H, (hget E0 p.1).isSome = true) : headA E0 (φ, H) = (φ, H) := by
 have key : ∀ (keep : List Nat) (H : AHeap), (∀ p ∈ H, (hget E0 p.1).isSome = true) → keepB E0 keep H = H := by
   intro keep H
   induction H with
   | nil => intro _; rfl
   | cons p t ih =>
     intro h
     obtain ⟨i, b⟩ := p
     simp only [keepB, h _ (List.mem_cons_self ..), Bool.or_true, cond_true, ih fun q hq => h q (List.mem_cons_of_mem _ hq)]
 simp only [headA, key _ H h, gcIf]
 split <;> rfl
theorem ZeI : ∀ n, repC [.int .i64 0] n = ics (List.replicate n 0)
 | 0 => rfl
 | n + 1 => by rw [repC, ZeI n]; rfl
def RL (C : Callee) (f : FuncId) (args : List AV) (e : Int) (l : List Int) : Prop :=
 (e ≠ 0 ∧ ∀ (site : Nat → Nat) seen, aBack site true seen (thaw C f args [] 0) = .pure (.tup [.nilsl, .int .i64 e], [])) ∨
 (e = 0 ∧ ∀ (site : Nat → Nat) seen, aBack site true seen (thaw C f args [] 0) = Z0g (site 0) seen (fun k => .tup [.ref k 0 l.length l.length l.length 1 false, .int .i64 0]) ⟨.row, ics l⟩)
theorem ZSy {C : Callee} {f : FuncId} {args : List AV} {e : Int} {l : List Int} {n : Nat} (h : (e ≠ 0 ∧ ∃ H, C f args [] 0 = some (.tup [.nilsl, .int .i64 e], H)) ∨ (e = 0 ∧ ∃ g H, C f args [] 0 = some (.tup [.ref g 0 n n n 1 false, .int .i64 0], H) ∧ hget H g = some ⟨.row, ics l⟩)) (hl : l.length = n) : RL C f args e l := by
 subst hl
 rcases h with ⟨h0, h⟩ | ⟨h0, g, H, h, hg⟩
 · exact .inl ⟨h0, fun site seen => Z3Z h⟩
 · exact .inr ⟨h0, fun site seen => Z3N h hg (Z7 l)⟩
def fe (e : Nat → Int) : Nat → Nat → Int
 | _, 0 => 0
 | k, m + 1 => if e k = 0 then fe e (k + 1) m else e k
theorem Z3l {e : Nat → Int} : ∀ (m k : Nat), fe e k m = 0 ↔ ∀ i, k ≤ i → i < k + m → e i = 0
 | 0, k => by simp only [fe, true_iff]; intro i h1 h2; omega
 | m + 1, k => by
   simp only [fe]
   split
   · rename_i h
     rw [Z3l m (k + 1)]
     exact ⟨fun hh i h1 h2 => if hi : i = k then by rw [hi]; exact h else hh i (by omega) (by omega), fun hh i h1 h2 => hh i (by omega) (by omega)⟩
   · rename_i h
     exact ⟨fun hh => absurd hh h, fun hh => absurd (hh k (Nat.le_refl _) (by omega)) h⟩
theorem loopE {E0 : AHeap} {f : St → XR} {e : Nat → Int} {R : Int → AHeap → St} {x : Ex} {se : St} (st : Nat → St) (n : Nat) (h0 : headA E0 (st 0) = st 0) (hn : n < 1000000) (hx : x ≠ .normal)
   (hgo : ∀ i, i < n → (∀ j, j < i → e j = 0) → e i = 0 → ∃ s', f (st i) = some (.normal, s') ∧ headA E0 s' = st (i + 1)) (hbad : ∀ i, i < n → (∀ j, j < i → e j = 0) → e i ≠ 0 → ∃ H, f (st i) = some (.ret, R (e i) H)) (hend : (∀ j, j < n → e j = 0) → f (st n) = some (x, se)) :
   (fe e 0 n = 0 ∧ iterA f (headA E0) 1000000 (st 0) = some (x, se)) ∨ (fe e 0 n ≠ 0 ∧ ∃ H, iterA f (headA E0) 1000000 (st 0) = some (.ret, R (fe e 0 n) H)) := by
 have key : ∀ (m k F : Nat) (s0 : St), k + m = n → (∀ j, j < k → e j = 0) → headA E0 s0 = st k → m < F → (fe e k m = 0 ∧ iterA f (headA E0) F s0 = some (x, se)) ∨ (fe e k m ≠ 0 ∧ ∃ H, iterA f (headA E0) F s0 = some (.ret, R (fe e k m) H)) := by
   intro m
   induction m with
   | zero =>
     intro k F s0 hk hz hs hF
     obtain ⟨F, rfl⟩ : ∃ G, F = G + 1 := ⟨F - 1, by omega⟩
     rw [Nat.add_zero] at hk
     subst hk
     refine .inl ⟨rfl, ?_⟩
     rw [Z1n, hs, hend hz]
     cases x with
     | normal => exact absurd rfl hx
     | ret => rfl
     | exit i => rfl
   | succ m ih =>
     intro k F s0 hk hz hs hF
     obtain ⟨F, rfl⟩ : ∃ G, F = G + 1 := ⟨F - 1, by omega⟩
     simp only [fe]
     by_cases h : e k = 0
     · obtain ⟨s', h1, h2⟩ := hgo k (by omega) hz h
       rw [if_pos h, Z1n, hs, h1, Z5b]
       refine ih (k + 1) F s' (by omega) (fun j hj => ?_) h2 (by omega)
       by_cases hjk : j = k
       · rw [hjk]; exact h
       · exact hz j (by omega)
     · rw [if_neg h]
       obtain ⟨H, hH⟩ := hbad k (by omega) hz h
       refine .inr ⟨h, H, ?_⟩
       rw [Z1n, hs, hH]
       rfl
 exact key n 0 1000000 (st 0) (by omega) (fun j hj => by omega) h0 (by omega)
end Go.AM.Ytfmnoohhhokicaa
end
noncomputable section
namespace Go.AM.Ytfmnoohhhokicaa
open Go Go.AM Go.AM.Rub
def chE (l : List Int) (i : Nat) : Int := if rowF l i < 0 ∨ rowF l i > 8 then 1 else if 0 < i ∧ rowF l i > rowF l (i - 1) then 7 else 0
def chkR (l : List Int) : Int := if l.length = 0 then 4 else if l.length > 6 then 3 else fe (chE l) 0 l.length
theorem Z1Q {l : List Int} : chkR l = 0 ↔ 0 < l.length ∧ l.length ≤ 6 ∧ Rw l.length l := by
 unfold chkR
 split
 · rename_i h; exact ⟨fun e => absurd e (by decide), fun e => by omega⟩
 · split
   · rename_i h; exact ⟨fun e => absurd e (by decide), fun e => by omega⟩
   · rename_i h1 h2
     rw [Z3l]
     constructor
     · intro h
       have h0 : ∀ i, i < l.length → 0 ≤ rowF l i ∧ rowF l i ≤ 8 ∧ (0 < i → rowF l i ≤ rowF l (i - 1)) := by
         intro i hi
         have := h i (by omega) (by omega)
         unfold chE at this
         split at this
         · exact absurd this (by decide)
         · split at this
           · exact absurd this (by decide)
           · rename_i a b
             exact ⟨by omega, by omega, fun hp => Int.not_lt.1 fun hh => b ⟨hp, hh⟩⟩
       refine ⟨by omega, by omega, rfl, Z3D (fun i hi => (h0 i hi).1) (fun hp => (h0 0 hp).2.1) fun i hi => ?_⟩
       have := (h0 (i + 1) hi).2.2 (by omega)
       simpa using this
     · rintro ⟨_, _, hr⟩ i _ hi
       have hb := rw_b hr (k := i) (by omega)
       unfold chE
       rw [if_neg (by omega), if_neg]
       rintro ⟨hp, hlt⟩
       have := Z0v hr.row (i - 1) (by omega)
       rw [show i - 1 + 1 = i by omega] at this
       omega
abbrev chS (l : List Int) (ex : Bool) (i : Nat) : St := ([(15, .int .i64 i), (14, .int .i64 l.length), (13, .imm (ics l) l.length ex), (0, .imm (ics l) l.length ex)], [])
theorem ZR3 {C : Callee} {l : List Int} {ex : Bool} (h6 : l.length ≤ 6) (i : Nat) (hi : i < l.length) (he : chE l i = 0) :
   ∃ s', (execA E C (fg 25) 0 40 [] 1000000 Z2r) (chS l ex i) = some (.normal, s') ∧ headA [] s' = chS l ex (i + 1) := by
 have hlen := Z7 l
 have hat := Z02 hi
 have hat1 := Z02 (l := l) (k := i - 1) (by omega)
 have g1 : (i : Int) < l.length := by omega
 unfold chE at he
 split at he
 · exact absurd he (by decide)
 · split at he
   · exact absurd he (by decide)
   · rename_i a b
     have a1 : ¬ rowF l i < 0 := by omega
     have a2 : ¬ rowF l i > 8 := by omega
     rcases Nat.eq_zero_or_pos i with hz | hp
     · subst hz
       simp (disch := omega) only [ZF, ↓gd, stp, opPick, just, Rd.bind, Rd.run, Rd.opt, upds, tsz, rdCells, aLoad, Z4, aNum, aBin, aInt, Nat.reduceLT, Nat.reduceBEq, Nat.reduceEqDiff, Nat.reduceLeDiff, ↓reduceIte, reduceCtorEq, Int.reduceLE, Int.reduceToNat, ZT, F_25, hat, hlen, a1, a2, cl0, if_pos]
       exact ⟨_, rfl, rfl⟩
     · have b1 : ¬ rowF l i > rowF l (i - 1) := fun hh => b ⟨hp, hh⟩
       have g2 : (i : Int) > 0 := by omega
       have w1 : wrp .i64 ((i : Int) - 1) = ((i - 1 : Nat) : Int) := by rw [Z9 (by omega)]; omega
       have g3 : ((i - 1 : Nat) : Int) < l.length := by omega
       simp (disch := omega) only [ZF, ↓gd, stp, opPick, just, Rd.bind, Rd.run, Rd.opt, upds, tsz, rdCells, aLoad, Z4, aNum, aBin, aInt, Nat.reduceLT, Nat.reduceBEq, Nat.reduceEqDiff, Nat.reduceLeDiff, ↓reduceIte, reduceCtorEq, ZT, F_25, g1, g2, g3, hat, hat1, hlen, a1, a2, b1, w1, ZV (show i < 1000000 by omega)]
       exact ⟨_, rfl, rfl⟩
theorem ZPA {C : Callee} {l : List Int} {ex : Bool} (h6 : l.length ≤ 6) (i : Nat) (hi : i < l.length) (he : chE l i ≠ 0) :
   ∃ H, (execA E C (fg 25) 0 40 [] 1000000 Z2r) (chS l ex i) = some (.ret, ([(2, .int .i64 (chE l i))], H)) := by
 have hlen := Z7 l
 have hat := Z02 hi
 have hat1 := Z02 (l := l) (k := i - 1) (by omega)
 have g1 : (i : Int) < l.length := by omega
 unfold chE at he ⊢
 by_cases a : rowF l i < 0 ∨ rowF l i > 8
 · rw [if_pos a]
   rcases a with a | a
   · simp (disch := omega) only [ZF, ↓gd, stp, opPick, just, Rd.bind, Rd.run, Rd.opt, upds, tsz, rdCells, aLoad, Z4, aNum, aBin, aInt, Nat.reduceLT, Nat.reduceBEq, Nat.reduceEqDiff, Nat.reduceLeDiff, ↓reduceIte, reduceCtorEq, ZT, F_25, g1, hat, hlen, a]
     exact ⟨_, rfl⟩
   · have a1 : ¬ rowF l i < 0 := by omega
     simp (disch := omega) only [ZF, ↓gd, stp, opPick, just, Rd.bind, Rd.run, Rd.opt, upds, tsz, rdCells, aLoad, Z4, aNum, aBin, aInt, Nat.reduceLT, Nat.reduceBEq, Nat.reduceEqDiff, Nat.reduceLeDiff, ↓reduceIte, reduceCtorEq, ZT, F_25, g1, hat, hlen, a, a1]
     exact ⟨_, rfl⟩
 · rw [if_neg a] at he ⊢
   have a1 : ¬ rowF l i < 0 := by omega
   have a2 : ¬ rowF l i > 8 := by omega
   by_cases b : 0 < i ∧ rowF l i > rowF l (i - 1)
   · rw [if_pos b]
     obtain ⟨hp, b⟩ := b
     have g2 : (i : Int) > 0 := by omega
     have w1 : wrp .i64 ((i : Int) - 1) = ((i - 1 : Nat) : Int) := by rw [Z9 (by omega)]; omega
     have g3 : ((i - 1 : Nat) : Int) < l.length := by omega
     simp (disch := omega) only [ZF, ↓gd, stp, opPick, just, Rd.bind, Rd.run, Rd.opt, upds, tsz, rdCells, aLoad, Z4, aNum, aBin, aInt, Nat.reduceLT, Nat.reduceBEq, Nat.reduceEqDiff, Nat.reduceLeDiff, ↓reduceIte, reduceCtorEq, ZT, F_25, g1, g2, g3, hat, hat1, hlen, a1, a2, b, w1]
     exact ⟨_, rfl⟩
   · rw [if_neg b] at he; exact absurd rfl he
theorem Zr8 {C : Callee} {l : List Int} {a : AV} (ha : IV l a) (hl : l.length ≤ 1000) : rsOf (bodyA E C fg 1000000 25 [a] [] 0) = some (.int .i64 (chkR l)) := by
 rcases ha with ⟨rfl, rfl⟩ | ⟨ex, rfl⟩
 · simp (disch := omega) only [ZF, Z3, stp, just, Rd.bind, Rd.run, Rd.opt, upds, resA, resL, aLen, Z1, aBin, aInt, Nat.reduceBEq, Nat.reduceEqDiff, Nat.reduceLeDiff, ↓reduceIte, reduceCtorEq, ZT, F_25, chkR]
 · unfold chkR
   by_cases h0 : l.length = 0
   · rw [if_pos h0]
     have g0 : (l.length : Int) = 0 := by omega
     simp (disch := omega) only [ZF, Z3, stp, just, Rd.bind, Rd.run, Rd.opt, upds, resA, resL, aLen, Z1, aBin, aInt, Nat.reduceBEq, Nat.reduceEqDiff, Nat.reduceLeDiff, ↓reduceIte, reduceCtorEq, ZT, F_25, g0]
   · rw [if_neg h0]
     have g0 : ¬ (l.length : Int) = 0 := by omega
     have g0' : ((l.length : Int) == 0) = false := by rw [beq_eq_false_iff_ne]; exact g0
     by_cases h6 : l.length > 6
     · rw [if_pos h6]
       have g1 : (l.length : Int) > 6 := by omega
       simp (disch := omega) only [ZF, Z3, stp, just, Rd.bind, Rd.run, Rd.opt, upds, resA, resL, aLen, Z1, aBin, aInt, Nat.reduceBEq, Nat.reduceEqDiff, Nat.reduceLeDiff, ↓reduceIte, reduceCtorEq, ZT, F_25, g0', g1]
     · rw [if_neg h6]
       have g1 : ¬ (l.length : Int) > 6 := by omega
       have hlen := Z7 l
       have hloop := loopE (f := (execA E C (fg 25) 0 40 [] 1000000 Z2r)) (e := chE l) (R := fun e H => ([(2, .int .i64 e)], H)) (chS l ex) l.length (E0 := []) rfl (by omega) (x := .exit 1) (se := ([(16, .bool false), (15, .int .i64 l.length), (14, .int .i64 l.length), (13, .imm (ics l) l.length ex), (0, .imm (ics l) l.length ex)], [])) (by simp)
         (fun i hi _ he => ZR3 (by omega) i hi he) (fun i hi _ he => ZPA (by omega) i hi he) (fun _ => by simp (disch := omega) only [ZF, stp, just, Rd.bind, Rd.run, Rd.opt, upds, aBin, aInt, Nat.reduceEqDiff, Nat.reduceLeDiff, ↓reduceIte, F_25, chS])
       simp only [chS, cl0] at hloop
       rcases hloop with ⟨hz, hloop⟩ | ⟨hz, H, hloop⟩
       · rw [hz]
         simp (disch := omega) only [ZF, Z3, stp, just, Rd.bind, Rd.run, Rd.opt, upds, resA, resL, aLen, Z1, aBin, aInt, Nat.reduceBEq, Nat.reduceEqDiff, Nat.reduceLeDiff, ↓reduceIte, reduceCtorEq, ZT, F_25, g0', g1, hloop]
       · simp (disch := omega) only [ZF, Z3, stp, just, Rd.bind, Rd.run, Rd.opt, upds, resA, resL, aLen, Z1, aBin, aInt, Nat.reduceBEq, Nat.reduceEqDiff, Nat.reduceLeDiff, ↓reduceIte, reduceCtorEq, ZT, F_25, g0', g1, hloop]
theorem Z3t {d : Nat} {site : Nat → Nat} {seen : List Nat} {l : List Int} {a : AV} (ha : IV l a) (hl : l.length ≤ 1000) : aBack site true seen (thaw (kF (d + 1)) 25 [a] [] 0) = .pure (.int .i64 (chkR l), []) :=
 Z44 (Z2F rfl (Zr8 ha hl))
end Go.AM.Ytfmnoohhhokicaa
end
noncomputable section
namespace Go.AM.Ytfmnoohhhokicaa
open Go Go.AM Go.AM.Rub
def riP (l : List Int) (i : Nat) : List Int := (List.range (i + 1)).map (ps (rowF l))
def riL (l : List Int) : List Int := riP l l.length
theorem Z4X (l : List Int) (i : Nat) : (riP l i).length = i + 1 := by simp [riP]
theorem ZvY (l : List Int) (i : Nat) : riP l (i + 1) = riP l i ++ [ps (rowF l) i + rowF l i] := by simp [riP, List.range_succ, ps]
theorem Z6I {l : List Int} {i k : Nat} (h : k ≤ i) : (riP l i)[k]? = some (ps (rowF l) k) := by
 simp only [riP, List.getElem?_map]
 rw [List.getElem?_range (by omega)]; rfl
theorem ps_b {n : Nat} {l : List Int} (h : Rw n l) : ∀ k, k ≤ n → 0 ≤ ps (rowF l) k ∧ ps (rowF l) k ≤ 8 * k
 | 0, _ => by simp [ps]
 | k + 1, hk => by
   have := ps_b h k (by omega)
   have := rw_b h (k := k) (by omega)
   simp only [ps]; omega
abbrev riS (l : List Int) (ex : Bool) (i : Nat) : St := ([(9, .int .i64 i), (8, .int .i64 l.length), (7, .imm (ics l) l.length ex), (3, .ref 6 0 (i + 1) (i + 1) (i + 1) 1 false)], [(6, ⟨.row, ics (riP l i)⟩)])
theorem ZQ3 {C : Callee} {n : Nat} {l : List Int} {ex : Bool} (h : Rw n l) (hn : n ≤ 8) (i : Nat) (hi : i < l.length) :
   ∃ s', (execA E C (fg 79) 0 25 [] 1000000 Z3H) (riS l ex i) = some (.normal, s') ∧ headA [] s' = riS l ex (i + 1) := by
 have hln := h.len
 have hlen := Z7 l
 have hat := Z02 hi
 have hrl : (ics (riP l i)).length = i + 1 := by rw [Z7, Z4X]
 have hra := Z3U (Z6I (l := l) (i := i) (Nat.le_refl i))
 have hsn := Z1b (riP l i) (ps (rowF l) i + rowF l i)
 have htk : List.take (i + 1) (ics (riP l i)) = ics (riP l i) := List.take_of_length_le (by omega)
 have b1 := ps_b h i (by omega)
 have b2 := rw_b h (k := i) (by omega)
 have g1 : (i : Int) < l.length := by omega
 have g2 : (i : Int) < ((i + 1 : Nat) : Int) := by omega
 have w1 : wrp .i64 (ps (rowF l) i + rowF l i) = ps (rowF l) i + rowF l i := Z9 (by omega)
 have hno : ¬ i + 1 + 1 ≤ i + 1 := by omega
 simp only [riS, ZvY]
 rw [← hsn]
 generalize ics (riP l i) = L at *
 generalize ps (rowF l) i = p at *
 simp (disch := omega) only [ZF, stp, just, Rd.bind, Rd.run, Rd.opt, upds, acells, zeroCells, tsz, elemT, rdCells, aLoad, fresh, Z4, aNum, Z1, aBin, aInt, putC, evO, Nat.reduceAdd, Nat.reduceLT, Nat.reduceBEq, Nat.reduceEqDiff, Nat.reduceLeDiff, ↓reduceIte, reduceCtorEq, Z6, Zg, partsOf, fillA, repC, Zh, aAppend, srcOf, window, snaps, ZT, F_79, g1, g2, hat, hlen, hrl, hra, htk, w1, hno, Z01 (show i + 1 + 1 ≤ 1000000 by omega), ZV (show i < 1000000 by omega)]
 exact ⟨_, rfl, rfl⟩
theorem ZqL {C : Callee} {n : Nat} {l : List Int} {a : AV} (ha : IV l a) (h : Rw n l) (hn : n ≤ 8) :
   ∃ H, bodyA E C fg 1000000 79 [a] [] 0 = some (.ref 6 0 (l.length + 1) (l.length + 1) (l.length + 1) 1 false, H) ∧ hget H 6 = some ⟨.row, ics (riL l)⟩ := by
 rcases ha with ⟨rfl, rfl⟩ | ⟨ex, rfl⟩
 · have hloop := Z6K (f := (execA E C (fg 79) 0 25 [] 1000000 Z3H)) (E0 := []) (s0 := ([(9, .int .i64 0), (8, .int .i64 0), (7, .nilsl), (3, .ref 6 0 1 1 1 1 false)], [(6, ⟨.row, [.int .i64 0]⟩)])) rfl (e := .exit 0) (se := ([(10, .bool false), (9, .int .i64 0), (8, .int .i64 0), (7, .nilsl), (3, .ref 6 0 1 1 1 1 false)], [(6, ⟨.row, [.int .i64 0]⟩)]))
     (by simp (disch := omega) only [ZF, stp, just, Rd.bind, Rd.run, Rd.opt, upds, aBin, aInt, Nat.reduceEqDiff, Nat.reduceLeDiff, ↓reduceIte, F_79]) (by simp)
   simp (disch := omega) only [ZF, Z3, stp, just, Rd.bind, Rd.run, upds, acells, zeroCells, tsz, elemT, resA, resL, fresh, aLen, Z1, putC, evO, ofV, ofV1, Nat.reduceAdd, Nat.reduceLT, Nat.reduceBEq, Nat.reduceEqDiff, Nat.reduceLeDiff, ↓reduceIte, reduceCtorEq, Z6, Zg, partsOf, fillA, repC, snaps, ZT, F_79, hloop]
   exact ⟨_, rfl, rfl⟩
 · have hln := h.len
   have hlen := Z7 l
   have hloop := loopM (f := (execA E C (fg 79) 0 25 [] 1000000 Z3H)) (E0 := []) (riS l ex) l.length (fun i hi => ZQ3 h hn i hi) rfl (by omega)
     (e := .exit 0) (se := ([(10, .bool false), (9, .int .i64 l.length), (8, .int .i64 l.length), (7, .imm (ics l) l.length ex), (3, .ref 6 0 (l.length + 1) (l.length + 1) (l.length + 1) 1 false)], [(6, ⟨.row, ics (riL l)⟩)]))
     (by simp (disch := omega) only [ZF, stp, just, Rd.bind, Rd.run, Rd.opt, upds, aBin, aInt, Nat.reduceEqDiff, Nat.reduceLeDiff, ↓reduceIte, F_79, riS, riL]) (by simp)
   have e0 : ics (riP l 0) = [.int .i64 0] := rfl
   simp only [riS, e0, cl0, Nat.zero_add] at hloop
   simp (disch := omega) only [ZF, Z3, stp, just, Rd.bind, Rd.run, upds, acells, zeroCells, tsz, elemT, resA, resL, fresh, aLen, Z1, putC, evO, ofV, ofV1, Nat.reduceAdd, Nat.reduceLT, Nat.reduceBEq, Nat.reduceEqDiff, Nat.reduceLeDiff, ↓reduceIte, reduceCtorEq, Z6, Zg, partsOf, fillA, repC, snaps, ZT, F_79, hloop]
   exact ⟨_, rfl, rfl⟩
theorem Zri (l : List Int) : (ics (riL l)).length = l.length + 1 := by rw [Z7]; exact Z4X _ _
theorem Z3E {d : Nat} {site : Nat → Nat} {seen : List Nat} {n : Nat} {l : List Int} {a : AV} (ha : IV l a) (h : Rw n l) (hn : n ≤ 8) : aBack site true seen (thaw (kF (d + 1)) 79 [a] [] 0) =
   Z0g (site 0) seen (fun k => .ref k 0 (l.length + 1) (l.length + 1) (l.length + 1) 1 false) ⟨.row, ics (riL l)⟩ := by
 obtain ⟨H, h1, h2⟩ := ZqL (C := kF d) ha h hn
 exact Z3M (by rw [Z15 rfl]; exact h1) h2 (Zri l)
end Go.AM.Ytfmnoohhhokicaa
end
noncomputable section
namespace Go.AM.Rub
def flM (k : Nat) (n : Int) : Nat → Int
 | 0 => n
 | j + 1 => flM k n j - (flM k n j + ((k - j : Nat) : Int) - 1).tdiv ((k - j : Nat) : Int)
def flT (k : Nat) (n : Int) (j : Nat) : Int := (flM k n j + ((k - j : Nat) : Int) - 1).tdiv ((k - j : Nat) : Int)
def flL (k : Nat) (n : Int) (i : Nat) : List Int := (List.range i).map (flT k n)
theorem Z1z (k : Nat) (n : Int) (i : Nat) : (flL k n i).length = i := by simp [flL]
theorem Zxx (k : Nat) (n : Int) (i : Nat) : flL k n (i + 1) = flL k n i ++ [flT k n i] := by simp [flL, List.range_succ]
def isRowB : Int → List Int → Bool
 | _, [] => true
 | m, x :: l => decide (0 ≤ x) && decide (x ≤ m) && isRowB x l
theorem Z8T : ∀ {l : List Int} {m : Int}, isRowB m l = true → IsRow m l
 | [], _, _ => trivial
 | x :: l, m, h => by
   simp only [isRowB, Bool.and_eq_true, decide_eq_true_eq] at h
   exact ⟨h.1.1, h.1.2, Z8T h.2⟩
def flB (k n : Nat) : Bool :=
 (List.range k).all (fun j => decide (0 ≤ flM k n j) && decide (flM k n j ≤ 100)) && isRowB 8 (flL k n k) && decide (totL (flL k n k) = n) && decide (rowF (flL k n k) 0 - rowF (flL k n k) (k - 1) ≤ 1)
theorem ZNE : ((List.range 7).all fun k => (List.range 49).all fun n => decide (k = 0) || decide (8 * k < n) || flB k n) = true := by decide +kernel
theorem ZTq {k n : Nat} (h0 : 0 < k) (h6 : k ≤ 6) (hn : n ≤ 8 * k) : flB k n = true := by
 have h1 := List.all_eq_true.1 ZNE k (List.mem_range.2 (by omega))
 have h2 := List.all_eq_true.1 h1 n (List.mem_range.2 (by omega))
 simp only [Bool.or_eq_true, decide_eq_true_eq] at h2
 rcases h2 with (h2 | h2) | h2
 · omega
 · omega
 · exact h2
theorem ZnY {k n : Nat} (h0 : 0 < k) (h6 : k ≤ 6) (hn : n ≤ 8 * k) : (∀ j, j < k → 0 ≤ flM k n j ∧ flM k n j ≤ 100) ∧ Rw k (flL k n k) ∧ totL (flL k n k) = n ∧ rowF (flL k n k) 0 - rowF (flL k n k) (k - 1) ≤ 1 := by
 have h := ZTq h0 h6 hn
 simp only [flB, Bool.and_eq_true, decide_eq_true_eq, List.all_eq_true, List.mem_range] at h
 obtain ⟨⟨⟨h1, h2⟩, h3⟩, h4⟩ := h
 exact ⟨h1, ⟨Z1z _ _ _, Z8T h2⟩, h3, h4⟩
end Go.AM.Rub
end
end
