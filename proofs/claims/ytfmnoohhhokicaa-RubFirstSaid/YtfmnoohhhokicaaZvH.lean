/- A part of the proof of rubFirst_holds: RpH. Own work of this project; texts printed by own programs among it. -/
import Derived.Carry
import Derived.Test.YtfmnoohhhokicaaZvG
set_option maxRecDepth 1000000
set_option maxHeartbeats 16000000
noncomputable section
noncomputable section
namespace Go.AM
open Go Go.RowKit Go.ChangeShapes
noncomputable section
variable {H : Type} {enc : TypeId × Value → H} {P : Program} {w : World} {base : Nat} {spare : Nat → Bool} {held : Bool}
theorem ZEB {t : TypeId} {v : Value} {d : DataW H} {ps : List MemPlace} (h : DataW.Trod enc P w base spare held t v d ps) : ∀ x ∈ ps, x.block < w.heap.size := by
 obtain ⟨n, h⟩ := h
 exact DataW.trod_lt n t _ _ h
theorem _root_.Go.RowKit.Below.trod' {t : TypeId} (hl : laidOutB P = true) (hr : P.readableRec t = true) (hrow : t < P.types.size) {W W' : World} {v : Value} {d : DataW H} {ps : List MemPlace} (hb : Below W.heap.size W W')
   (h : DataW.Trod enc P W 0 (fun _ => true) true t v d ps) : DataW.Trod enc P W' 0 (fun b => decide (b < W.heap.size)) true t v d ps :=
 Below.trod hl hr hrow h hb (ZEB h)
theorem ZCO {t : TypeId} {v : Value} {b : Nat} {r : Reach} (ht : P.underlying t = some (.int .u8)) (hv : Cell.okWide P w r b t v) : ∃ z, v = .int .u8 z ∧ 0 ≤ z ∧ z ≤ 255 := by
 simp only [Cell.okWide, ht] at hv
 unfold Cell.ok at hv
 rw [ht] at hv
 cases v <;> simp only at hv <;> try exact hv.elim
 rename_i k z
 obtain ⟨rfl, h1, h2⟩ := hv
 exact ⟨z, rfl, h1, h2⟩
theorem Z01B {t : TypeId} {v : Value} {b : Nat} {r : Reach} (ht : P.underlying t = some (.int .u8)) (hv : Value.okWide P w r b t v) : ∃ z, v = .int .u8 z ∧ 0 ≤ z ∧ z ≤ 255 := by
 unfold Value.okWide at hv
 rw [ht] at hv
 exact ZCO ht hv
theorem Z0bH {t u : TypeId} {n : Nat} {b : Nat} {r : Reach} (hu : P.underlying u = some (.int .u8)) (hc : P.cellTypes P.depth t = some (List.replicate n u)) (hn : P.cellsOf t = n) (_ : 0 < n) {cs : Array Value} (hs : cs.size = P.cellsOf t) (hr : Row.okWide P w r b t cs) :
   ∃ zs : List Int, cs.toList = zs.map (Value.int .u8) ∧ zs.length = n ∧ ∀ (i : Nat) (z : Int), zs[i]? = some z → 0 ≤ z ∧ z ≤ 255 := by
 obtain ⟨ts, h1, _, h3⟩ := hr
 rw [hc] at h1
 obtain rfl := Option.some.inj h1
 have key : ∀ i, i < n → ∃ z, cs[i]? = some (.int .u8 z) ∧ 0 ≤ z ∧ z ≤ 255 := by
   intro i hi
   have hv : cs[i]? = some cs[i] := Array.getElem?_eq_getElem (by omega)
   obtain ⟨u', hu', hcell⟩ := h3 i _ hv
   rw [List.length_replicate, Nat.mod_eq_of_lt hi, List.getElem?_replicate, if_pos hi] at hu'
   obtain rfl := Option.some.inj hu'
   obtain ⟨z, hz, hb⟩ := ZCO hu hcell
   exact ⟨z, by rw [hv, hz], hb⟩
 refine ⟨(List.range n).map fun i => match (cs[i]? : Option Value) with | some (Value.int _ z) => z | _ => 0, ?_, by simp, ?_⟩
 · apply List.ext_getElem?
   intro i
   by_cases hi : i < n
   · obtain ⟨z, hz, _⟩ := key i hi
     simp [hi, hz]
   · rw [List.getElem?_eq_none (by simp; omega)]
     simp [hi]
 · intro i z hz
   have hi : i < n := by have := (List.getElem?_eq_some_iff.1 hz).1; simpa using this
   obtain ⟨y, hy, hb⟩ := key i hi
   simp [hi, hy] at hz
   omega
theorem Z0lB {fz : Nat → Prop} {rf : RFt} (zs : List Int) {cs : Array Value} (h : cs.toList = zs.map (Value.int .u8)) : VR fz w (.agg (zs.map (AV.int .u8))) rf (.agg cs) := by
 simp only [VR]
 refine ⟨cs, rfl, ?_⟩
 rw [ZJ, h]
 refine ⟨by simp, fun i a v h1 h2 => ?_⟩
 rw [List.getElem?_map] at h1 h2
 cases hz : zs[i]? with
 | none => rw [hz] at h1; simp at h1
 | some z =>
   rw [hz] at h1 h2
   simp only [Option.map_some, Option.some.injEq] at h1 h2
   subst h1; subst h2
   exact ⟨rfl, by simp only [VR]⟩
theorem ZuF {t u : TypeId} {n : Nat} {v : Value} {b : Nat} {r : Reach} {fs : Array Field} (ht : P.underlying t = some (.struct fs)) (hu : P.underlying u = some (.int .u8)) (hc : P.cellTypes P.depth t = some (List.replicate n u)) (hn : P.cellsOf t = n) (h0 : 0 < n) (hv : Value.okWide P w r b t v) :
   ∃ (zs : List Int) (cs : Array Value), v = .agg cs ∧ cs.toList = zs.map (Value.int .u8) ∧ zs.length = n ∧ ∀ (i : Nat) (z : Int), zs[i]? = some z → 0 ≤ z ∧ z ≤ 255 := by
 unfold Value.okWide at hv
 rw [ht] at hv
 obtain ⟨cs, h1, h2, h3⟩ := hv
 obtain ⟨zs, a, b, c⟩ := Z0bH hu hc hn h0 h2 h3
 exact ⟨zs, cs, h1, a, b, c⟩
end
end Go.AM
end
noncomputable section
namespace Go.AM
theorem nrfl {α : Type} {a b : α} (h : a = b) : a = b := h
theorem nf {α : Type} {a : α} : a = a := nrfl rfl
def kL : Code → Code
 | .seq a _ => a
 | c => c
def kR : Code → Code
 | .seq _ b => b
 | c => c
def kT : Code → Code
 | .cond _ t _ => t
 | c => c
def kE : Code → Code
 | .cond _ _ e => e
 | c => c
def kB : Code → Code
 | .block _ b => b
 | .loop b => b
 | .scope b => b
 | c => c
def kO : Code → Array Oper
 | .region _ ops _ => ops
 | _ => #[]
def kBody (f : Func) : Code := f.body.getD .skip
def opN (ops : Array Oper) (i : Nat) : Oper := ops.toList.getD i ⟨none, .move (.tmp 0), 0, "", #[], none⟩
abbrev XR := Option (Ex × St)
def seqX (r : XR) (k : St → XR) : XR :=
 match r with
 | some (.normal, s) => k s
 | r => r
def bindR (r : Option St) (k : St → Option St) : Option St :=
 match r with
 | some s => k s
 | none => none
def regX (r : Option St) (k : St → St) : XR :=
 match r with
 | some s => some (.normal, k s)
 | none => none
def condX (v : AV) (t e : XR) : XR :=
 match v with
 | .bool true => t
 | .bool false => e
 | _ => none
def blockX (id : Nat) (k : St → St) (r : XR) : XR :=
 match r with
 | some (.exit i, s) => match Nat.beq i id with
   | true => some (.normal, k s)
   | false => some (.exit i, s)
 | some (.normal, s) => some (.normal, k s)
 | r => r
def fset : AFr → Nat → AV → AFr
 | [], _, _ => []
 | (k, a) :: t, i, b => if k = i then (k, b) :: t else (k, a) :: fset t i b
def gd (φ : AFr) (k : Nat) (want : Bool) (no yes : AFr → Option St) : Option St :=
 match fget φ k with
 | .bool b => if b = want then yes (fset φ k (.bool want)) else no (fset φ k (.bool !want))
 | .tup _ => no φ
 | _ => none
def putD (d : Option Nat) (φ : AFr) (v : AV) : AFr :=
 match d with
 | some d => fput φ d v
 | none => φ
def stp (d : Option Nat) (φ : AFr) (H : AHeap) (r : Rd (AV × Ups)) : Option St :=
 match r.run H with
 | some (v, us) => some (putD d φ v, upds H us)
 | none => none
def mutX (d : Option Nat) (φ : AFr) (r : Option (AV × AHeap)) : Option St :=
 match r with
 | some (v, H) => some (putD d φ v, H)
 | none => none
def callV (E : Env) (C : Callee) (Bn : Nat) (d : Option Nat) (site : Nat → Nat) (φ : AFr) (H : AHeap) (f : AV) (args : List AV) (keep : Bool) : Option St :=
 match mutV E f args with
 | some (g, asx) => mutX d φ (C g asx H Bn)
 | none => stp d φ H (opCallV E C site keep f args)
def bodyX (E : Env) (rs : List ResultVar) (r : XR) : Option (AV × AHeap) :=
 match r with
 | some (.normal, s) => match resA E s rs with
   | some v => some (v, s.2)
   | none => none
 | some (.ret, s) => match resA E s rs with
   | some v => some (v, s.2)
   | none => none
 | _ => none
noncomputable section
variable {E : Env} {C : Callee} {fg : Nat → List Nat} {B n N : Nat} {E0 : AHeap}
theorem Z0 {c a b : Code} (h : c = .seq a b) (s : St) : execA E C fg B n E0 N c s = seqX (execA E C fg B n E0 N a s) (execA E C fg B n E0 N b) := by
 subst h; simp only [execA, seqX]; rfl
theorem Zh {c : Code} (h : c = .skip) (s : St) : execA E C fg B n E0 N c s = some (.normal, s) := by subst h; simp only [execA]
theorem Zq {c : Code} (h : c = .ret) (s : St) : execA E C fg B n E0 N c s = some (.ret, s) := by subst h; simp only [execA]
theorem ZI {c : Code} {id} (h : c = .exit id) (s : St) : execA E C fg B n E0 N c s = some (.exit id, s) := by subst h; simp only [execA]
theorem Z1 {c : Code} {id ops} {l : List Nat} (h : c = .region id ops false) (hl : fg id = l) (s : St) : execA E C fg B n E0 N c s = regX (runA E C B n ops ops.toList s) (fun s => gcM E0 l (forget s.1 l, s.2)) := by
 subst h; subst hl; simp only [execA, regA, regX]
 split <;> rename_i h <;> simp only [h]
theorem Z0h {c : Code} {id ops} {l : List Nat} (h : c = .region id ops true) (hl : fg id = l) (s : St) : execA E C fg B n E0 N c s = regX (drawA E C B n ops s) (fun s => gcM E0 l (forget s.1 l, s.2)) := by
 subst h; subst hl; simp only [execA, regA, regX]
 split <;> rename_i h <;> simp only [h]
theorem Zf {c : Code} {x t e} (h : c = .cond x t e) (s : St) : execA E C fg B n E0 N c s = condX (evO E s.1 x) (execA E C fg B n E0 N t s) (execA E C fg B n E0 N e s) := by
 subst h; simp only [execA, condX]; rfl
theorem Ze {c : Code} {id b} {l : List Nat} (h : c = .block id b) (hl : fg (id + 1000000) = l) (s : St) : execA E C fg B n E0 N c s = blockX id (fun s => (forget s.1 l, s.2)) (execA E C fg B n E0 N b s) := by
 subst h; subst hl; simp only [execA, blockX]; rfl
theorem ZV {c : Code} {b} (h : c = .loop b) (s : St) : execA E C fg B n E0 N c s = iterA (execA E C fg B n E0 N b) (headA E0) N s := by
 subst h; simp only [execA]
theorem Z8I : ∀ (φ : AFr) (i : Nat), fset φ i (fget φ i) = φ
 | [], _ => rfl
 | (k, a) :: t, i => by
   simp only [fset, Zs9]
   cases h : Nat.beq k i
   · rw [if_neg (Nat.ne_of_beq_eq_false h)]
     simp only [cond_false]
     rw [Z8I t i]
   · rw [if_pos (Nat.eq_of_beq_eq_true h)]; rfl
theorem s_gd {ops : Array Oper} {o oj : Oper} {j dj : Nat} {want : Bool} {φ : AFr} {H : AHeap} {no yes : AFr → Option St} (hg : o.guard = some (j, want)) (hj : ops[j]? = some oj) (hd : oj.dst = some dj) (hn : ∀ φ, fin n o φ (.tup []) H = no φ) (hy : ∀ φ, goA E C B n o (φ, H) = yes φ) :
   stepA E C B n ops o (φ, H) = gd φ dj want no yes := by
 simp only [stepA, hg, wantA, hj, hd, gd]
 have hs := Z8I φ dj
 cases h : fget φ dj <;> simp only [hn, hy]
 rename_i b
 rw [h] at hs
 cases b <;> cases want <;> simp [hs]
theorem Z04G (ops : Array Oper) (s : St) : runA E C B n ops [] s = some s := rfl
theorem ZTf (ops : Array Oper) (o : Oper) (os : List Oper) (s : St) : runA E C B n ops (o :: os) s = bindR (stepA E C B n ops o s) (runA E C B n ops os) := by
 simp only [runA, bindR]; rfl
theorem Zt {fgf : FuncId → Nat → List Nat} {f : FuncId} {nt : Nat} {rs : Array ResultVar} {c : Code} (h : fInfo E f = some ⟨nt, rs, c⟩) (args : List AV) (H : AHeap) :
   bodyA E C fgf N f args H B = bodyX E rs.toList (execA E C (fgf f) B nt H N c (Z8 args 0 [], H)) := by
 simp only [bodyA, h, bodyX]; rfl
@[simp] theorem Z4B (s : St) (k) : seqX (some (.normal, s)) k = k s := rfl
@[simp] theorem ZPt (s : St) (k) : seqX (some (.ret, s)) k = some (.ret, s) := rfl
@[simp] theorem ZJG (i) (s : St) (k) : seqX (some (.exit i, s)) k = some (.exit i, s) := rfl
@[simp] theorem ZHY (k) : seqX none k = none := rfl
@[simp] theorem ZNs (p : Prop) [Decidable p] (a b : XR) (k) : seqX (if p then a else b) k = if p then seqX a k else seqX b k := by split <;> rfl
@[simp] theorem ZFD (k) : bindR none k = none := rfl
@[simp] theorem ZK2 (p : Prop) [Decidable p] (a b) (k) : bindR (if p then a else b) k = if p then bindR a k else bindR b k := by split <;> rfl
@[simp] theorem ZLR (k) : regX none k = none := rfl
@[simp] theorem ZVN (p : Prop) [Decidable p] (a b) (k) : regX (if p then a else b) k = if p then regX a k else regX b k := by split <;> rfl
@[simp] theorem ZFB (b : Bool) (t e : XR) : condX (.bool b) t e = if b = true then t else e := by cases b <;> rfl
@[simp] theorem ZuI (id : Nat) (k) (i : Nat) (s : St) : blockX id k (some (.exit i, s)) = if i = id then some (.normal, k s) else some (.exit i, s) := by
 simp only [blockX]
 split <;> rename_i h
 · rw [if_pos (Nat.eq_of_beq_eq_true h)]
 · rw [if_neg (Nat.ne_of_beq_eq_false h)]
@[simp] theorem Zis (id : Nat) (k) (s : St) : blockX id k (some (.normal, s)) = some (.normal, k s) := rfl
@[simp] theorem ZFn (id : Nat) (k) (s : St) : blockX id k (some (.ret, s)) = some (.ret, s) := rfl
@[simp] theorem ZuL (id : Nat) (k) : blockX id k none = none := rfl
@[simp] theorem ZFk (id : Nat) (k) (p : Prop) [Decidable p] (a b) : blockX id k (if p then a else b) = if p then blockX id k a else blockX id k b := by split <;> rfl
theorem ZUw (i : Nat) (b : AV) : fset [] i b = [] := rfl
theorem ZMi (k : Nat) (a : AV) (t : AFr) (i : Nat) (b : AV) : fset ((k, a) :: t) i b = if k = i then (k, b) :: t else (k, a) :: fset t i b := rfl
@[simp] theorem ZIU (rs) (p : Prop) [Decidable p] (a b) : bodyX E rs (if p then a else b) = if p then bodyX E rs a else bodyX E rs b := by split <;> rfl
theorem ZHf (rs) (s : St) : bodyX E rs (some (.ret, s)) = (resA E s rs).map fun v => (v, s.2) := by
 simp only [bodyX]; cases resA E s rs <;> rfl
theorem ZrW (rs) (s : St) : bodyX E rs (some (.normal, s)) = (resA E s rs).map fun v => (v, s.2) := by
 simp only [bodyX]; cases resA E s rs <;> rfl
theorem ZIg (d : Nat) (φ : AFr) (v : AV) : putD (some d) φ v = fput φ d v := rfl
theorem ZGy (φ : AFr) (v : AV) : putD none φ v = φ := rfl
theorem ZP (f : St → XR) (hd : St → St) (k : Nat) (s : St) : iterA f hd (k + 1) s = seqX (f (hd s)) (iterA f hd k) := by
 simp only [iterA, seqX]; rfl
theorem Z8P {f : St → XR} {hd : St → St} (st : Nat → St) : ∀ (n F k : Nat) (s0 : St), hd s0 = st k → n < F →
   (∀ i, k ≤ i → i < k + n → ∃ s', f (st i) = some (.normal, s') ∧ hd s' = st (i + 1)) → ∀ {e : Ex} {se : St}, f (st (k + n)) = some (e, se) → e ≠ .normal → iterA f hd F s0 = some (e, se)
 | 0, F + 1, k, s0, h0, _, _, e, se, he, hn => by
   rw [ZP, h0]
   rw [Nat.add_zero] at he
   rw [he]
   cases e with
   | normal => exact absurd rfl hn
   | ret => rfl
   | exit i => rfl
 | n + 1, F + 1, k, s0, h0, hF, h, e, se, he, hn => by
   obtain ⟨s', h1, h2⟩ := h k (Nat.le_refl _) (by omega)
   rw [ZP, h0, h1, Z4B]
   refine Z8P st n F (k + 1) s' h2 (by omega) (fun i h3 h4 => h i (by omega) (by omega)) (e := e) (se := se) ?_ hn
   rw [show k + 1 + n = k + (n + 1) by omega]
   exact he
 | _, 0, _, _, _, hF, _, _, _, _, _ => absurd hF (by omega)
theorem Zpe {f : AV} {args : List AV} (h : mutV E f args = none) (Bn : Nat) (d : Option Nat) (site) (φ H) (keep) : callV E C Bn d site φ H f args keep = stp d φ H (opCallV E C site keep f args) := by
 simp only [callV, h]
theorem Z1o {site : Nat → Nat} {seen : List Nat} {f : FuncId} {args : List AV} {r : AV} {H' : AHeap} (h : C f args [] 0 = some (r, H')) (ht : frzRet H' r = some (r, H')) (hi : ∀ site, imp H' site 200 r [] [] = some (r, [], [])) (hl : r.leads = false) :
   aBack site true seen (thaw C f args [] 0) = .pure (r, []) := by
 simp only [thaw, h, ht, aBack, sitesB, freeOff, allFree, aBackAt, hi, List.map_nil, AM.apart, if_true, freeAll, Rd.bind, hl]
theorem Z0W {site : Nat → Nat} {seen : List Nat} {f : FuncId} {args : List AV} {k : IntKind} {z : Int} (h : ∃ H', C f args [] 0 = some (.int k z, H')) : aBack site true seen (thaw C f args [] 0) = .pure (.int k z, []) := by
 obtain ⟨H', h⟩ := h; exact Z1o h rfl (fun _ => rfl) rfl
theorem Z1I {site : Nat → Nat} {seen : List Nat} {f : FuncId} {args : List AV} {b : Bool} (h : ∃ H', C f args [] 0 = some (.bool b, H')) : aBack site true seen (thaw C f args [] 0) = .pure (.bool b, []) := by
 obtain ⟨H', h⟩ := h; exact Z1o h rfl (fun _ => rfl) rfl
theorem ZKg {k : IntKind} {z : Int} (h1 : kLo k ≤ z) (h2 : z ≤ kHi k) : wrp k z = z := by
 simp only [wrp, if_pos (And.intro h1 h2)]
theorem Zv {z : Int} (h : -9223372036854775808 ≤ z ∧ z ≤ 9223372036854775807) : wrp .i64 z = z := ZKg h.1 h.2
theorem Zl {k : Nat} (h : k < 1000000) : wrp .i64 ((k : Int) + 1) = ((k + 1 : Nat) : Int) := by
 rw [Zv (by omega)]; rfl
abbrev rsOf (r : Option (AV × AHeap)) : Option AV := r.map (·.1)
theorem Z0go (p : Prop) [Decidable p] (a b : Option (AV × AHeap)) : rsOf (if p then a else b) = if p then rsOf a else rsOf b := by split <;> rfl
theorem Z08C (v : AV) (H : AHeap) : rsOf (some (v, H)) = some v := rfl
theorem Z0kJ (p : Prop) [Decidable p] (k : IntKind) (a b : Int) : (if p then some (AV.int k a) else some (AV.int k b)) = some (AV.int k (if p then a else b)) := by split <;> rfl
theorem Z0h6 (p : Prop) [Decidable p] (a b : Bool) : (if p then some (AV.bool a) else some (AV.bool b)) = some (AV.bool (if p then a else b)) := by split <;> rfl
theorem Z0dm (p : Prop) [Decidable p] (k l : IntKind) (a b c d : Int) : (if p then some (AV.tup [AV.int k a, AV.int l c]) else some (AV.tup [AV.int k b, AV.int l d])) = some (AV.tup [AV.int k (if p then a else b), AV.int l (if p then c else d)]) := by split <;> rfl
theorem ZHO (p : Prop) [Decidable p] (l : IntKind) (a b : Bool) (c d : Int) : (if p then some (AV.tup [AV.bool a, AV.int l c]) else some (AV.tup [AV.bool b, AV.int l d])) = some (AV.tup [AV.bool (if p then a else b), AV.int l (if p then c else d)]) := by split <;> rfl
theorem ZWn {r : Option (AV × AHeap)} {v : AV} (h : rsOf r = some v) : ∃ H', r = some (v, H') := by
 cases r with
 | none => exact absurd h (by simp)
 | some x => obtain ⟨a, H⟩ := x; simp at h; exact ⟨H, by rw [h]⟩
theorem Z0lR (E0 : AHeap) (s : St) : gcM E0 [] s = s := rfl
theorem Z0lr (E0 : AHeap) (a : Nat) (l : List Nat) (s : St) : gcM E0 (a :: l) s = if a = 999999 then headA E0 s else s := by
 by_cases h : a = 999999
 · subst h; rfl
 · rw [if_neg h]; unfold gcM; split
   · rename_i e; exact absurd (List.cons.inj e).1 h
   · rfl
theorem ZUU (i : Nat) : fget [] i = .any := rfl
theorem ZDW (k : Nat) (a : AV) (t : AFr) (i : Nat) : fget ((k, a) :: t) i = if k = i then a else fget t i := by
 simp only [Zs9]
 cases h : Nat.beq k i
 · rw [if_neg (Nat.ne_of_beq_eq_false h)]; rfl
 · rw [if_pos (Nat.eq_of_beq_eq_true h)]; rfl
theorem ZQ5 (i : Nat) (b : AV) : fput [] i b = [(i, b)] := rfl
theorem ZEP (k : Nat) (c : AV) (t : AFr) (i : Nat) (b : AV) : fput ((k, c) :: t) i b = if k = i then (i, b) :: t else if i ≤ k then (k, c) :: fput t i b else (i, b) :: (k, c) :: t := by
 simp only [Z0V]
 cases h : Nat.beq k i
 · rw [if_neg (Nat.ne_of_beq_eq_false h)]
   simp only [cond_false]
   cases h2 : Nat.ble i k
   · rw [if_neg (by intro h3; rw [Nat.ble_eq_true_of_le h3] at h2; exact absurd h2 (by simp))]; rfl
   · rw [if_pos (Nat.le_of_ble_eq_true h2)]; rfl
 · rw [if_pos (Nat.eq_of_beq_eq_true h)]; rfl
theorem ZEA (l : List Nat) : forget [] l = [] := rfl
theorem Zmt (k : Nat) (a : AV) (t : AFr) (l : List Nat) : forget ((k, a) :: t) l = if l.elem k = true then forget t l else (k, a) :: forget t l := by
 simp only [Z8D]; cases l.elem k <;> rfl
theorem ZMo (i : Nat) : hget [] i = none := rfl
theorem Z2o (k : Nat) (b : Blk) (t : AHeap) (i : Nat) : hget ((k, b) :: t) i = if k = i then some b else hget t i := by
 simp only [Z4J]
 cases h : Nat.beq k i
 · rw [if_neg (Nat.ne_of_beq_eq_false h)]; rfl
 · rw [if_pos (Nat.eq_of_beq_eq_true h)]; rfl
theorem Z39 (i : Nat) (b : Blk) : hset [] i b = [(i, b)] := rfl
theorem Z2n (k : Nat) (c : Blk) (t : AHeap) (i : Nat) (b : Blk) : hset ((k, c) :: t) i b = if k = i then (i, b) :: t else if k ≤ i then (k, c) :: hset t i b else (i, b) :: (k, c) :: t := by
 simp only [ZmZ]
 cases h : Nat.beq k i
 · rw [if_neg (Nat.ne_of_beq_eq_false h)]
   simp only [cond_false]
   cases h2 : Nat.ble k i
   · rw [if_neg (by intro h3; rw [Nat.ble_eq_true_of_le h3] at h2; exact absurd h2 (by simp))]; rfl
   · rw [if_pos (Nat.le_of_ble_eq_true h2)]; rfl
 · rw [if_pos (Nat.eq_of_beq_eq_true h)]; rfl
theorem ZDS (i gl : Nat) : Rd.liveBlk i gl = .get i fun
   | some b => if gl = b.cells.length then (match b.st with | .mp => .fail | _ => .pure b) else .fail
   | none => .fail := by
 simp only [Rd.liveBlk]
 congr 1
 funext b
 cases b with
 | none => rfl
 | some b =>
   simp only
   cases h : Nat.beq gl b.cells.length
   · rw [if_neg (Nat.ne_of_beq_eq_false h)]; rfl
   · rw [if_pos (Nat.eq_of_beq_eq_true h)]; rfl
theorem ZwK (k t o : Nat) : freeOff [k] (t + 1) o = .get (k + o) fun
   | none => .pure o
   | some _ => freeOff [k] t (o + 1048576) := by
 rw [freeOff]
 generalize freeOff [k] t (o + 1048576) = z
 simp only [List.map_cons, List.map_nil, allFree, Rd.bind]
 congr 1
 funext b
 cases b <;> rfl
theorem fo6 (k : Nat) : freeOff [k] 6 0 = .get k fun
   | none => .pure 0
   | some _ => freeOff [k] 5 1048576 := by
 have := ZwK k 5 0
 rw [Nat.add_zero, Nat.zero_add] at this
 exact this
theorem fo5 (k : Nat) : freeOff [k] 5 1048576 = .get (k + 1048576) fun
   | none => .pure 1048576
   | some _ => freeOff [k] 4 2097152 := by
 have := ZwK k 4 1048576
 simp only [Nat.reduceAdd] at this
 exact this
theorem ZF9 (φ : AFr) (H : AHeap) (h : refsF φ = []) : headA [] (φ, H) = (φ, []) := by
 have h1 : ∀ H : AHeap, keepB [] [] H = [] := by
   intro H
   induction H with
   | nil => rfl
   | cons p t ih => obtain ⟨i, b⟩ := p; simp only [keepB, Z07, List.elem_nil, Option.isSome_none, Bool.or_false, cond_false, ih]
 simp only [headA, h, mark, h1, gcIf, closedB, allHeld, closedH, Bool.and_true]
theorem ZLh (E0 : AHeap) (φ : AFr) : headA E0 (φ, []) = (φ, []) := by
 simp only [headA, keepB, gcIf]; split <;> rfl
def stepT (E : Env) (C : Callee) (B n : Nat) (ops : Array Oper) (o : Oper) (s : St) : Option (St × Tr) := (stepA E C B n ops o s).map fun s' => (s', trA E C B n ops o s)
def goT (E : Env) (C : Callee) (B n : Nat) (o : Oper) (s : St) : Option (St × Tr) := (goA E C B n o s).map fun s' => (s', trG E C B n o s)
def trS (r : Rd (AV × Ups)) (H : AHeap) : Tr :=
 match r.run H with
 | some (_, us) => ⟨false, r.foot H, us.map (·.1)⟩
 | none => ⟨true, [], []⟩
def stpT (d : Option Nat) (φ : AFr) (H : AHeap) (r : Rd (AV × Ups)) : Option (St × Tr) :=
 match r.run H with
 | some (v, us) => some ((putD d φ v, upds H us), ⟨false, r.foot H, us.map (·.1)⟩)
 | none => none
def trV (E : Env) (C : Callee) (site : Nat → Nat) (H : AHeap) (f : AV) (args : List AV) (keep : Bool) : Tr :=
 match mutV E f args with
 | some _ => ⟨true, [], []⟩
 | none => trS (opCallV E C site keep f args) H
def callVT (E : Env) (C : Callee) (Bn : Nat) (d : Option Nat) (site : Nat → Nat) (φ : AFr) (H : AHeap) (f : AV) (args : List AV) (keep : Bool) : Option (St × Tr) :=
 match mutV E f args with
 | some (g, asx) => (mutX d φ (C g asx H Bn)).map fun s => (s, ⟨true, [], []⟩)
 | none => stpT d φ H (opCallV E C site keep f args)
def gdT (φ : AFr) (k : Nat) (want : Bool) (no yes : AFr → Option (St × Tr)) : Option (St × Tr) :=
 match fget φ k with
 | .bool b => if b = want then yes (fset φ k (.bool want)) else no (fset φ k (.bool !want))
 | .tup _ => no φ
 | _ => none
theorem Z5 {o : Oper} {φ : AFr} {H : AHeap} {d} {R : Rd (AV × Ups)} (h : goA E C B n o (φ, H) = stp d φ H R) (ht : trG E C B n o (φ, H) = trS R H) : goT E C B n o (φ, H) = stpT d φ H R := by
 simp only [goT, h, ht, stp, stpT, trS]
 cases R.run H <;> rfl
theorem Z7 {o : Oper} {φ : AFr} {H : AHeap} {s'} (h : goA E C B n o (φ, H) = some s') (ht : trG E C B n o (φ, H) = ⟨false, [], []⟩) : goT E C B n o (φ, H) = some (s', ⟨false, [], []⟩) := by
 simp only [goT, h, ht, Option.map_some]
theorem ZWt {o : Oper} {φ : AFr} {H : AHeap} {Bn d site f args keep} (h : goA E C B n o (φ, H) = callV E C Bn d site φ H f args keep) (ht : trG E C B n o (φ, H) = trV E C site H f args keep) :
   goT E C B n o (φ, H) = callVT E C Bn d site φ H f args keep := by
 simp only [goT, h, ht, callV, callVT, trV]
 cases mutV E f args with
 | none =>
   simp only [stp, stpT, trS]
   cases (opCallV E C site keep f args).run H <;> rfl
 | some x => rfl
theorem Z3 {ops : Array Oper} {o : Oper} {s : St} {x} (hg : o.guard = none) (h : goT E C B n o s = x) : stepT E C B n ops o s = x := by
 rw [← h]; simp only [stepT, goT, stepA, trA, hg]
theorem Zb {ops : Array Oper} {o oj : Oper} {j dj : Nat} {want : Bool} {φ : AFr} {H : AHeap} {no : AFr → Option St} {yes : AFr → Option (St × Tr)} (hg : o.guard = some (j, want)) (hj : ops[j]? = some oj) (hd : oj.dst = some dj) (hn : ∀ φ, fin n o φ (.tup []) H = no φ) (hy : ∀ φ, goT E C B n o (φ, H) = yes φ) :
   stepT E C B n ops o (φ, H) = gdT φ dj want (fun φ => (no φ).map fun s => (s, ⟨false, [], []⟩)) yes := by
 have hs := Z8I φ dj
 simp only [stepT, stepA, trA, hg, wantA, hj, hd, gdT]
 cases h : fget φ dj with
 | bool b =>
   rw [h] at hs
   cases b <;> cases want <;> simp only [hs, beq_self_eq_true, if_true, Bool.not_true, Bool.not_false, hn, ← hy, goT] <;> rfl
 | tup l => simp only [hn]
 | _ => rfl
theorem ZfU {f : AV} {args : List AV} (h : mutV E f args = none) (Bn : Nat) (d : Option Nat) (site) (φ H) (keep) : callVT E C Bn d site φ H f args keep = stpT d φ H (opCallV E C site keep f args) := by
 simp only [callVT, h]
def rtX (n i : Nat) (r : Option (St × Tr)) (k : St → Option (St × List (Nat × Tr))) : Option (St × List (Nat × Tr)) :=
 match r with
 | some (s', t) => match neat n s' with
   | true => match k s' with
     | some (s2, l) => some (s2, (i, t) :: l)
     | none => none
   | false => none
 | none => none
theorem ZVe (ops : Array Oper) (i : Nat) (s : St) : runT E C B n ops [] i s = some (s, []) := rfl
theorem ZMA (ops : Array Oper) (o : Oper) (os : List Oper) (i : Nat) (s : St) : runT E C B n ops (o :: os) i s = rtX n i (stepT E C B n ops o s) (runT E C B n ops os (i + 1)) := by
 simp only [runT, stepT, rtX]
 cases stepA E C B n ops o s with
 | none => rfl
 | some s' =>
   simp only [Option.map_some]
   cases neat n s' <;> rfl
def addT (i : Nat) (t : Tr) (r : Option (St × List (Nat × Tr))) : Option (St × List (Nat × Tr)) :=
 match r with
 | some (s2, l) => some (s2, (i, t) :: l)
 | none => none
theorem ZPr (i : Nat) (s' : St) (t : Tr) (k) : rtX n i (some (s', t)) k = if neat n s' = true then addT i t (k s') else none := by
 simp only [rtX, addT]; cases neat n s' <;> rfl
theorem ZQo (i : Nat) (k) : rtX n i none k = none := rfl
theorem ZWW (i : Nat) (p : Prop) [Decidable p] (a b) (k) : rtX n i (if p then a else b) k = if p then rtX n i a k else rtX n i b k := by split <;> rfl
theorem ZGr (i : Nat) (t : Tr) (s l) : addT i t (some (s, l)) = some (s, (i, t) :: l) := rfl
theorem ZMm (i : Nat) (t : Tr) : addT i t none = none := rfl
theorem ZTE (i : Nat) (t : Tr) (p : Prop) [Decidable p] (a b) : addT i t (if p then a else b) = if p then addT i t a else addT i t b := by split <;> rfl
def drX (ops : Array Oper) (r : Option (St × List (Nat × Tr))) : Option St :=
 match r with
 | some (s', l) => if dynOk ops l = true then some s' else none
 | none => none
theorem ZOT (ops : Array Oper) (s' l) : drX ops (some (s', l)) = if dynOk ops l = true then some s' else none := rfl
theorem ZUf (ops : Array Oper) : drX ops none = none := rfl
theorem Z06G (ops : Array Oper) (p : Prop) [Decidable p] (a b) : drX ops (if p then a else b) = if p then drX ops a else drX ops b := by split <;> rfl
theorem Z00 {ops : Array Oper} (h : statOk ops = true) (s : St) : drawA E C B n ops s = if neat n s = true then drX ops (runT E C B n ops ops.toList 0 s) else none := by
 simp only [drawA, h, drX]
 cases neat n s with
 | false => rfl
 | true =>
   simp only [if_true]
   cases runT E C B n ops ops.toList 0 s with
   | none => rfl
   | some x =>
     obtain ⟨s', l⟩ := x
     simp only
     cases dynOk ops l <;> rfl
theorem ZQ {ops : Array Oper} {an : List (List Nat)} (h : ancs ops.toList [] = an) (l) : dynOk ops l = (!writing l || Za an (Z9 l)) := by simp only [dynOk, h]
theorem Z02L (n : Nat) (φ : AFr) (H : AHeap) : neat n (φ, H) = (descF n φ && ascH 0 H) := rfl
theorem ZEg (h : Nat) : descF h [] = true := rfl
theorem ZuK (hi k : Nat) (a : AV) (t : AFr) : descF hi ((k, a) :: t) = (decide (k + 1 ≤ hi) && descF k t) := by
 simp only [Z2u]; congr 1
 cases h : Nat.ble (k + 1) hi
 · rw [eq_comm, decide_eq_false_iff_not]; intro h2; rw [Nat.ble_eq_true_of_le h2] at h; exact absurd h (by simp)
 · rw [eq_comm, decide_eq_true_eq]; exact Nat.le_of_ble_eq_true h
theorem ZKf (h : Nat) : ascH h [] = true := rfl
theorem ZDY (lo k : Nat) (a : Blk) (t : AHeap) : ascH lo ((k, a) :: t) = (decide (lo ≤ k) && ascH (k + 1) t) := by
 simp only [Z38]; congr 1
 cases h : Nat.ble lo k
 · rw [eq_comm, decide_eq_false_iff_not]; intro h2; rw [Nat.ble_eq_true_of_le h2] at h; exact absurd h (by simp)
 · rw [eq_comm, decide_eq_true_eq]; exact Nat.le_of_ble_eq_true h
end
end Go.AM
end
noncomputable section
namespace Go.AM
def Z0m (k : Nat) (seen : List Nat) (r : Nat → AV) (b : Blk) : Rd (AV × Ups) :=
 (freeOff [k] 6 0).bind fun off => (freeAll [k + off]).bind fun _ => (frz seen).bind fun us => .pure (r (k + off), us ++ [(k + off, b)])
theorem Ztc (k : Nat) (seen : List Nat) (r : Nat → AV) (b : Blk) : ∃ no : Blk → Rd (AV × Ups), Z0m k seen r b = .get k fun
   | none => .get k fun
     | none => (frz seen).bind fun us => .pure (r k, us ++ [(k, b)])
     | some _ => .fail
   | some b => no b := by
 refine ⟨fun _ => (freeOff [k] 5 1048576).bind fun off => (freeAll [k + off]).bind fun _ => (frz seen).bind fun us => .pure (r (k + off), us ++ [(k + off, b)]), ?_⟩
 simp only [Z0m, freeOff, List.map_cons, List.map_nil, allFree, Rd.bind, Nat.add_zero]
 congr 1
 funext x
 cases x with
 | none =>
   simp only [Rd.bind, freeAll, Nat.add_zero]
   congr 1
   funext y
   cases y <;> rfl
 | some _ => rfl
theorem ZFI {k : Nat} {seen : List Nat} {r : Nat → AV} {b : Blk} {H : AHeap} (h : hget H k = none) : (Z0m k seen r b).run H = ((frz seen).bind fun us => .pure (r k, us ++ [(k, b)])).run H := by
 obtain ⟨no, e⟩ := Ztc k seen r b
 rw [e]; simp only [Rd.run, h]
theorem ZEN {k : Nat} {seen : List Nat} {r : Nat → AV} {b : Blk} {H : AHeap} (h : hget H k = none) : (Z0m k seen r b).foot H = k :: k :: ((frz seen).bind fun us => .pure (r k, us ++ [(k, b)])).foot H := by
 obtain ⟨no, e⟩ := Ztc k seen r b
 rw [e]; simp only [Rd.foot, h]
def Z63 (k : Nat) (seen : List Nat) (r : Nat → AV) (b : Blk) : Rd (AV × Ups) := Z0m k seen r b
theorem Z08Z {k : Nat} {seen : List Nat} {r : Nat → AV} {b : Blk} {H : AHeap} : (Z0m k seen r b).run H = match hget H k with
   | none => ((frz seen).bind fun us => .pure (r k, us ++ [(k, b)])).run H
   | some _ => (Z63 k seen r b).run H := by
 cases h : hget H k with
 | none => exact ZFI h
 | some _ => rfl
theorem Z04q {k : Nat} {seen : List Nat} {r : Nat → AV} {b : Blk} {H : AHeap} : (Z0m k seen r b).foot H = match hget H k with
   | none => k :: k :: ((frz seen).bind fun us => .pure (r k, us ++ [(k, b)])).foot H
   | some _ => (Z63 k seen r b).foot H := by
 cases h : hget H k with
 | none => exact ZEN h
 | some _ => rfl
def Z2L (k0 k1 : Nat) (seen : List Nat) (r : Nat → Nat → AV) (b0 b1 : Blk) : Rd (AV × Ups) :=
 (freeOff [k1, k0] 6 0).bind fun off => (freeAll [k1 + off, k0 + off]).bind fun _ => (frz seen).bind fun us => .pure (r (k0 + off) (k1 + off), us ++ [(k1 + off, b1), (k0 + off, b0)])
def ZIq (k0 k1 : Nat) (seen : List Nat) (r : Nat → Nat → AV) (b0 b1 : Blk) : Rd (AV × Ups) := Z2L k0 k1 seen r b0 b1
theorem ZRq (k0 k1 : Nat) (seen : List Nat) (r : Nat → Nat → AV) (b0 b1 : Blk) : ∃ no no' : Blk → Rd (AV × Ups), Z2L k0 k1 seen r b0 b1 = .get k1 fun
   | none => .get k0 fun
     | none => .get k1 fun
       | none => .get k0 fun
         | none => (frz seen).bind fun us => .pure (r k0 k1, us ++ [(k1, b1), (k0, b0)])
         | some _ => .fail
       | some _ => .fail
     | some b => no b
   | some b => no' b := by
 refine ⟨fun _ => (freeOff [k1, k0] 5 1048576).bind fun off => (freeAll [k1 + off, k0 + off]).bind fun _ => (frz seen).bind fun us => .pure (r (k0 + off) (k1 + off), us ++ [(k1 + off, b1), (k0 + off, b0)]),
   fun _ => (freeOff [k1, k0] 5 1048576).bind fun off => (freeAll [k1 + off, k0 + off]).bind fun _ => (frz seen).bind fun us => .pure (r (k0 + off) (k1 + off), us ++ [(k1 + off, b1), (k0 + off, b0)]), ?_⟩
 simp only [Z2L, freeOff, List.map_cons, List.map_nil, allFree, Rd.bind, Nat.add_zero]
 congr 1
 funext x
 cases x with
 | some _ => rfl
 | none =>
   simp only [Rd.bind]
   congr 1
   funext y
   cases y with
   | some _ => rfl
   | none =>
     simp only [Rd.bind, freeAll, Nat.add_zero]
     congr 1
     funext x
     cases x with
     | some _ => rfl
     | none =>
       simp only [Rd.bind]
       congr 1
       funext y
       cases y <;> rfl
theorem Z091 {k0 k1 : Nat} {seen : List Nat} {r : Nat → Nat → AV} {b0 b1 : Blk} {H : AHeap} : (Z2L k0 k1 seen r b0 b1).run H = match hget H k1 with
   | none => match hget H k0 with
     | none => ((frz seen).bind fun us => .pure (r k0 k1, us ++ [(k1, b1), (k0, b0)])).run H
     | some _ => (ZIq k0 k1 seen r b0 b1).run H
   | some _ => (ZIq k0 k1 seen r b0 b1).run H := by
 cases h : hget H k1 with
 | some _ => rfl
 | none =>
   cases h2 : hget H k0 with
   | some _ => rfl
   | none =>
     obtain ⟨no, no', e⟩ := ZRq k0 k1 seen r b0 b1
     rw [e]; simp only [Rd.run, h, h2]
theorem ZFj {C : Callee} {site : Nat → Nat} {seen : List Nat} {f : FuncId} {args : List AV} {id id' n n' sz sz' : Nat} {cells cells' : List AV} {H' : AHeap} (h : C f args [] 0 = some (.tup [.ref id 0 n n cells.length sz false, .ref id' 0 n' n' cells'.length sz' false], H')) (hg : hget H' id = some ⟨.row, cells⟩) (hg' : hget H' id' = some ⟨.row, cells'⟩) (hne : id' ≠ id) (hs : site 1 ≠ site 0) :
   aBack site true seen (thaw C f args [] 0) = Z2L (site 0) (site 1) seen (fun k k' => .tup [.ref k 0 n n cells.length sz false, .ref k' 0 n' n' cells'.length sz' false]) ⟨.row, cells⟩ ⟨.row, cells'⟩ := by
 have hb : ∀ off, (site 1 + off == site 0 + off) = false := fun off => by rw [beq_eq_false_iff_ne]; omega
 simp only [thaw, h, frzRet, aBack, sitesB, aBackAt, imp, imps, hg, hg', hne, hb, List.length_nil, List.length_cons, List.not_mem_nil, List.mem_cons, or_false, not_false_eq_true, and_true, if_true, List.map_cons, List.map_nil, AM.apart, List.elem_cons, List.elem_nil, Bool.not_false, Bool.and_true, AV.leads, AV.leads.leadsL, Bool.or_false, Bool.true_or, Nat.zero_add, Z2L]
theorem ZIK {C : Callee} {site : Nat → Nat} {seen : List Nat} {f : FuncId} {args : List AV} (h : ∃ H', C f args [] 0 = some (.nilsl, H')) : aBack site true seen (thaw C f args [] 0) = .pure (.nilsl, []) := by
 obtain ⟨H', h⟩ := h; exact Z1o h rfl (fun _ => rfl) rfl
end Go.AM
end
noncomputable section
namespace Go.AM
theorem seqN (s : St) (k) : seqX (some (.normal, s)) k = k s := nf
theorem bindN (s : St) (k) : bindR (some s) k = k s := nf
theorem regN (s : St) (k) : regX (some s) k = some (.normal, k s) := nf
theorem ZPq (d : Nat) (k : IntKind) (z : Int) : snap (d + 1) (.int k z) = .pure (.int k z, []) := rfl
theorem ZDL (d : Nat) : snap (d + 1) .nilsl = .pure (.nilsl, []) := rfl
theorem ZSX (d : Nat) (c : List AV) (n : Nat) (ex : Bool) : snap (d + 1) (.imm c n ex) = .pure (.imm c n ex, []) := rfl
theorem ZW1 (d id off len cap gl sz : Nat) (ex : Bool) : snap (d + 1) (.ref id off len cap gl sz ex) = (Rd.liveBlk id gl).bind fun b =>
     if off + len * sz ≤ b.cells.length then
       match b.st with
       | .box => (snaps d ((b.cells.drop off).take (len * sz))).bind fun x =>
         .pure (.imm x.1 len (ex && decide (cap = len)), id :: x.2)
       | _ => .pure (.imm ((b.cells.drop off).take (len * sz)) len (ex && decide (cap = len)), [id])
     else .fail := rfl
theorem ZMg (d id off gl : Nat) : snap (d + 1) (.ptr id off gl) = (Rd.liveBlk id gl).bind fun b =>
     match b.st with
     | .box => (snaps d b.cells).bind fun x => .pure (.iptr x.1 off, id :: x.2)
     | _ => .pure (.iptr b.cells off, [id]) := rfl
theorem ZIt (d : Nat) (c : List AV) (n : Nat) : snap (d + 1) (.iptr c n) = .pure (.iptr c n, []) := rfl
theorem ZJr (d : Nat) (b : Bool) : snap (d + 1) (.bool b) = .pure (.bool b, []) := rfl
theorem Zmf (d : Nat) : snap (d + 1) .nilfunc = .pure (.nilfunc, []) := rfl
theorem ZU1 (d : Nat) (vs : List AV) : snap (d + 1) (.agg vs) = (snaps d vs).bind fun x => .pure (.agg x.1, x.2) := rfl
theorem ZQ0 (d : Nat) (vs : List AV) : snap (d + 1) (.tup vs) = (snaps d vs).bind fun x => .pure (.tup x.1, x.2) := rfl
theorem ZNY (d : Nat) (f : FuncId) (vs : List AV) : snap (d + 1) (.clo f vs) = (snaps d vs).bind fun x => .pure (.clo f x.1, x.2) := rfl
def frzB (s : BS) (cs : List AV) (i : Nat) (r : Rd Ups) : Rd Ups :=
 match s, cs.all AV.flat with
 | .box, false => .fail
 | .mp, _ => .fail
 | .froz, _ => r
 | _, _ => r.bind fun us => .pure ((i, ⟨.froz, cs⟩) :: us)
theorem Z005 : frz [] = .pure [] := rfl
theorem Z0gb (i : Nat) (is : List Nat) : frz (i :: is) = .get i fun
   | some b => frzB b.st b.cells i (frz is)
   | none => .fail := rfl
theorem ZUT (cs : List AV) (i : Nat) (r : Rd Ups) : frzB .row cs i r = r.bind fun us => .pure ((i, ⟨.froz, cs⟩) :: us) := rfl
theorem ZKi (cs : List AV) (i : Nat) (r : Rd Ups) : frzB .froz cs i r = r := by unfold frzB; cases cs.all AV.flat <;> rfl
theorem ZNw (cs : List AV) (i : Nat) (r : Rd Ups) : frzB .box cs i r = if cs.all AV.flat = true then r.bind fun us => .pure ((i, ⟨.froz, cs⟩) :: us) else .fail := by
 unfold frzB; cases cs.all AV.flat <;> rfl
theorem Z3l : ∀ (l : List AV) (d : Nat), (∀ a ∈ l, ∃ k z, a = AV.int k z) → l.length + 2 ≤ d → snaps d l = .pure (l, [])
 | [], d + 1, _, _ => by simp only [snaps]
 | a :: l, d + 1, h, hd => by
   obtain ⟨k, z, rfl⟩ := h a (List.mem_cons_self ..)
   have hd2 : l.length + 2 ≤ d := by simp only [List.length_cons] at hd; omega
   have ih := Z3l l d (fun a ha => h a (List.mem_cons_of_mem _ ha)) hd2
   obtain ⟨e, rfl⟩ : ∃ e, d = e + 1 := ⟨d - 1, by omega⟩
   simp only [snaps, snap, ih, Rd.bind, List.nil_append]
end Go.AM
namespace Go.AM.Ytfmnoohhhokicaa
open Go Go.AM
theorem cl0 : ((0 : Nat) : Int) = 0 := rfl
theorem cl5 : ((5 : Nat) : Int) = 5 := rfl
end Go.AM.Ytfmnoohhhokicaa
end
noncomputable section
namespace Go.AM
abbrev ZF := And.intro (And.intro (And.intro (And.intro (And.intro (And.intro (And.intro @ZPt @ZJG) (And.intro @ZHY (And.intro @ZNs
 @ZFD))) (And.intro (And.intro @ZK2 @ZLR) (And.intro @ZVN (And.intro @ZFB @ZuI)))) (And.intro (And.intro
 (And.intro @Zis @ZFn) (And.intro @ZuL (And.intro @ZFk @ZUw))) (And.intro (And.intro @ZMi @Bool.not_true)
 (And.intro @Bool.not_false (And.intro @ZIU @ZHf))))) (And.intro (And.intro (And.intro (And.intro @ZrW @Z04G) (And.intro
 @ZTf (And.intro @ZUU @ZDW))) (And.intro (And.intro @ZQ5 @ZEP) (And.intro @ZEA (And.intro @Zmt
 @ZMo)))) (And.intro (And.intro (And.intro @Z2o @Z39) (And.intro @Z2n (And.intro @ZLh @Z0lR))) (And.intro (And.intro
 @Z0lr (And.intro @ZDS @decide_eq_true_eq)) (And.intro @decide_eq_false_iff_not (And.intro @Nat.zero_add @Nat.add_zero)))))) (And.intro
 (And.intro (And.intro (And.intro (And.intro @Z0go @Z08C) (And.intro @Z0kJ (And.intro @Z0h6 @Z0dm))) (And.intro (And.intro @ZHO
 @bne_iff_ne.{0}) (And.intro @ne_eq.{1} (And.intro @beq_iff_eq.{0} @ite_not.{1})))) (And.intro (And.intro (And.intro @ZF9 @List.nil_append.{0})
 (And.intro @List.getElem?_toArray.{0} (And.intro @ZPr @ZQo))) (And.intro (And.intro @ZWW (And.intro @ZGr @ZMm)) (And.intro
 @ZTE (And.intro @ZOT @ZUf))))) (And.intro (And.intro (And.intro (And.intro @Z06G @ZVe) (And.intro @ZMA (And.intro @Z02L
 @ZEg))) (And.intro (And.intro @ZuK @ZKf) (And.intro @ZDY (And.intro @List.isEmpty_nil.{0} @List.isEmpty_cons.{0}))))
 (And.intro (And.intro (And.intro @List.map_nil.{0,0} @List.map_cons.{0,0}) (And.intro @Bool.true_or (And.intro @Bool.or_true @Bool.false_or)))
 (And.intro (And.intro @Bool.or_false (And.intro @Bool.and_true @Bool.true_and)) (And.intro @Bool.and_self (And.intro @decide_true @decide_false)))))))
 (And.intro (And.intro (And.intro (And.intro (And.intro (And.intro @not_true_eq_false @not_false_eq_true) (And.intro @or_false (And.intro @false_or
 @or_true))) (And.intro (And.intro @true_or @or_self) (And.intro @fo6 (And.intro @fo5 @Bool.not_eq_true)))) (And.intro (And.intro (And.intro
 @Bool.not_eq_false @Bool.not_eq_eq_eq_not) (And.intro @ZIg (And.intro @ZGy @and_true))) (And.intro (And.intro @true_and
 @Int.natCast_nonneg) (And.intro @Int.ofNat_lt (And.intro @Int.toNat_natCast @List.append_nil.{0}))))) (And.intro (And.intro (And.intro (And.intro
 @if_true.{1} @if_false.{1}) (And.intro @Option.map_some.{0,0} (And.intro @Option.map_none.{0,0} @List.elem_cons.{0}))) (And.intro (And.intro
 @List.elem_nil.{0} @cond_true.{1}) (And.intro @cond_false.{1} (And.intro @List.length_cons.{0} @List.length_nil.{0})))) (And.intro (And.intro
 (And.intro @List.getElem?_cons_zero.{0} @List.getElem?_cons_succ.{0}) (And.intro @List.drop_zero.{0} (And.intro @List.drop_succ_cons.{0}
 @List.take_succ_cons.{0}))) (And.intro (And.intro @List.take_zero.{0} (And.intro @List.take_nil.{0} @List.set_cons_zero.{0})) (And.intro
 @List.set_cons_succ.{0} (And.intro @Z005 @Z0gb)))))) (And.intro (And.intro (And.intro (And.intro (And.intro @ZUT @ZKi) (And.intro
 @ZNw (And.intro @seqN @bindN))) (And.intro (And.intro @regN @ZPq) (And.intro @ZJr (And.intro @ZDL @Zmf)))) (And.intro
 (And.intro (And.intro @ZSX @ZW1) (And.intro @ZMg (And.intro @ZIt @ZU1))) (And.intro (And.intro @ZQ0 (And.intro
 @ZNY @List.all_cons.{0})) (And.intro @List.all_nil.{0} (And.intro @Z08Z @Z04q))))) (And.intro (And.intro (And.intro (And.intro @Z091
 @List.cons_append.{0}) (And.intro @Nat.le_refl (And.intro @Nat.sub_zero @Nat.mul_one))) (And.intro (And.intro @Nat.zero_mul @Nat.mul_zero) (And.intro
 @List.not_mem_nil.{0} (And.intro @beq_self_eq_true.{0} @bne_self_eq_false.{0})))) (And.intro (And.intro (And.intro @Int.lt_irrefl @Nat.lt_irrefl)
 (And.intro @Bool.false_eq_true (And.intro @Bool.false_and @Option.getD_none.{0}))) (And.intro (And.intro @Option.getD_some.{0} (And.intro
 @List.contains_cons.{0} @List.contains_nil.{0})) (And.intro @List.getD_cons_zero.{0} (And.intro @List.getD_cons_succ.{0} @List.getD_nil.{0})))))))
end Go.AM
end
noncomputable section
namespace Go.AM
noncomputable section NC
def posF : List Nat → Nat → Nat → Option Nat
 | [], _, _ => none
 | k :: ks, j, i => if k = i then some j else posF ks (j + 1) i
mutual
def ren (ρ : Nat → Option Nat) : AV → Option AV
 | .agg vs => match renL ρ vs with
   | some xs => some (.agg xs)
   | none => none
 | .tup vs => match renL ρ vs with
   | some xs => some (.tup xs)
   | none => none
 | .clo f vs => match renL ρ vs with
   | some xs => some (.clo f xs)
   | none => none
 | .bnd f vs => match renL ρ vs with
   | some xs => some (.bnd f xs)
   | none => none
 | .ref id off len cap gl sz ex => match ρ id with
   | some j => some (.ref j off len cap gl sz ex)
   | none => none
 | .ptr id off gl => match ρ id with
   | some j => some (.ptr j off gl)
   | none => none
 | .mapv id => match ρ id with
   | some j => some (.mapv j)
   | none => none
 | a => some a
def renL (ρ : Nat → Option Nat) : List AV → Option (List AV)
 | [] => some []
 | a :: asx => match ren ρ a with
   | some x => match renL ρ asx with
     | some xs => some (x :: xs)
     | none => none
   | none => none
end
def renB (ρ : Nat → Option Nat) (b : Blk) : Option Blk :=
 match b.st with
 | .box => match renL ρ b.cells with
   | some cs => some ⟨.box, cs⟩
   | none => none
 | _ => some b
def foc (ρ : Nat → Option Nat) (H : AHeap) : Nat → List Nat → Option AHeap
 | _, [] => some []
 | j, i :: is => match hget H i with
   | some b => match renB ρ b with
     | some b1 => match foc ρ H (j + 1) is with
       | some t => some ((j, b1) :: t)
       | none => none
     | none => none
   | none => none
def outF (ks news : List Nat) (B n : Nat) : Option Nat :=
 if n < ks.length then ks[n]? else match posF news 0 n with
   | some j => some (B + j)
   | none => none
def goodB (H1 : AHeap) (m n : Nat) (b : Blk) : Bool :=
 b.st.open_ || (decide (n < m) && match hget H1 n with
   | some b0 => decide (b0.cells.length = b.cells.length)
   | none => false)
def unf (ρ : Nat → Option Nat) (H1 H2 : AHeap) (m : Nat) : List Nat → Option Ups
 | [] => some []
 | n :: ns => match ρ n with
   | some i => match hget H2 n with
     | some b => if goodB H1 m n b = true then
         match renB ρ b with
         | some b' => match unf ρ H1 H2 m ns with
           | some us => some ((i, b') :: us)
           | none => none
         | none => none
       else none
     | none => none
   | none => none
def newsF (H2 : AHeap) (r : AV) (m : Nat) : List Nat := (mark H2 1000 (refsOf r ++ List.range m) []).filter fun n => decide (m ≤ n)
def freeL (H : AHeap) (B : Nat) : Nat → Bool
 | 0 => true
 | n + 1 => (hget H (B + n)).isNone && freeL H B n
def baseF (H : AHeap) (n : Nat) : Nat → Nat → Option Nat
 | 0, _ => none
 | t + 1, B => if freeL H B n = true then some B else baseF H n t (B + 64)
def backF (H H1 : AHeap) (ks : List Nat) (B : Nat) : Option (AV × AHeap) → Option (AV × AHeap)
 | some (r, H2) =>
   match baseF H (newsF H2 r ks.length).length 8 B with
   | some B => if AM.apart (newsF H2 r ks.length) = true then
       match ren (outF ks (newsF H2 r ks.length) B) r, unf (outF ks (newsF H2 r ks.length) B) H1 H2 ks.length (List.range ks.length ++ newsF H2 r ks.length) with
       | some r', some us => some (r', upds H us)
       | _, _ => none
     else none
   | none => none
 | none => none
def focus (C : Callee) (f : FuncId) (args : List AV) (H : AHeap) (B : Nat) (ks : List Nat) : Option (AV × AHeap) :=
 if AM.apart ks = true then
   match renL (posF ks 0) args, foc (posF ks 0) H 0 ks with
   | some args1, some H1 => backF H H1 ks B (C f args1 H1 64)
   | _, _ => none
 else none
def frC (fr : FuncId → Bool) (C : Callee) : Callee := fun f args H B =>
 match fr f with
 | true => focus C f args H B (mark H 1000 (refsL args) []).reverse
 | false => C f args H B
def callF (E : Env) (fr : FuncId → Bool) (fg : FuncId → Nat → List Nat) (N : Nat) : Nat → Callee
 | 0 => fun _ _ _ _ => none
 | d + 1 => bodyA E (frC fr (callF E fr fg N d)) fg N
end NC
def AV.leaf : AV → Bool
 | .ref .. | .ptr .. | .mapv .. => true
 | _ => false
noncomputable section
variable {P : Program} {E : Env}
mutual
theorem Z5M {fz fz' : Nat → Prop} {w w' : World} (hf : ∀ k, fz k → fz' k ∧ w'.heap[k]? = w.heap[k]?) {rf rf' : RFt} {ρ : Nat → Option Nat}
   (hr : ∀ a a' v, a.leaf = true → ren ρ a = some a' → v.oneCell' = true → rf a v → rf' a' v) : ∀ (a a' : AV) (v : Value), ren ρ a = some a' → VR fz w a rf v → VR fz' w' a' rf' v
 | .int .., a', _, e, h => by simp only [ren, Option.some.injEq] at e; subst e; simpa only [VR] using h
 | .bool .., a', _, e, h => by simp only [ren, Option.some.injEq] at e; subst e; simpa only [VR] using h
 | .str .., a', _, e, h => by simp only [ren, Option.some.injEq] at e; subst e; simpa only [VR] using h
 | .nilsl, a', _, e, h => by simp only [ren, Option.some.injEq] at e; subst e; simpa only [VR] using h
 | .nilptr, a', _, e, h => by simp only [ren, Option.some.injEq] at e; subst e; simpa only [VR] using h
 | .nilfunc, a', _, e, h => by simp only [ren, Option.some.injEq] at e; subst e; simpa only [VR] using h
 | .nilmap, a', _, e, h => by simp only [ren, Option.some.injEq] at e; subst e; simpa only [VR] using h
 | .any, a', _, e, _ => by simp only [ren, Option.some.injEq] at e; subst e; simp only [VR]
 | .imm cells len ex, a', _, e, h => by
   simp only [ren, Option.some.injEq] at e; subst e
   simp only [VR] at h ⊢; obtain ⟨b, o, cap, e, h1, h2, h3⟩ := h
   refine ⟨b, o, cap, e, h1, h2, ?_⟩
   rcases h3 with h3 | ⟨h3, h4⟩
   · exact .inl h3
   · exact .inr ⟨(hf b h3).1, VRc.mono (K := fun _ => True) hf (fun _ _ _ h => h) cells b o (hf b h3).2 (fun _ _ => trivial) h4⟩
 | .iptr cells off, a', _, e, h => by
   simp only [ren, Option.some.injEq] at e; subst e
   simp only [VR] at h ⊢; obtain ⟨b, o, e, h3, h4⟩ := h
   exact ⟨b, o, e, (hf b h3).1, VRc.mono (K := fun _ => True) hf (fun _ _ _ h => h) cells b o (hf b h3).2 (fun _ _ => trivial) h4⟩
 | .agg vs, a', _, e, h => by
   simp only [ren] at e
   split at e
   · rename_i xs hx
     obtain rfl := Option.some.inj e
     simp only [VR] at h ⊢; obtain ⟨A, q, h⟩ := h
     exact ⟨A, q, ZB5 hf hr vs xs _ hx h⟩
   · exact absurd e (by simp)
 | .tup vs, a', _, e, h => by
   simp only [ren] at e
   split at e
   · rename_i xs hx
     obtain rfl := Option.some.inj e
     simp only [VR] at h ⊢; obtain ⟨A, q, h⟩ := h
     exact ⟨A, q, Z4X hf hr vs xs _ hx h⟩
   · exact absurd e (by simp)
 | .clo f vs, a', _, e, h => by
   simp only [ren] at e
   split at e
   · rename_i xs hx
     obtain rfl := Option.some.inj e
     simp only [VR] at h ⊢; obtain ⟨A, q, h⟩ := h
     exact ⟨A, q, Z4X hf hr vs xs _ hx h⟩
   · exact absurd e (by simp)
 | .bnd f vs, a', _, e, h => by
   simp only [ren] at e
   split at e
   · rename_i xs hx
     obtain rfl := Option.some.inj e
     simp only [VR] at h ⊢; obtain ⟨A, q, h⟩ := h
     exact ⟨A, q, Z4X hf hr vs xs _ hx h⟩
   · exact absurd e (by simp)
 | .ref id off len cap gl sz ex, a', v, e, h => by
   have e0 := e
   simp only [ren] at e
   split at e
   · obtain rfl := Option.some.inj e
     simp only [VR] at h ⊢
     exact ⟨h.1, hr _ _ v rfl e0 h.1 h.2⟩
   · exact absurd e (by simp)
 | .ptr id off gl, a', v, e, h => by
   have e0 := e
   simp only [ren] at e
   split at e
   · obtain rfl := Option.some.inj e
     simp only [VR] at h ⊢
     exact ⟨h.1, hr _ _ v rfl e0 h.1 h.2⟩
   · exact absurd e (by simp)
 | .mapv id, a', v, e, h => by
   have e0 := e
   simp only [ren] at e
   split at e
   · obtain rfl := Option.some.inj e
     simp only [VR] at h ⊢
     exact ⟨h.1, hr _ _ v rfl e0 h.1 h.2⟩
   · exact absurd e (by simp)
theorem Z4X {fz fz' : Nat → Prop} {w w' : World} (hf : ∀ k, fz k → fz' k ∧ w'.heap[k]? = w.heap[k]?) {rf rf' : RFt} {ρ : Nat → Option Nat}
   (hr : ∀ a a' v, a.leaf = true → ren ρ a = some a' → v.oneCell' = true → rf a v → rf' a' v) : ∀ (asx bs : List AV) (vs : List Value), renL ρ asx = some bs → VRs fz w asx rf vs → VRs fz' w' bs rf' vs
 | [], bs, _, e, h => by simp only [renL, Option.some.injEq] at e; subst e; simpa only [VRs] using h
 | a :: asx, bs, _, e, h => by
   simp only [renL] at e
   split at e
   · rename_i x hx
     split at e
     · rename_i xs hxs
       obtain rfl := Option.some.inj e
       simp only [VRs] at h ⊢; obtain ⟨v, t, q, h1, h2⟩ := h
       exact ⟨v, t, q, Z5M hf hr a x v hx h1, Z4X hf hr asx xs t hxs h2⟩
     · exact absurd e (by simp)
   · exact absurd e (by simp)
theorem ZB5 {fz fz' : Nat → Prop} {w w' : World} (hf : ∀ k, fz k → fz' k ∧ w'.heap[k]? = w.heap[k]?) {rf rf' : RFt} {ρ : Nat → Option Nat}
   (hr : ∀ a a' v, a.leaf = true → ren ρ a = some a' → v.oneCell' = true → rf a v → rf' a' v) : ∀ (asx bs : List AV) (vs : List Value), renL ρ asx = some bs → VRo fz w asx rf vs → VRo fz' w' bs rf' vs
 | [], bs, _, e, h => by simp only [renL, Option.some.injEq] at e; subst e; simpa only [VRo] using h
 | a :: asx, bs, _, e, h => by
   simp only [renL] at e
   split at e
   · rename_i x hx
     split at e
     · rename_i xs hxs
       obtain rfl := Option.some.inj e
       simp only [VRo] at h ⊢; obtain ⟨v, t, q, h0, h1, h2⟩ := h
       exact ⟨v, t, q, h0, Z5M hf hr a x v hx h1, ZB5 hf hr asx xs t hxs h2⟩
     · exact absurd e (by simp)
   · exact absurd e (by simp)
end
theorem ZzT {fz fz' : Nat → Prop} {w w' : World} (hf : ∀ k, fz k → fz' k ∧ w'.heap[k]? = w.heap[k]?) {rf rf' : RFt} {ρ : Nat → Option Nat}
   (hr : ∀ a a' v, a.leaf = true → ren ρ a = some a' → v.oneCell' = true → rf a v → rf' a' v) : ∀ (asx bs : List AV) (b o : Nat), w'.heap[b]? = w.heap[b]? → renL ρ asx = some bs → VRc fz w asx rf b o → VRc fz' w' bs rf' b o
 | [], bs, _, _, _, e, _ => by simp only [renL, Option.some.injEq] at e; subst e; simp only [VRc]
 | a :: asx, bs, b, o, hb, e, h => by
   simp only [renL] at e
   split at e
   · rename_i x hx
     split at e
     · rename_i xs hxs
       obtain rfl := Option.some.inj e
       simp only [VRc] at h ⊢; obtain ⟨⟨v, q, h0, h1⟩, h2⟩ := h
       exact ⟨⟨v, by rw [Z5B hb]; exact q, h0, Z5M hf hr a x v hx h1⟩, ZzT hf hr asx xs b (o + 1) hb hxs h2⟩
     · exact absurd e (by simp)
   · exact absurd e (by simp)
mutual
theorem ZtD : ∀ a : AV, ren some a = some a
 | .int .. | .bool .. | .str .. | .nilsl | .nilptr | .nilfunc | .nilmap | .any | .imm .. | .iptr .. | .ref .. | .ptr .. | .mapv .. => by simp only [ren]
 | .agg vs => by simp only [ren, Z3x vs]
 | .tup vs => by simp only [ren, Z3x vs]
 | .clo f vs => by simp only [ren, Z3x vs]
 | .bnd f vs => by simp only [ren, Z3x vs]
theorem Z3x : ∀ l : List AV, renL some l = some l
 | [] => by simp only [renL]
 | a :: l => by simp only [renL, ZtD a, Z3x l]
end
theorem Z8m {ρ : Nat → Option Nat} : ∀ {l l' : List AV}, renL ρ l = some l' → l'.length = l.length
 | [], _, h => by simp only [renL, Option.some.injEq] at h; subst h; rfl
 | a :: l, l', h => by
   simp only [renL] at h
   split at h
   · split at h
     · rename_i xs hxs
       obtain rfl := Option.some.inj h
       rw [List.length_cons, List.length_cons, Z8m hxs]
     · exact absurd h (by simp)
   · exact absurd h (by simp)
theorem Z1l {ρ : Nat → Option Nat} {b b' : Blk} (h : renB ρ b = some b') : b'.st = b.st ∧ b'.cells.length = b.cells.length := by
 unfold renB at h
 split at h
 · rename_i hs
   split at h
   · rename_i cs hc
     obtain rfl := Option.some.inj h
     exact ⟨hs.symm, Z8m hc⟩
   · exact absurd h (by simp)
 · obtain rfl := Option.some.inj h; exact ⟨rfl, rfl⟩
theorem Z5z {g g' : Gh} {ρ : Nat → Option Nat} {i j : Nat} {b b' : Blk} (hmu : g'.mu j = g.mu i) (hh : g'.w.heap[(g.mu i).1]? = g.w.heap[(g.mu i).1]?) (hf : ∀ k, g.fz k → g'.fz k ∧ g'.w.heap[k]? = g.w.heap[k]?)
   (hr : ∀ a a' v, a.leaf = true → ren ρ a = some a' → v.oneCell' = true → RF g a v → RF g' a' v) (hb : renB ρ b = some b') (h : Lies g i b) : Lies g' j b' := by
 by_cases hs : b.st = .mp
 · have : b' = b := by unfold renB at hb; rw [hs] at hb; exact (Option.some.inj hb).symm
   subst this
   obtain ⟨es, h1, h2⟩ := h.map hs
   exact Z3J hs ⟨es, by rw [hmu, hh]; exact h1, h2⟩
 · obtain ⟨cs, t, h1, h2⟩ := h.cells hs
   refine Z4F (by rw [(Z1l hb).1]; exact hs) ⟨cs, t, by rw [hmu, hh]; exact h1, ?_⟩
   rw [hmu, (Z1l hb).1]
   unfold renB at hb
   split at hb
   · rename_i hst
     split at hb
     · rename_i cs' hc
       obtain rfl := Option.some.inj hb
       rw [hst] at h2 ⊢
       exact ZzT hf hr _ _ _ _ hh hc h2
     · exact absurd hb (by simp)
   · rename_i hst
     obtain rfl := Option.some.inj hb
     refine VRc.mono (K := fun _ => True) hf (fun a v _ h => ?_) _ _ _ hh (fun _ _ => trivial) h2
     cases hbs : b.st <;> rw [hbs] at h
     · exact absurd hbs hst
     all_goals exact h
theorem Z2h : ∀ (ks : List Nat) (j i n : Nat), posF ks j i = some n → j ≤ n ∧ ks[n - j]? = some i
 | [], _, _, _, h => by simp [posF] at h
 | k :: ks, j, i, n, h => by
   simp only [posF] at h
   split at h
   · rename_i e
     obtain rfl := Option.some.inj h
     subst e
     exact ⟨Nat.le_refl _, by rw [Nat.sub_self]; rfl⟩
   · obtain ⟨h1, h2⟩ := Z2h ks (j + 1) i n h
     refine ⟨by omega, ?_⟩
     rw [show n - j = (n - (j + 1)) + 1 by omega, List.getElem?_cons_succ]; exact h2
theorem Z1G : ∀ (ks : List Nat) (j i n : Nat), ks.Nodup → ks[n]? = some i → posF ks j i = some (j + n)
 | [], _, _, _, _, h => by simp at h
 | k :: ks, j, i, n, hn, h => by
   rw [List.nodup_cons] at hn
   simp only [posF]
   cases n with
   | zero => rw [if_pos (by simpa using h)]; rfl
   | succ n =>
     rw [List.getElem?_cons_succ] at h
     rw [if_neg (fun e => hn.1 (by rw [e]; exact List.mem_of_getElem? h)), Z1G ks (j + 1) i n hn.2 h]
     congr 1; omega
theorem ZmV {ρ : Nat → Option Nat} {H : AHeap} : ∀ (ks : List Nat) (j : Nat) {H1 : AHeap}, foc ρ H j ks = some H1 →
   (∀ n b1, hget H1 n = some b1 → j ≤ n ∧ ∃ i b, ks[n - j]? = some i ∧ hget H i = some b ∧ renB ρ b = some b1) ∧ (∀ n i, ks[n]? = some i → ∃ b b1, hget H i = some b ∧ renB ρ b = some b1 ∧ hget H1 (j + n) = some b1)
 | [], j, H1, h => by
   simp only [foc, Option.some.injEq] at h; subst h
   exact ⟨fun n b1 h => by simp [Z07] at h, fun n i h => by simp at h⟩
 | k :: ks, j, H1, h => by
   simp only [foc] at h
   split at h
   · rename_i b hb
     split at h
     · rename_i b1 hb1
       split at h
       · rename_i t ht
         obtain rfl := Option.some.inj h
         obtain ⟨h1, h2⟩ := ZmV ks (j + 1) ht
         refine ⟨fun n c hc => ?_, fun n i hi => ?_⟩
         · rw [Z0f] at hc
           split at hc
           · rename_i e
             subst e
             obtain rfl := Option.some.inj hc
             exact ⟨Nat.le_refl _, k, b, by rw [Nat.sub_self]; rfl, hb, hb1⟩
           · obtain ⟨q1, i, b', q2, q3, q4⟩ := h1 n c hc
             refine ⟨by omega, i, b', ?_, q3, q4⟩
             rw [show n - j = (n - (j + 1)) + 1 by omega, List.getElem?_cons_succ]; exact q2
         · cases n with
           | zero =>
             simp only [List.getElem?_cons_zero, Option.some.injEq] at hi
             subst hi
             exact ⟨b, b1, hb, hb1, by rw [Z0f, if_pos (by omega)]⟩
           | succ n =>
             rw [List.getElem?_cons_succ] at hi
             obtain ⟨b', b1', q1, q2, q3⟩ := h2 n i hi
             exact ⟨b', b1', q1, q2, by rw [Z0f, if_neg (by omega), show j + (n + 1) = j + 1 + n by omega]; exact q3⟩
       · exact absurd h (by simp)
     · exact absurd h (by simp)
   · exact absurd h (by simp)
theorem ZkW {ρ : Nat → Option Nat} {H1 H2 : AHeap} {m : Nat} : ∀ (ns : List Nat) {us : Ups}, unf ρ H1 H2 m ns = some us →
   (∀ n ∈ ns, ∃ i b b', ρ n = some i ∧ hget H2 n = some b ∧ goodB H1 m n b = true ∧ renB ρ b = some b' ∧ (i, b') ∈ us) ∧ us.map (fun p => some p.1) = ns.map ρ
 | [], us, h => by simp only [unf, Option.some.injEq] at h; subst h; exact ⟨fun n h => by simp at h, rfl⟩
 | n :: ns, us, h => by
   simp only [unf] at h
   split at h
   · rename_i i hi
     split at h
     · rename_i b hb
       split at h
       · rename_i hg
         split at h
         · rename_i b' hb'
           split at h
           · rename_i us' hu
             obtain rfl := Option.some.inj h
             obtain ⟨h1, h2⟩ := ZkW ns hu
             refine ⟨fun x hx => ?_, ?_⟩
             · rcases List.mem_cons.1 hx with rfl | hx
               · exact ⟨i, b, b', hi, hb, hg, hb', by simp⟩
               · obtain ⟨i2, b2, b3, q1, q2, q3, q4, q5⟩ := h1 x hx
                 exact ⟨i2, b2, b3, q1, q2, q3, q4, by simp [q5]⟩
             · rw [List.map_cons, List.map_cons, h2, hi]
           · exact absurd h (by simp)
         · exact absurd h (by simp)
       · exact absurd h (by simp)
     · exact absurd h (by simp)
   · exact absurd h (by simp)
theorem Z5p {H : AHeap} {B : Nat} : ∀ {n : Nat}, freeL H B n = true → ∀ j, j < n → hget H (B + j) = none
 | 0, _, j, hj => by omega
 | n + 1, h, j, hj => by
   simp only [freeL, Bool.and_eq_true, Option.isNone_iff_eq_none] at h
   by_cases e : j = n
   · rw [e]; exact h.1
   · exact Z5p h.2 j (by omega)
theorem Z9d {H : AHeap} {n : Nat} : ∀ {t B B' : Nat}, baseF H n t B = some B' → freeL H B' n = true
 | 0, _, _, h => by simp [baseF] at h
 | t + 1, B, B', h => by
   simp only [baseF] at h
   split at h
   · rename_i hf
     obtain rfl := Option.some.inj h
     exact hf
   · exact Z9d h
theorem Z01Q (b : Blk) : renB some b = some b := by
 unfold renB
 split
 · rename_i hs
   rw [Z3x]
   obtain ⟨st, cs⟩ := b
   simp only at hs
   subst hs
   rfl
 · rfl
theorem ZQA {C : Callee} (hC : CS P E C) {f : FuncId} {args : List AV} {H : AHeap} {B : Nat} {ks : List Nat} {r : AV} {H' : AHeap} (h : focus C f args H B ks = some (r, H'))
   (g : Gh) (vs : List Value) (hH : g.H = H) (hI : Inv E g) (hs : g.Rs args vs) : Calls P f vs.toArray g.w fun
     | .returned v, w' => ∃ g', g'.w = w' ∧ g'.H = H' ∧ Inv E g' ∧ Adv g g' ∧ g'.R r v
     | _, _ => False := by
 subst hH
 unfold focus at h
 split at h
 case isFalse => exact absurd h (by simp)
 rename_i hap
 split at h
 case h_2 => exact absurd h (by simp)
 rename_i args1 H1 e1 e2
 cases hc : C f args1 H1 64 with
 | none => rw [hc] at h; simp [backF] at h
 | some rH =>
 obtain ⟨r1, H2⟩ := rH
 rw [hc] at h
 simp only [backF] at h
 generalize hnw0 : newsF H2 r1 ks.length = news at h
 generalize hB0 : B = B0 at h
 split at h
 case h_2 => exact absurd h (by simp)
 rename_i B hB
 have hfr := Z9d hB
 split at h
 case isFalse => exact absurd h (by simp)
 rename_i hapn
 split at h
 case h_2 => exact absurd h (by simp)
 rename_i r' us e3 e4
 simp only [Option.some.injEq, Prod.mk.injEq] at h
 obtain ⟨rfl, rfl⟩ := h
 have hnd := Z2I hap
 have hndn := Z2I hapn
 have hnews : ∀ n ∈ news, ks.length ≤ n := by
   intro n hn
   rw [← hnw0] at hn
   exact of_decide_eq_true (List.mem_filter.1 hn).2
 obtain ⟨fs1, fs2⟩ := ZmV ks 0 e2
 generalize hg1 : (⟨fun j => g.mu (ks.getD j 0), g.fz, H1, g.w⟩ : Gh) = g1
 have g1H : g1.H = H1 := by rw [← hg1]
 have g1w : g1.w = g.w := by rw [← hg1]
 have g1f : g1.fz = g.fz := by rw [← hg1]
 have hmu1 : ∀ n i, ks[n]? = some i → g1.mu n = g.mu i := by
   intro n i h
   rw [← hg1]
   simp only [List.getD_eq_getElem?_getD, h, Option.getD_some]
 have hf1 : ∀ k, g.fz k → g1.fz k ∧ g1.w.heap[k]? = g.w.heap[k]? := fun k hk => ⟨by rw [g1f]; exact hk, by rw [g1w]⟩
 have hin : ∀ a a' v, AV.leaf a = true → ren (posF ks 0) a = some a' → v.oneCell' = true → RF g a v → RF g1 a' v := by
   intro a a' v hl e _ hv
   cases a <;> simp only [AV.leaf, Bool.false_eq_true] at hl <;> simp only [ren] at e <;> split at e <;> try (simp at e; done)
   all_goals
     rename_i n hn
     obtain rfl := Option.some.inj e
     have hk := (Z2h _ _ _ _ hn).2
     rw [Nat.sub_zero] at hk
     obtain ⟨b, b1, q1, q2, q3⟩ := fs2 n _ hk
     rw [Nat.zero_add] at q3
     simp only [RF] at hv ⊢
     obtain ⟨b0, p1, p2, p3⟩ := hv
     rw [q1] at p1
     obtain rfl := Option.some.inj p1
     obtain ⟨r1, r2⟩ := Z1l q2
     refine ⟨b1, by rw [g1H]; exact q3, ?_, ?_⟩
   · rw [r2]; exact p2
   · rw [r2, hmu1 _ _ hk, g1w]; exact p3
   · rw [r2]; exact p2
   · rw [r2, hmu1 _ _ hk]; exact p3
   · rw [r1]; exact p2
   · rw [hmu1 _ _ hk]; exact p3
 have hI1 : Inv E g1 := by
   refine ⟨fun n b1 h => ?_, fun n n' b b' h h' hne => ?_, fun n b h ho => ?_, fun n b h ho => ?_, fun k hk => ?_, fun k cells h => ?_⟩
   · rw [g1H] at h
     obtain ⟨_, i, b, q1, q2, q3⟩ := fs1 n b1 h
     rw [Nat.sub_zero] at q1
     exact Z5z (hmu1 n i q1) (by rw [g1w]) hf1 hin q3 (hI.blk i b q2)
   · rw [g1H] at h h'
     obtain ⟨_, i, c, q1, q2, _⟩ := fs1 n b h
     obtain ⟨_, i', c', q1', q2', _⟩ := fs1 n' b' h'
     rw [Nat.sub_zero] at q1 q1'
     rw [hmu1 n i q1, hmu1 n' i' q1']
     refine hI.inj i i' c c' q2 q2' fun e => hne ?_
     subst e
     have a1 := Z1G ks 0 i n hnd q1
     rw [Z1G ks 0 i n' hnd q1'] at a1
     have := Option.some.inj a1; omega
   · rw [g1H] at h
     obtain ⟨_, i, c, q1, q2, q3⟩ := fs1 n b h
     rw [Nat.sub_zero] at q1
     rw [hmu1 n i q1, g1f]
     exact hI.opn i c q2 (by rw [← (Z1l q3).1]; exact ho)
   · rw [g1H] at h
     obtain ⟨_, i, c, q1, q2, q3⟩ := fs1 n b h
     rw [Nat.sub_zero] at q1
     rw [hmu1 n i q1, g1f]
     exact hI.frz i c q2 (by rw [← (Z1l q3).1]; exact ho)
   · rw [g1f] at hk; rw [g1w]; exact hI.lt k hk
   · rw [g1f, g1w]; exact hI.glob k cells h
 have hs1 : g1.Rs args1 vs := Z4X hf1 hin args args1 vs e1 hs
 have hcall := hC f args1 H1 64 r1 H2 hc g1 vs g1H hI1 hs1
 rw [g1w] at hcall
 refine hcall.mono ?_
 intro e w' he
 cases e with
 | panicked => exact he.elim
 | outgrown => exact he.elim
 | returned v =>
 obtain ⟨g2, rfl, hH2, hI2, hA, hR⟩ := he
 generalize hρ : outF ks news B = ρ at e3 e4
 have hinvd : ∃ inv : Nat → Option Nat, (∀ n i, ρ n = some i → inv i = some n ∧ (n < ks.length ∨ n ∈ news)) ∧ (∀ i n, inv i = some n → ρ n = some i) ∧ (∀ n i : Nat, ks[n]? = some i → inv i = some n ∧ ρ n = some i) ∧ ∀ i n : Nat, inv i = some n → held g.H i → ks[n]? = some i := by
   refine ⟨fun i => match posF ks 0 i with
     | some n => some n
     | none => if B ≤ i then news[i - B]? else none, ?_, ?_, ?_, ?_⟩
   · intro n i h
     rw [← hρ] at h
     unfold outF at h
     split at h
     · rename_i hl
       have := Z1G ks 0 i n hnd h
       rw [Nat.zero_add] at this
       simp only [this]
       exact ⟨trivial, .inl hl⟩
     · split at h
       · rename_i j hj
         obtain rfl := Option.some.inj h
         have hjn := (Z2h _ _ _ _ hj).2
         rw [Nat.sub_zero] at hjn
         have hno : posF ks 0 (B + j) = none := by
           cases hp : posF ks 0 (B + j) with
           | none => rfl
           | some m =>
             have := (Z2h _ _ _ _ hp).2
             obtain ⟨b, _, q, _⟩ := fs2 _ _ this
             rw [Z5p hfr j (List.getElem?_eq_some_iff.1 hjn).1] at q
             exact absurd q (by simp)
         simp only [hno]
         rw [show B + j - B = j by omega, if_pos (by omega)]
         exact ⟨hjn, .inr (List.mem_of_getElem? hjn)⟩
       · exact absurd h (by simp)
   · intro i n h
     rw [← hρ]
     unfold outF
     cases hp : posF ks 0 i with
     | some m =>
       simp only [hp, Option.some.injEq] at h
       subst h
       have := (Z2h _ _ _ _ hp).2
       rw [Nat.sub_zero] at this
       rw [if_pos (List.getElem?_eq_some_iff.1 this).1]; exact this
     | none =>
       simp only [hp] at h
       split at h
       · rename_i hb
         have := hnews _ (List.mem_of_getElem? h)
         have hq := Z1G news 0 n (i - B) hndn h
         rw [Nat.zero_add] at hq
         rw [if_neg (by omega), hq]
         show some (B + (i - B)) = some i
         congr 1; omega
       · exact absurd h (by simp)
   · intro n i h
     have := Z1G ks 0 i n hnd h
     rw [Nat.zero_add] at this
     simp only [this, true_and]
     rw [← hρ]
     unfold outF
     rw [if_pos (List.getElem?_eq_some_iff.1 h).1]; exact h
   · intro i n h hh
     cases hp : posF ks 0 i with
     | some m =>
       simp only [hp, Option.some.injEq] at h
       subst h
       have := (Z2h _ _ _ _ hp).2
       rw [Nat.sub_zero] at this
       exact this
     | none =>
       simp only [hp] at h
       split at h
       · rename_i hb
         obtain ⟨b, hb2⟩ := hh
         have := Z5p hfr _ (List.getElem?_eq_some_iff.1 h).1
         rw [show B + (i - B) = i by omega, hb2] at this
         exact absurd this (by simp)
       · exact absurd h (by simp)
 obtain ⟨inv, hi1, hi2, hi3, hi4⟩ := hinvd
 obtain ⟨u1, u2⟩ := ZkW _ e4
 have hmem : ∀ n i, ρ n = some i → n ∈ List.range ks.length ++ news := by
   intro n i h
   rcases (hi1 n i h).2 with h | h
   · exact List.mem_append_left _ (List.mem_range.2 h)
   · exact List.mem_append_right _ h
 have hnsd : (List.range ks.length ++ news).Nodup := by
   rw [List.nodup_append]
   refine ⟨List.nodup_range, hndn, fun a ha b hb e => ?_⟩
   have := List.mem_range.1 ha
   have := hnews b hb
   omega
 have hund : (us.map (·.1)).Nodup := by
   have h1 : ((List.range ks.length ++ news).map ρ).Nodup := by
     unfold List.Nodup
     rw [List.pairwise_map]
     refine hnsd.imp_of_mem fun {a b} ha hb hne e => hne ?_
     obtain ⟨i, _, _, q, _⟩ := u1 a ha
     obtain ⟨j, _, _, q', _⟩ := u1 b hb
     rw [q, q'] at e
     obtain rfl := Option.some.inj e
     have := (hi1 a i q).1
     rw [(hi1 b i q').1] at this
     exact (Option.some.inj this).symm
   rw [← u2] at h1
   unfold List.Nodup at h1 ⊢
   rw [List.pairwise_map] at h1 ⊢
   exact h1.imp fun h e => h (by rw [e])
 have hk1 : ∀ n i, ρ n = some i → ∃ b b', hget H2 n = some b ∧ goodB H1 ks.length n b = true ∧ renB ρ b = some b' ∧ hget (upds g.H us) i = some b' := by
   intro n i h
   obtain ⟨i', b, b', q1, q2, q3, q4, q5⟩ := u1 n (hmem n i h)
   rw [h] at q1
   obtain rfl := Option.some.inj q1
   exact ⟨b, b', q2, q3, q4, Z1Y us g.H hund _ q5⟩
 have hk2 : ∀ i, inv i = none → hget (upds g.H us) i = hget g.H i := by
   intro i h
   refine Zy us g.H i fun hm => ?_
   obtain ⟨p, hp, rfl⟩ := List.mem_map.1 hm
   have : some p.1 ∈ us.map (fun p => some p.1) := List.mem_map.2 ⟨p, hp, rfl⟩
   rw [u2] at this
   obtain ⟨n, _, hn⟩ := List.mem_map.1 this
   rw [(hi1 n _ hn).1] at h
   exact absurd h (by simp)
 generalize hg' : (⟨fun i => match inv i with | some n => g2.mu n | none => g.mu i, g2.fz, upds g.H us, g2.w⟩ : Gh) = g'
 have gH : g'.H = upds g.H us := by rw [← hg']
 have gw : g'.w = g2.w := by rw [← hg']
 have gf : g'.fz = g2.fz := by rw [← hg']
 have gm1 : ∀ i n, inv i = some n → g'.mu i = g2.mu n := by intro i n h; rw [← hg']; simp only [h]
 have gm2 : ∀ i, inv i = none → g'.mu i = g.mu i := by intro i h; rw [← hg']; simp only [h]
 have hout : ∀ a a' v, AV.leaf a = true → ren ρ a = some a' → v.oneCell' = true → RF g2 a v → RF g' a' v := by
   intro a a' v hl e _ hv
   cases a <;> simp only [AV.leaf, Bool.false_eq_true] at hl <;> simp only [ren] at e <;> split at e <;> try (simp at e; done)
   all_goals
     rename_i i hn
     obtain rfl := Option.some.inj e
     obtain ⟨b, b', q1, _, q3, q4⟩ := hk1 _ i hn
     simp only [RF] at hv ⊢
     obtain ⟨b0, p1, p2, p3⟩ := hv
     rw [hH2, q1] at p1
     obtain rfl := Option.some.inj p1
     obtain ⟨r1, r2⟩ := Z1l q3
     have hm := gm1 i _ (hi1 _ i hn).1
     refine ⟨b', by rw [gH]; exact q4, ?_, ?_⟩
   · rw [r2]; exact p2
   · rw [r2, hm, gw]; exact p3
   · rw [r2]; exact p2
   · rw [r2, hm]; exact p3
   · rw [r1]; exact p2
   · rw [hm]; exact p3
 have wr1 : ∀ k, wr g1 k → ∃ (n i : Nat) (b : Blk), ks[n]? = some i ∧ hget g.H i = some b ∧ b.st.open_ = true ∧ (g.mu i).1 = k := by
   rintro k ⟨n, b1, h, ho, e⟩
   rw [g1H] at h
   obtain ⟨_, i, b, q1, q2, q3⟩ := fs1 n b1 h
   rw [Nat.sub_zero] at q1
   exact ⟨n, i, b, q1, q2, by rw [← (Z1l q3).1]; exact ho, by rw [← hmu1 n i q1]; exact e⟩
 have wr1g : ∀ k, wr g1 k → wr g k := fun k h => by
   obtain ⟨_, i, b, _, q2, q3, q4⟩ := wr1 k h
   exact ⟨i, b, q2, q3, q4⟩
 have hold : ∀ k, k < g.w.heap.size → ¬ wr g1 k → g2.w.heap[k]? = g.w.heap[k]? := by
   intro k h1 h2
   have := hA.old k (by rw [g1w]; exact h1) h2
   rw [g1w] at this; exact this
 have hlt : ∀ i b, hget g.H i = some b → (g.mu i).1 < g.w.heap.size := fun i b h => (hI.blk i b h).lt
 have hnw : ∀ i b, hget g.H i = some b → inv i = none → ¬ wr g1 (g.mu i).1 := by
   intro i b h hi hw
   obtain ⟨n, i2, b2, q1, q2, _, q4⟩ := wr1 _ hw
   refine hI.inj i2 i b2 b q2 h (fun e => ?_) q4
   subst e
   rw [(hi3 n i2 q1).1] at hi
   exact absurd hi (by simp)
 have hnwf : ∀ k, g.fz k → ¬ wr g1 k := by
   intro k hk hw
   obtain ⟨i, b, q1, q2, q3⟩ := wr1g k hw
   exact hI.opn i b q1 q2 (by rw [q3]; exact hk)
 have hf2 : ∀ k, g2.fz k → g.fz k ∨ wr g1 k ∨ g.w.heap.size ≤ k := by
   intro k h
   have := hA.fz2 k h
   rw [g1f, g1w] at this; exact this
 have hf : ∀ k, g.fz k → g'.fz k ∧ g'.w.heap[k]? = g.w.heap[k]? := fun k hk =>
   ⟨by rw [gf]; exact hA.fz' k (by rw [g1f]; exact hk), by rw [gw]; exact hold k (hI.lt k hk) (hnwf k hk)⟩
 have hth : ∀ a a' v, AV.leaf a = true → ren some a = some a' → v.oneCell' = true → RF g a v → RF g' a' v := by
   intro a a' v hl e hv1 hv
   rw [ZtD] at e
   obtain rfl := Option.some.inj e
   have key : ∀ i, refsOf a = [i] → held g.H i → (∀ n, inv i = some n → ∃ a1, ren (posF ks 0) a = some a1 ∧ ren ρ a1 = some a) → (∃ n, inv i = some n) → RF g' a v := by
     intro i _ _ h2 ⟨n, hn⟩
     obtain ⟨a1, e1, e2⟩ := h2 n hn
     have hl1 : a1.leaf = true := by
       cases a <;> simp only [AV.leaf, Bool.false_eq_true] at hl <;> simp only [ren] at e1 <;> split at e1 <;> try (simp at e1; done)
       all_goals (obtain rfl := Option.some.inj e1; rfl)
     have h3 := hin a a1 v hl e1 hv1 hv
     have h4 : g1.R a1 v := by
       cases a1 <;> simp only [AV.leaf, Bool.false_eq_true] at hl1 <;> simp only [Gh.R, VR] <;> exact ⟨hv1, h3⟩
     have h5 := hA.vr a1 v h4
     have h6 : RF g2 a1 v := by
       cases a1 <;> simp only [AV.leaf, Bool.false_eq_true] at hl1 <;> simp only [Gh.R, VR] at h5 <;> exact h5.2
     exact hout a1 a v hl1 e2 hv1 h6
   cases a <;> simp only [AV.leaf, Bool.false_eq_true] at hl
   · rename_i i off len cap gl sz ex
     have hv0 := hv
     simp only [RF] at hv
     obtain ⟨b, p1, p2, p3⟩ := hv
     cases hi : inv i with
     | none =>
       simp only [RF]
       refine ⟨b, by rw [gH, hk2 i hi]; exact p1, p2, fun e => ?_⟩
       have eb : bsz g'.w (g.mu i).1 = bsz g.w (g.mu i).1 := by simp only [bsz, gw, hold _ (hlt i b p1) (hnw i b p1 hi)]
       rw [gm2 i hi, eb]
       exact p3 e
     | some n =>
       refine key i (by simp [refsOf]) ⟨b, p1⟩ (fun m hm => ?_) ⟨n, hi⟩
       have hk := hi4 i m hm ⟨b, p1⟩
       have := Z1G ks 0 i m hnd hk
       rw [Nat.zero_add] at this
       exact ⟨.ref m off len cap gl sz ex, by simp only [ren, this], by simp only [ren, hi2 i m hm]⟩
   · rename_i i off gl
     have hv0 := hv
     simp only [RF] at hv
     obtain ⟨b, p1, p2, p3⟩ := hv
     cases hi : inv i with
     | none =>
       simp only [RF]
       refine ⟨b, by rw [gH, hk2 i hi]; exact p1, p2, fun e => ?_⟩
       rw [gm2 i hi]
       exact p3 e
     | some n =>
       refine key i (by simp [refsOf]) ⟨b, p1⟩ (fun m hm => ?_) ⟨n, hi⟩
       have hk := hi4 i m hm ⟨b, p1⟩
       have := Z1G ks 0 i m hnd hk
       rw [Nat.zero_add] at this
       exact ⟨.ptr m off gl, by simp only [ren, this], by simp only [ren, hi2 i m hm]⟩
   · rename_i i
     have hv0 := hv
     simp only [RF] at hv
     obtain ⟨b, p1, p2, p3⟩ := hv
     cases hi : inv i with
     | none =>
       simp only [RF]
       refine ⟨b, by rw [gH, hk2 i hi]; exact p1, p2, ?_⟩
       rw [gm2 i hi]
       exact p3
     | some n =>
       refine key i (by simp [refsOf]) ⟨b, p1⟩ (fun m hm => ?_) ⟨n, hi⟩
       have hk := hi4 i m hm ⟨b, p1⟩
       have := Z1G ks 0 i m hnd hk
       rw [Nat.zero_add] at this
       exact ⟨.mapv m, by simp only [ren, this], by simp only [ren, hi2 i m hm]⟩
 have hcase : ∀ i b, hget g'.H i = some b → (inv i = none ∧ hget g.H i = some b) ∨ ∃ n b2, inv i = some n ∧ hget g2.H n = some b2 ∧ goodB H1 ks.length n b2 = true ∧ renB ρ b2 = some b := by
   intro i b h
   rw [gH] at h
   cases hi : inv i with
   | none => rw [hk2 i hi] at h; exact .inl ⟨rfl, h⟩
   | some n =>
     obtain ⟨b2, b', q1, q2, q3, q4⟩ := hk1 n i (hi2 i n hi)
     rw [q4] at h
     obtain rfl := Option.some.inj h
     exact .inr ⟨n, b2, rfl, by rw [hH2]; exact q1, q2, q3⟩
 have hsep : ∀ i n b b2, inv i = none → hget g.H i = some b → hget g2.H n = some b2 → goodB H1 ks.length n b2 = true → (g2.mu n).1 ≠ (g.mu i).1 := by
   intro i n b b2 hi hb hb2 hgood e
   have hl := hlt i b hb
   cases ho : b2.st.open_ with
   | true =>
     rcases hA.wr' _ ⟨n, b2, hb2, ho, rfl⟩ with hw | hw
     · rw [e] at hw; exact hnw i b hb hi hw
     · rw [g1w] at hw; omega
   | false =>
     unfold goodB at hgood
     rw [ho, Bool.false_or, Bool.and_eq_true, decide_eq_true_eq] at hgood
     obtain ⟨hn, hgood⟩ := hgood
     split at hgood
     · rename_i b0 hb0
       have hlen := of_decide_eq_true hgood
       obtain ⟨_, i2, c, q1, q2, q3⟩ := fs1 n b0 hb0
       rw [Nat.sub_zero] at q1
       have hvr := hA.vr (.ptr n 0 b0.cells.length) (.pointer (some ⟨(g1.mu n).1, (g1.mu n).2 + 0, none⟩)) (ZcN (by rw [g1H]; exact hb0) rfl)
       simp only [Gh.R, VR, RF] at hvr
       obtain ⟨_, b3, k1, _, k3⟩ := hvr
       rw [hb2] at k1
       obtain rfl := Option.some.inj k1
       have := k3 hlen
       simp only [Value.pointer.injEq, Option.some.injEq, Addr.mk.injEq] at this
       rw [← this.1, hmu1 n i2 q1] at e
       refine hI.inj i2 i c b q2 hb (fun e2 => ?_) e
       subst e2
       rw [(hi3 n i2 q1).1] at hi
       exact absurd hi (by simp)
     · exact absurd hgood (by simp)
 refine ⟨g', gw, gH, ⟨fun i b h => ?_, fun i j b b' h h' hne => ?_, fun i b h ho => ?_, fun i b h ho => ?_, fun k hk => ?_, fun k cells h => ?_⟩,
   ⟨fun a v h => Z5M hf hth a a v (ZtD a) h, ?_, ?_, ?_, ?_, ?_, ?_, ?_, ?_⟩, ?_⟩
 · rcases hcase i b h with ⟨hi, hb⟩ | ⟨n, b2, hi, hb2, _, hr⟩
   · exact Z5z (gm2 i hi) (by rw [gw]; exact hold _ (hlt i b hb) (hnw i b hb hi)) hf hth (Z01Q b) (hI.blk i b hb)
   · exact Z5z (gm1 i n hi) (by rw [gw]) (fun k hk => ⟨by rw [gf]; exact hk, by rw [gw]⟩) hout hr (hI2.blk n b2 hb2)
 · rcases hcase i b h with ⟨hi, hb⟩ | ⟨n, b2, hi, hb2, hgd, hr⟩ <;> rcases hcase j b' h' with ⟨hj, hb'⟩ | ⟨m, c2, hj, hc2, hgd', hr'⟩
   · rw [gm2 i hi, gm2 j hj]; exact hI.inj i j b b' hb hb' hne
   · rw [gm2 i hi, gm1 j m hj]; exact fun e => hsep i m b c2 hi hb hc2 hgd' e.symm
   · rw [gm1 i n hi, gm2 j hj]; exact hsep j n b' b2 hj hb' hb2 hgd
   · rw [gm1 i n hi, gm1 j m hj]
     refine hI2.inj n m b2 c2 hb2 hc2 fun e => hne ?_
     subst e
     have := hi2 i n hi
     rw [hi2 j n hj] at this
     exact (Option.some.inj this).symm
 · rw [gf]
   rcases hcase i b h with ⟨hi, hb⟩ | ⟨n, b2, hi, hb2, hgd, hr⟩
   · rw [gm2 i hi]
     intro hz
     rcases hf2 _ hz with q | q | q
     · exact hI.opn i b hb ho q
     · exact hnw i b hb hi q
     · have := hlt i b hb; omega
   · rw [gm1 i n hi]; exact hI2.opn n b2 hb2 (by rw [← (Z1l hr).1]; exact ho)
 · rw [gf]
   rcases hcase i b h with ⟨hi, hb⟩ | ⟨n, b2, hi, hb2, hgd, hr⟩
   · rw [gm2 i hi]; exact hA.fz' _ (by rw [g1f]; exact hI.frz i b hb ho)
   · rw [gm1 i n hi]; exact hI2.frz n b2 hb2 (by rw [← (Z1l hr).1]; exact ho)
 · rw [gf] at hk; rw [gw]; exact hI2.lt k hk
 · rw [gf, gw]; exact hI2.glob k cells h
 · rw [gw, hA.os, g1w]
 · rw [gw, hA.tape, g1w]
 · rw [gw, hA.out, g1w]
 · have := hA.size; rw [g1w] at this; rw [gw]; exact this
 · intro k hk hw; rw [gw]; exact hold k hk fun h => hw (wr1g k h)
 · rintro k ⟨i, b, h, ho, e⟩
   rcases hcase i b h with ⟨hi, hb⟩ | ⟨n, b2, hi, hb2, hgd, hr⟩
   · rw [gm2 i hi] at e; exact .inl ⟨i, b, hb, ho, e⟩
   · rw [gm1 i n hi] at e
     rcases hA.wr' k ⟨n, b2, hb2, by rw [← (Z1l hr).1]; exact ho, e⟩ with q | q
     · exact .inl (wr1g k q)
     · rw [g1w] at q; exact .inr q
 · intro k hk; exact (hf k hk).1
 · intro k hk
   rw [gf] at hk
   rcases hf2 k hk with q | q | q
   · exact .inl q
   · exact .inr (.inl (wr1g k q))
   · exact .inr (.inr q)
 · exact Z5M (fun k hk => ⟨by rw [gf]; exact hk, by rw [gw]⟩) hout r1 r' v e3 hR
theorem ZGT {fr : FuncId → Bool} {C : Callee} (hC : CS P E C) : CS P E (frC fr C) := by
 intro f args H B r H' h g vs hH hI hs
 unfold frC at h
 split at h
 · exact ZQA hC h g vs hH hI hs
 · exact hC f args H B r H' h g vs hH hI hs
theorem Z8k (hE : EnvOK P E) (hm : P.follows .mixedOrders = true) (fr : FuncId → Bool) (fg : FuncId → Nat → List Nat) (N : Nat) : ∀ d, CS P E (callF E fr fg N d)
 | 0 => fun f args H B r H' h => by simp [callF] at h
 | d + 1 => ZBo hE hm fg N (ZGT (Z8k hE hm fr fg N d))
end
end Go.AM
end
noncomputable section
namespace Go.AM
noncomputable section
variable {α : Type} {f : α → List AV} {sz : Nat}
end
def ics (l : List Int) : List AV := l.map (AV.int .i64)
theorem Z6 (l : List Int) : (ics l).length = l.length := by simp [ics]
theorem Z1T {l : List Int} {k : Nat} {z : Int} (h : l[k]? = some z) : (ics l)[k]? = some (.int .i64 z) := by simp [ics, h]
theorem Z8K (l : List Int) (z : Int) : ics l ++ [.int .i64 z] = ics (l ++ [z]) := by simp [ics]
theorem Z3I (l : List Int) (n : Nat) : (ics l).take n = ics (l.take n) := by simp [ics]
theorem Z15 (l : List Int) (k : Nat) (z : Int) : (ics l).set k (.int .i64 z) = ics (l.set k z) := by simp [ics]
theorem Z01C (l : List Int) : ∀ a ∈ ics l, ∃ k z, a = AV.int k z := by simp [ics]
theorem ZNo (l : List Int) : (ics l).all AV.flat = true := by simp [ics, AV.flat]
def oV (k sz n : Nat) : AV := match n with
 | 0 => .nilsl
 | n + 1 => .ref k 0 (n + 1) (n + 1) ((n + 1) * sz) sz false
def oH (k : Nat) (cells : List AV) : AHeap := match cells with
 | [] => []
 | c :: cs => [(k, ⟨.row, c :: cs⟩)]
theorem Z2m {C : Callee} {site : Nat → Nat} {seen : List Nat} {f : FuncId} {args : List AV} {id m c sz gl : Nat} {cells : List AV} {H' : AHeap} (h : C f args [] 0 = some (.ref id 0 m c gl sz false, H')) (hg : hget H' id = some ⟨.row, cells⟩) (hl : cells.length = gl) :
   aBack site true seen (thaw C f args [] 0) = Z0m (site 0) seen (fun k => .ref k 0 m c gl sz false) ⟨.row, cells⟩ := by
 subst hl
 simp only [thaw, h, frzRet, aBack, sitesB, aBackAt, imp, hg, List.length_nil, List.not_mem_nil, not_false_eq_true, and_true, if_true, List.map_cons, List.map_nil, AM.apart, List.elem_nil, Bool.not_false, Bool.and_true, AV.leads, Z0m]
theorem ZWx (k : Nat) {c : List AV} (h : 0 < c.length) : oH k c = [(k, ⟨.row, c⟩)] := by
 cases c with
 | nil => simp at h
 | cons a c => rfl
end Go.AM
end
end
