/- A part of the proof of rubTurned_holds: RqH. Own work of this project; texts printed by own programs among it. -/
import Derived.Carry
import Derived.KernelRfl
import Derived.Test.YtfmnoohhhokicaaXvG
set_option maxRecDepth 1000000
set_option maxHeartbeats 16000000
noncomputable section
noncomputable section
namespace Go.AM
open Go Go.RowKit Go.ChangeShapes
noncomputable section
variable {H : Type} {enc : TypeId × Value → H} {P : Program} {w : World} {base : Nat} {spare : Nat → Bool} {held : Bool}
theorem ZzE {t : TypeId} {v : Value} {d : DataW H} {ps : List MemPlace} (h : DataW.Trod enc P w base spare held t v d ps) : ∀ x ∈ ps, x.block < w.heap.size := by
 obtain ⟨n, h⟩ := h
 exact DataW.trod_lt n t _ _ h
theorem _root_.Go.RowKit.Below.trod' {t : TypeId} (hl : laidOutB P = true) (hr : P.readableRec t = true) (hrow : t < P.types.size) {W W' : World} {v : Value} {d : DataW H} {ps : List MemPlace} (hb : Below W.heap.size W W')
   (h : DataW.Trod enc P W 0 (fun _ => true) true t v d ps) : DataW.Trod enc P W' 0 (fun b => decide (b < W.heap.size)) true t v d ps :=
 Below.trod hl hr hrow h hb (ZzE h)
theorem Zrc {t : TypeId} {v : Value} {b : Nat} {r : Reach} (ht : P.underlying t = some (.int .u8)) (hv : Cell.okWide P w r b t v) : ∃ z, v = .int .u8 z ∧ 0 ≤ z ∧ z ≤ 255 := by
 simp only [Cell.okWide, ht] at hv
 unfold Cell.ok at hv
 rw [ht] at hv
 cases v <;> simp only at hv <;> try exact hv.elim
 rename_i k z
 obtain ⟨rfl, h1, h2⟩ := hv
 exact ⟨z, rfl, h1, h2⟩
theorem ZTq {t : TypeId} {v : Value} {b : Nat} {r : Reach} (ht : P.underlying t = some (.int .u8)) (hv : Value.okWide P w r b t v) : ∃ z, v = .int .u8 z ∧ 0 ≤ z ∧ z ≤ 255 := by
 unfold Value.okWide at hv
 rw [ht] at hv
 exact Zrc ht hv
theorem Z05n {t u : TypeId} {n : Nat} {b : Nat} {r : Reach} (hu : P.underlying u = some (.int .u8)) (hc : P.cellTypes P.depth t = some (List.replicate n u)) (hn : P.cellsOf t = n) (_ : 0 < n) {cs : Array Value} (hs : cs.size = P.cellsOf t) (hr : Row.okWide P w r b t cs) :
   ∃ zs : List Int, cs.toList = zs.map (Value.int .u8) ∧ zs.length = n ∧ ∀ (i : Nat) (z : Int), zs[i]? = some z → 0 ≤ z ∧ z ≤ 255 := by
 obtain ⟨ts, h1, _, h3⟩ := hr
 rw [hc] at h1
 obtain rfl := Option.some.inj h1
 have key : ∀ i, i < n → ∃ z, cs[i]? = some (.int .u8 z) ∧ 0 ≤ z ∧ z ≤ 255 := by
   intro i hi
   have hv : cs[i]? = some cs[i] := Array.getElem?_eq_getElem (by omega)
   obtain ⟨u', hu', hcell⟩ := h3 i _ hv
   rw [List.length_replicate, Nat.mod_eq_of_lt hi, List.getElem?_replicate, if_pos hi] at hu'
   obtain rfl := Option.some.inj hu'
   obtain ⟨z, hz, hb⟩ := Zrc hu hcell
   exact ⟨z, by rw [hv, hz], hb⟩
 refine ⟨(List.range n).map fun i => match (cs[i]? : Option Value) with | some (Value.int _ z) => z | _ => 0, ?_, by simp, ?_⟩
 · apply List.ext_getElem?
   intro i
   by_cases hi : i < n
   · obtain ⟨z, hz, _⟩ := key i hi
     simp [hi, hz]
   · rw [List.getElem?_eq_none (by simp; omega)]
     simp [hi]
 · intro i z hz
   have hi : i < n := by have := (List.getElem?_eq_some_iff.1 hz).1; simpa using this
   obtain ⟨y, hy, hb⟩ := key i hi
   simp [hi, hy] at hz
   omega
theorem Z09Q {fz : Nat → Prop} {rf : RFt} (zs : List Int) {cs : Array Value} (h : cs.toList = zs.map (Value.int .u8)) : VR fz w (.agg (zs.map (AV.int .u8))) rf (.agg cs) := by
 simp only [VR]
 refine ⟨cs, rfl, ?_⟩
 rw [Zw, h]
 refine ⟨by simp, fun i a v h1 h2 => ?_⟩
 rw [List.getElem?_map] at h1 h2
 cases hz : zs[i]? with
 | none => rw [hz] at h1; simp at h1
 | some z =>
   rw [hz] at h1 h2
   simp only [Option.map_some, Option.some.injEq] at h1 h2
   subst h1; subst h2
   exact ⟨rfl, by simp only [VR]⟩
theorem ZqK {t u : TypeId} {n : Nat} {v : Value} {b : Nat} {r : Reach} {fs : Array Field} (ht : P.underlying t = some (.struct fs)) (hu : P.underlying u = some (.int .u8)) (hc : P.cellTypes P.depth t = some (List.replicate n u)) (hn : P.cellsOf t = n) (h0 : 0 < n) (hv : Value.okWide P w r b t v) :
   ∃ (zs : List Int) (cs : Array Value), v = .agg cs ∧ cs.toList = zs.map (Value.int .u8) ∧ zs.length = n ∧ ∀ (i : Nat) (z : Int), zs[i]? = some z → 0 ≤ z ∧ z ≤ 255 := by
 unfold Value.okWide at hv
 rw [ht] at hv
 obtain ⟨cs, h1, h2, h3⟩ := hv
 obtain ⟨zs, a, b, c⟩ := Z05n hu hc hn h0 h2 h3
 exact ⟨zs, cs, h1, a, b, c⟩
end
end Go.AM
end
noncomputable section
namespace Go.AM
theorem nrfl {α : Type} {a b : α} (h : a = b) : a = b := h
theorem nf {α : Type} {a : α} : a = a := nrfl rfl
def kL : Code → Code
 | .seq a _ => a
 | c => c
def kR : Code → Code
 | .seq _ b => b
 | c => c
def kT : Code → Code
 | .cond _ t _ => t
 | c => c
def kE : Code → Code
 | .cond _ _ e => e
 | c => c
def kB : Code → Code
 | .block _ b => b
 | .loop b => b
 | .scope b => b
 | c => c
def kO : Code → Array Oper
 | .region _ ops _ => ops
 | _ => #[]
def kBody (f : Func) : Code := f.body.getD .skip
def opN (ops : Array Oper) (i : Nat) : Oper := ops.toList.getD i ⟨none, .move (.tmp 0), 0, "", #[], none⟩
abbrev XR := Option (Ex × St)
def seqX (r : XR) (k : St → XR) : XR :=
 match r with
 | some (.normal, s) => k s
 | r => r
def bindR (r : Option St) (k : St → Option St) : Option St :=
 match r with
 | some s => k s
 | none => none
def regX (r : Option St) (k : St → St) : XR :=
 match r with
 | some s => some (.normal, k s)
 | none => none
def condX (v : AV) (t e : XR) : XR :=
 match v with
 | .bool true => t
 | .bool false => e
 | _ => none
def blockX (id : Nat) (k : St → St) (r : XR) : XR :=
 match r with
 | some (.exit i, s) => match Nat.beq i id with
   | true => some (.normal, k s)
   | false => some (.exit i, s)
 | some (.normal, s) => some (.normal, k s)
 | r => r
def fset : AFr → Nat → AV → AFr
 | [], _, _ => []
 | (k, a) :: t, i, b => if k = i then (k, b) :: t else (k, a) :: fset t i b
def gd (φ : AFr) (k : Nat) (want : Bool) (no yes : AFr → Option St) : Option St :=
 match fget φ k with
 | .bool b => if b = want then yes (fset φ k (.bool want)) else no (fset φ k (.bool !want))
 | .tup _ => no φ
 | _ => none
def putD (d : Option Nat) (φ : AFr) (v : AV) : AFr :=
 match d with
 | some d => fput φ d v
 | none => φ
def stp (d : Option Nat) (φ : AFr) (H : AHeap) (r : Rd (AV × Ups)) : Option St :=
 match r.run H with
 | some (v, us) => some (putD d φ v, upds H us)
 | none => none
def mutX (d : Option Nat) (φ : AFr) (r : Option (AV × AHeap)) : Option St :=
 match r with
 | some (v, H) => some (putD d φ v, H)
 | none => none
def callV (E : Env) (C : Callee) (Bn : Nat) (d : Option Nat) (site : Nat → Nat) (φ : AFr) (H : AHeap) (f : AV) (args : List AV) (keep : Bool) : Option St :=
 match mutV E f args with
 | some (g, asx) => mutX d φ (C g asx H Bn)
 | none => stp d φ H (opCallV E C site keep f args)
def bodyX (E : Env) (rs : List ResultVar) (r : XR) : Option (AV × AHeap) :=
 match r with
 | some (.normal, s) => match resA E s rs with
   | some v => some (v, s.2)
   | none => none
 | some (.ret, s) => match resA E s rs with
   | some v => some (v, s.2)
   | none => none
 | _ => none
noncomputable section
variable {E : Env} {C : Callee} {fg : Nat → List Nat} {B n N : Nat} {E0 : AHeap}
theorem Z0 {c a b : Code} (h : c = .seq a b) (s : St) : execA E C fg B n E0 N c s = seqX (execA E C fg B n E0 N a s) (execA E C fg B n E0 N b) := by
 subst h; simp only [execA, seqX]; rfl
theorem Zb {c : Code} (h : c = .skip) (s : St) : execA E C fg B n E0 N c s = some (.normal, s) := by subst h; simp only [execA]
theorem Zk {c : Code} (h : c = .ret) (s : St) : execA E C fg B n E0 N c s = some (.ret, s) := by subst h; simp only [execA]
theorem ZP {c : Code} {id} (h : c = .exit id) (s : St) : execA E C fg B n E0 N c s = some (.exit id, s) := by subst h; simp only [execA]
theorem Z1 {c : Code} {id ops} {l : List Nat} (h : c = .region id ops false) (hl : fg id = l) (s : St) : execA E C fg B n E0 N c s = regX (runA E C B n ops ops.toList s) (fun s => gcM E0 l (forget s.1 l, s.2)) := by
 subst h; subst hl; simp only [execA, regA, regX]
 split <;> rename_i h <;> simp only [h]
theorem Z2E {c : Code} {id ops} {l : List Nat} (h : c = .region id ops true) (hl : fg id = l) (s : St) : execA E C fg B n E0 N c s = regX (drawA E C B n ops s) (fun s => gcM E0 l (forget s.1 l, s.2)) := by
 subst h; subst hl; simp only [execA, regA, regX]
 split <;> rename_i h <;> simp only [h]
theorem Z8 {c : Code} {x t e} (h : c = .cond x t e) (s : St) : execA E C fg B n E0 N c s = condX (evO E s.1 x) (execA E C fg B n E0 N t s) (execA E C fg B n E0 N e s) := by
 subst h; simp only [execA, condX]; rfl
theorem Za {c : Code} {id b} {l : List Nat} (h : c = .block id b) (hl : fg (id + 1000000) = l) (s : St) : execA E C fg B n E0 N c s = blockX id (fun s => (forget s.1 l, s.2)) (execA E C fg B n E0 N b s) := by
 subst h; subst hl; simp only [execA, blockX]; rfl
theorem ZY {c : Code} {b} (h : c = .loop b) (s : St) : execA E C fg B n E0 N c s = iterA (execA E C fg B n E0 N b) (headA E0) N s := by
 subst h; simp only [execA]
theorem Z8d : ∀ (φ : AFr) (i : Nat), fset φ i (fget φ i) = φ
 | [], _ => rfl
 | (k, a) :: t, i => by
   simp only [fset, ZpE]
   cases h : Nat.beq k i
   · rw [if_neg (Nat.ne_of_beq_eq_false h)]
     simp only [cond_false]
     rw [Z8d t i]
   · rw [if_pos (Nat.eq_of_beq_eq_true h)]; rfl
theorem s_gd {ops : Array Oper} {o oj : Oper} {j dj : Nat} {want : Bool} {φ : AFr} {H : AHeap} {no yes : AFr → Option St} (hg : o.guard = some (j, want)) (hj : ops[j]? = some oj) (hd : oj.dst = some dj) (hn : ∀ φ, fin n o φ (.tup []) H = no φ) (hy : ∀ φ, goA E C B n o (φ, H) = yes φ) :
   stepA E C B n ops o (φ, H) = gd φ dj want no yes := by
 simp only [stepA, hg, wantA, hj, hd, gd]
 have hs := Z8d φ dj
 cases h : fget φ dj <;> simp only [hn, hy]
 rename_i b
 rw [h] at hs
 cases b <;> cases want <;> simp [hs]
theorem ZO0 (ops : Array Oper) (s : St) : runA E C B n ops [] s = some s := rfl
theorem ZKC (ops : Array Oper) (o : Oper) (os : List Oper) (s : St) : runA E C B n ops (o :: os) s = bindR (stepA E C B n ops o s) (runA E C B n ops os) := by
 simp only [runA, bindR]; rfl
theorem Zo {fgf : FuncId → Nat → List Nat} {f : FuncId} {nt : Nat} {rs : Array ResultVar} {c : Code} (h : fInfo E f = some ⟨nt, rs, c⟩) (args : List AV) (H : AHeap) :
   bodyA E C fgf N f args H B = bodyX E rs.toList (execA E C (fgf f) B nt H N c (Z5 args 0 [], H)) := by
 simp only [bodyA, h, bodyX]; rfl
@[simp] theorem Z4a (s : St) (k) : seqX (some (.normal, s)) k = k s := rfl
@[simp] theorem ZK7 (s : St) (k) : seqX (some (.ret, s)) k = some (.ret, s) := rfl
@[simp] theorem ZCw (i) (s : St) (k) : seqX (some (.exit i, s)) k = some (.exit i, s) := rfl
@[simp] theorem ZCI (k) : seqX none k = none := rfl
@[simp] theorem ZM9 (p : Prop) [Decidable p] (a b : XR) (k) : seqX (if p then a else b) k = if p then seqX a k else seqX b k := by split <;> rfl
@[simp] theorem Zzc (k) : bindR none k = none := rfl
@[simp] theorem ZEr (p : Prop) [Decidable p] (a b) (k) : bindR (if p then a else b) k = if p then bindR a k else bindR b k := by split <;> rfl
@[simp] theorem ZDk (k) : regX none k = none := rfl
@[simp] theorem ZLW (p : Prop) [Decidable p] (a b) (k) : regX (if p then a else b) k = if p then regX a k else regX b k := by split <;> rfl
@[simp] theorem Zz7 (b : Bool) (t e : XR) : condX (.bool b) t e = if b = true then t else e := by cases b <;> rfl
@[simp] theorem ZqP (id : Nat) (k) (i : Nat) (s : St) : blockX id k (some (.exit i, s)) = if i = id then some (.normal, k s) else some (.exit i, s) := by
 simp only [blockX]
 split <;> rename_i h
 · rw [if_pos (Nat.eq_of_beq_eq_true h)]
 · rw [if_neg (Nat.ne_of_beq_eq_false h)]
@[simp] theorem Zh8 (id : Nat) (k) (s : St) : blockX id k (some (.normal, s)) = some (.normal, k s) := rfl
@[simp] theorem Zz8 (id : Nat) (k) (s : St) : blockX id k (some (.ret, s)) = some (.ret, s) := rfl
@[simp] theorem ZqO (id : Nat) (k) : blockX id k none = none := rfl
@[simp] theorem Zzh (id : Nat) (k) (p : Prop) [Decidable p] (a b) : blockX id k (if p then a else b) = if p then blockX id k a else blockX id k b := by split <;> rfl
theorem ZHs (i : Nat) (b : AV) : fset [] i b = [] := rfl
theorem ZBg (k : Nat) (a : AV) (t : AFr) (i : Nat) (b : AV) : fset ((k, a) :: t) i b = if k = i then (k, b) :: t else (k, a) :: fset t i b := rfl
@[simp] theorem ZFp (rs) (p : Prop) [Decidable p] (a b) : bodyX E rs (if p then a else b) = if p then bodyX E rs a else bodyX E rs b := by split <;> rfl
theorem ZAd (rs) (s : St) : bodyX E rs (some (.ret, s)) = (resA E s rs).map fun v => (v, s.2) := by
 simp only [bodyX]; cases resA E s rs <;> rfl
theorem ZlQ (rs) (s : St) : bodyX E rs (some (.normal, s)) = (resA E s rs).map fun v => (v, s.2) := by
 simp only [bodyX]; cases resA E s rs <;> rfl
theorem ZBX (d : Nat) (φ : AFr) (v : AV) : putD (some d) φ v = fput φ d v := rfl
theorem ZBF (φ : AFr) (v : AV) : putD none φ v = φ := rfl
theorem Z01 (f : St → XR) (hd : St → St) (k : Nat) (s : St) : iterA f hd (k + 1) s = seqX (f (hd s)) (iterA f hd k) := by
 simp only [iterA, seqX]; rfl
theorem Z3o {f : St → XR} {hd : St → St} (st : Nat → St) : ∀ (n F k : Nat) (s0 : St), hd s0 = st k → n < F →
   (∀ i, k ≤ i → i < k + n → ∃ s', f (st i) = some (.normal, s') ∧ hd s' = st (i + 1)) → ∀ {e : Ex} {se : St}, f (st (k + n)) = some (e, se) → e ≠ .normal → iterA f hd F s0 = some (e, se)
 | 0, F + 1, k, s0, h0, _, _, e, se, he, hn => by
   rw [Z01, h0]
   rw [Nat.add_zero] at he
   rw [he]
   cases e with
   | normal => exact absurd rfl hn
   | ret => rfl
   | exit i => rfl
 | n + 1, F + 1, k, s0, h0, hF, h, e, se, he, hn => by
   obtain ⟨s', h1, h2⟩ := h k (Nat.le_refl _) (by omega)
   rw [Z01, h0, h1, Z4a]
   refine Z3o st n F (k + 1) s' h2 (by omega) (fun i h3 h4 => h i (by omega) (by omega)) (e := e) (se := se) ?_ hn
   rw [show k + 1 + n = k + (n + 1) by omega]
   exact he
 | _, 0, _, _, _, hF, _, _, _, _, _ => absurd hF (by omega)
theorem Z3r {f : AV} {args : List AV} (h : mutV E f args = none) (Bn : Nat) (d : Option Nat) (site) (φ H) (keep) : callV E C Bn d site φ H f args keep = stp d φ H (opCallV E C site keep f args) := by
 simp only [callV, h]
theorem Z13 {site : Nat → Nat} {seen : List Nat} {f : FuncId} {args : List AV} {r : AV} {H' : AHeap} (h : C f args [] 0 = some (r, H')) (ht : frzRet H' r = some (r, H')) (hi : ∀ site, imp H' site 200 r [] [] = some (r, [], [])) (hl : r.leads = false) :
   aBack site true seen (thaw C f args [] 0) = .pure (r, []) := by
 simp only [thaw, h, ht, aBack, sitesB, freeOff, allFree, aBackAt, hi, List.map_nil, AM.apart, if_true, freeAll, Rd.bind, hl]
theorem Z1P {site : Nat → Nat} {seen : List Nat} {f : FuncId} {args : List AV} {k : IntKind} {z : Int} (h : ∃ H', C f args [] 0 = some (.int k z, H')) : aBack site true seen (thaw C f args [] 0) = .pure (.int k z, []) := by
 obtain ⟨H', h⟩ := h; exact Z13 h rfl (fun _ => rfl) rfl
theorem Z1m {site : Nat → Nat} {seen : List Nat} {f : FuncId} {args : List AV} {b : Bool} (h : ∃ H', C f args [] 0 = some (.bool b, H')) : aBack site true seen (thaw C f args [] 0) = .pure (.bool b, []) := by
 obtain ⟨H', h⟩ := h; exact Z13 h rfl (fun _ => rfl) rfl
theorem Zh7 {site : Nat → Nat} {seen : List Nat} {f : FuncId} {args : List AV} {k' : IntKind} {z : Bool} {z' : Int} (h : ∃ H', C f args [] 0 = some (.tup [.bool z, .int k' z'], H')) : aBack site true seen (thaw C f args [] 0) = .pure (.tup [.bool z, .int k' z'], []) := by
 obtain ⟨H', h⟩ := h; exact Z13 h rfl (fun _ => rfl) rfl
theorem ZBh {k : IntKind} {z : Int} (h1 : kLo k ≤ z) (h2 : z ≤ kHi k) : wrp k z = z := by
 simp only [wrp, if_pos (And.intro h1 h2)]
theorem Z0d {z : Int} (h : -9223372036854775808 ≤ z ∧ z ≤ 9223372036854775807) : wrp .i64 z = z := ZBh h.1 h.2
theorem Zn {k : Nat} (h : k < 1000000) : wrp .i64 ((k : Int) + 1) = ((k + 1 : Nat) : Int) := by
 rw [Z0d (by omega)]; rfl
abbrev rsOf (r : Option (AV × AHeap)) : Option AV := r.map (·.1)
theorem Z055 (p : Prop) [Decidable p] (a b : Option (AV × AHeap)) : rsOf (if p then a else b) = if p then rsOf a else rsOf b := by split <;> rfl
theorem ZVq (v : AV) (H : AHeap) : rsOf (some (v, H)) = some v := rfl
theorem Z0ba (p : Prop) [Decidable p] (k : IntKind) (a b : Int) : (if p then some (AV.int k a) else some (AV.int k b)) = some (AV.int k (if p then a else b)) := by split <;> rfl
theorem Z03Y (p : Prop) [Decidable p] (a b : Bool) : (if p then some (AV.bool a) else some (AV.bool b)) = some (AV.bool (if p then a else b)) := by split <;> rfl
theorem Z00L (p : Prop) [Decidable p] (k l : IntKind) (a b c d : Int) : (if p then some (AV.tup [AV.int k a, AV.int l c]) else some (AV.tup [AV.int k b, AV.int l d])) = some (AV.tup [AV.int k (if p then a else b), AV.int l (if p then c else d)]) := by split <;> rfl
theorem ZDr (p : Prop) [Decidable p] (l : IntKind) (a b : Bool) (c d : Int) : (if p then some (AV.tup [AV.bool a, AV.int l c]) else some (AV.tup [AV.bool b, AV.int l d])) = some (AV.tup [AV.bool (if p then a else b), AV.int l (if p then c else d)]) := by split <;> rfl
theorem ZNF {r : Option (AV × AHeap)} {v : AV} (h : rsOf r = some v) : ∃ H', r = some (v, H') := by
 cases r with
 | none => exact absurd h (by simp)
 | some x => obtain ⟨a, H⟩ := x; simp at h; exact ⟨H, by rw [h]⟩
theorem Z0ac (E0 : AHeap) (s : St) : gcM E0 [] s = s := rfl
theorem Z0aR (E0 : AHeap) (a : Nat) (l : List Nat) (s : St) : gcM E0 (a :: l) s = if a = 999999 then headA E0 s else s := by
 by_cases h : a = 999999
 · subst h; rfl
 · rw [if_neg h]; unfold gcM; split
   · rename_i e; exact absurd (List.cons.inj e).1 h
   · rfl
theorem ZIQ (i : Nat) : fget [] i = .any := rfl
theorem ZyD (k : Nat) (a : AV) (t : AFr) (i : Nat) : fget ((k, a) :: t) i = if k = i then a else fget t i := by
 simp only [ZpE]
 cases h : Nat.beq k i
 · rw [if_neg (Nat.ne_of_beq_eq_false h)]; rfl
 · rw [if_pos (Nat.eq_of_beq_eq_true h)]; rfl
theorem ZLk (i : Nat) (b : AV) : fput [] i b = [(i, b)] := rfl
theorem ZA3 (k : Nat) (c : AV) (t : AFr) (i : Nat) (b : AV) : fput ((k, c) :: t) i b = if k = i then (i, b) :: t else if i ≤ k then (k, c) :: fput t i b else (i, b) :: (k, c) :: t := by
 simp only [Z0B]
 cases h : Nat.beq k i
 · rw [if_neg (Nat.ne_of_beq_eq_false h)]
   simp only [cond_false]
   cases h2 : Nat.ble i k
   · rw [if_neg (by intro h3; rw [Nat.ble_eq_true_of_le h3] at h2; exact absurd h2 (by simp))]; rfl
   · rw [if_pos (Nat.le_of_ble_eq_true h2)]; rfl
 · rw [if_pos (Nat.eq_of_beq_eq_true h)]; rfl
theorem ZyA (l : List Nat) : forget [] l = [] := rfl
theorem ZpL (k : Nat) (a : AV) (t : AFr) (l : List Nat) : forget ((k, a) :: t) l = if l.elem k = true then forget t l else (k, a) :: forget t l := by
 simp only [Z8a]; cases l.elem k <;> rfl
theorem ZG4 (i : Nat) : hget [] i = none := rfl
theorem Z23 (k : Nat) (b : Blk) (t : AHeap) (i : Nat) : hget ((k, b) :: t) i = if k = i then some b else hget t i := by
 simp only [Z4j]
 cases h : Nat.beq k i
 · rw [if_neg (Nat.ne_of_beq_eq_false h)]; rfl
 · rw [if_pos (Nat.eq_of_beq_eq_true h)]; rfl
theorem Z5i (i : Nat) (b : Blk) : hset [] i b = [(i, b)] := rfl
theorem Z50 (k : Nat) (c : Blk) (t : AHeap) (i : Nat) (b : Blk) : hset ((k, c) :: t) i b = if k = i then (i, b) :: t else if k ≤ i then (k, c) :: hset t i b else (i, b) :: (k, c) :: t := by
 simp only [ZqF]
 cases h : Nat.beq k i
 · rw [if_neg (Nat.ne_of_beq_eq_false h)]
   simp only [cond_false]
   cases h2 : Nat.ble k i
   · rw [if_neg (by intro h3; rw [Nat.ble_eq_true_of_le h3] at h2; exact absurd h2 (by simp))]; rfl
   · rw [if_pos (Nat.le_of_ble_eq_true h2)]; rfl
 · rw [if_pos (Nat.eq_of_beq_eq_true h)]; rfl
theorem ZyZ (i gl : Nat) : Rd.liveBlk i gl = .get i fun
   | some b => if gl = b.cells.length then (match b.st with | .mp => .fail | _ => .pure b) else .fail
   | none => .fail := by
 simp only [Rd.liveBlk]
 congr 1
 funext b
 cases b with
 | none => rfl
 | some b =>
   simp only
   cases h : Nat.beq gl b.cells.length
   · rw [if_neg (Nat.ne_of_beq_eq_false h)]; rfl
   · rw [if_pos (Nat.eq_of_beq_eq_true h)]; rfl
theorem Zr5 (k t o : Nat) : freeOff [k] (t + 1) o = .get (k + o) fun
   | none => .pure o
   | some _ => freeOff [k] t (o + 1048576) := by
 rw [freeOff]
 generalize freeOff [k] t (o + 1048576) = z
 simp only [List.map_cons, List.map_nil, allFree, Rd.bind]
 congr 1
 funext b
 cases b <;> rfl
theorem fo6 (k : Nat) : freeOff [k] 6 0 = .get k fun
   | none => .pure 0
   | some _ => freeOff [k] 5 1048576 := by
 have := Zr5 k 5 0
 rw [Nat.add_zero, Nat.zero_add] at this
 exact this
theorem fo5 (k : Nat) : freeOff [k] 5 1048576 = .get (k + 1048576) fun
   | none => .pure 1048576
   | some _ => freeOff [k] 4 2097152 := by
 have := Zr5 k 4 1048576
 simp only [Nat.reduceAdd] at this
 exact this
theorem Zzi (φ : AFr) (H : AHeap) (h : refsF φ = []) : headA [] (φ, H) = (φ, []) := by
 have h1 : ∀ H : AHeap, keepB [] [] H = [] := by
   intro H
   induction H with
   | nil => rfl
   | cons p t ih => obtain ⟨i, b⟩ := p; simp only [keepB, ZO, List.elem_nil, Option.isSome_none, Bool.or_false, cond_false, ih]
 simp only [headA, h, mark, h1, gcIf, closedB, allHeld, closedH, Bool.and_true]
theorem ZBY (E0 : AHeap) (φ : AFr) : headA E0 (φ, []) = (φ, []) := by
 simp only [headA, keepB, gcIf]; split <;> rfl
def stepT (E : Env) (C : Callee) (B n : Nat) (ops : Array Oper) (o : Oper) (s : St) : Option (St × Tr) := (stepA E C B n ops o s).map fun s' => (s', trA E C B n ops o s)
def goT (E : Env) (C : Callee) (B n : Nat) (o : Oper) (s : St) : Option (St × Tr) := (goA E C B n o s).map fun s' => (s', trG E C B n o s)
def trS (r : Rd (AV × Ups)) (H : AHeap) : Tr :=
 match r.run H with
 | some (_, us) => ⟨false, r.foot H, us.map (·.1)⟩
 | none => ⟨true, [], []⟩
def stpT (d : Option Nat) (φ : AFr) (H : AHeap) (r : Rd (AV × Ups)) : Option (St × Tr) :=
 match r.run H with
 | some (v, us) => some ((putD d φ v, upds H us), ⟨false, r.foot H, us.map (·.1)⟩)
 | none => none
def trV (E : Env) (C : Callee) (site : Nat → Nat) (H : AHeap) (f : AV) (args : List AV) (keep : Bool) : Tr :=
 match mutV E f args with
 | some _ => ⟨true, [], []⟩
 | none => trS (opCallV E C site keep f args) H
def callVT (E : Env) (C : Callee) (Bn : Nat) (d : Option Nat) (site : Nat → Nat) (φ : AFr) (H : AHeap) (f : AV) (args : List AV) (keep : Bool) : Option (St × Tr) :=
 match mutV E f args with
 | some (g, asx) => (mutX d φ (C g asx H Bn)).map fun s => (s, ⟨true, [], []⟩)
 | none => stpT d φ H (opCallV E C site keep f args)
def gdT (φ : AFr) (k : Nat) (want : Bool) (no yes : AFr → Option (St × Tr)) : Option (St × Tr) :=
 match fget φ k with
 | .bool b => if b = want then yes (fset φ k (.bool want)) else no (fset φ k (.bool !want))
 | .tup _ => no φ
 | _ => none
theorem Ze {o : Oper} {φ : AFr} {H : AHeap} {d} {R : Rd (AV × Ups)} (h : goA E C B n o (φ, H) = stp d φ H R) (ht : trG E C B n o (φ, H) = trS R H) : goT E C B n o (φ, H) = stpT d φ H R := by
 simp only [goT, h, ht, stp, stpT, trS]
 cases R.run H <;> rfl
theorem Zf {o : Oper} {φ : AFr} {H : AHeap} {s'} (h : goA E C B n o (φ, H) = some s') (ht : trG E C B n o (φ, H) = ⟨false, [], []⟩) : goT E C B n o (φ, H) = some (s', ⟨false, [], []⟩) := by
 simp only [goT, h, ht, Option.map_some]
theorem ZNM {o : Oper} {φ : AFr} {H : AHeap} {Bn d site f args keep} (h : goA E C B n o (φ, H) = callV E C Bn d site φ H f args keep) (ht : trG E C B n o (φ, H) = trV E C site H f args keep) :
   goT E C B n o (φ, H) = callVT E C Bn d site φ H f args keep := by
 simp only [goT, h, ht, callV, callVT, trV]
 cases mutV E f args with
 | none =>
   simp only [stp, stpT, trS]
   cases (opCallV E C site keep f args).run H <;> rfl
 | some x => rfl
theorem Z6 {ops : Array Oper} {o : Oper} {s : St} {x} (hg : o.guard = none) (h : goT E C B n o s = x) : stepT E C B n ops o s = x := by
 rw [← h]; simp only [stepT, goT, stepA, trA, hg]
theorem ZB {ops : Array Oper} {o oj : Oper} {j dj : Nat} {want : Bool} {φ : AFr} {H : AHeap} {no : AFr → Option St} {yes : AFr → Option (St × Tr)} (hg : o.guard = some (j, want)) (hj : ops[j]? = some oj) (hd : oj.dst = some dj) (hn : ∀ φ, fin n o φ (.tup []) H = no φ) (hy : ∀ φ, goT E C B n o (φ, H) = yes φ) :
   stepT E C B n ops o (φ, H) = gdT φ dj want (fun φ => (no φ).map fun s => (s, ⟨false, [], []⟩)) yes := by
 have hs := Z8d φ dj
 simp only [stepT, stepA, trA, hg, wantA, hj, hd, gdT]
 cases h : fget φ dj with
 | bool b =>
   rw [h] at hs
   cases b <;> cases want <;> simp only [hs, beq_self_eq_true, if_true, Bool.not_true, Bool.not_false, hn, ← hy, goT] <;> rfl
 | tup l => simp only [hn]
 | _ => rfl
theorem ZeB {f : AV} {args : List AV} (h : mutV E f args = none) (Bn : Nat) (d : Option Nat) (site) (φ H) (keep) : callVT E C Bn d site φ H f args keep = stpT d φ H (opCallV E C site keep f args) := by
 simp only [callVT, h]
def rtX (n i : Nat) (r : Option (St × Tr)) (k : St → Option (St × List (Nat × Tr))) : Option (St × List (Nat × Tr)) :=
 match r with
 | some (s', t) => match neat n s' with
   | true => match k s' with
     | some (s2, l) => some (s2, (i, t) :: l)
     | none => none
   | false => none
 | none => none
theorem ZGX (ops : Array Oper) (i : Nat) (s : St) : runT E C B n ops [] i s = some (s, []) := rfl
theorem ZEb (ops : Array Oper) (o : Oper) (os : List Oper) (i : Nat) (s : St) : runT E C B n ops (o :: os) i s = rtX n i (stepT E C B n ops o s) (runT E C B n ops os (i + 1)) := by
 simp only [runT, stepT, rtX]
 cases stepA E C B n ops o s with
 | none => rfl
 | some s' =>
   simp only [Option.map_some]
   cases neat n s' <;> rfl
def addT (i : Nat) (t : Tr) (r : Option (St × List (Nat × Tr))) : Option (St × List (Nat × Tr)) :=
 match r with
 | some (s2, l) => some (s2, (i, t) :: l)
 | none => none
theorem ZGQ (i : Nat) (s' : St) (t : Tr) (k) : rtX n i (some (s', t)) k = if neat n s' = true then addT i t (k s') else none := by
 simp only [rtX, addT]; cases neat n s' <;> rfl
theorem ZJP (i : Nat) (k) : rtX n i none k = none := rfl
theorem ZU3 (i : Nat) (p : Prop) [Decidable p] (a b) (k) : rtX n i (if p then a else b) k = if p then rtX n i a k else rtX n i b k := by split <;> rfl
theorem ZDK (i : Nat) (t : Tr) (s l) : addT i t (some (s, l)) = some (s, (i, t) :: l) := rfl
theorem ZEe (i : Nat) (t : Tr) : addT i t none = none := rfl
theorem ZNm (i : Nat) (t : Tr) (p : Prop) [Decidable p] (a b) : addT i t (if p then a else b) = if p then addT i t a else addT i t b := by split <;> rfl
def drX (ops : Array Oper) (r : Option (St × List (Nat × Tr))) : Option St :=
 match r with
 | some (s', l) => if dynOk ops l = true then some s' else none
 | none => none
theorem ZGO (ops : Array Oper) (s' l) : drX ops (some (s', l)) = if dynOk ops l = true then some s' else none := rfl
theorem ZI5 (ops : Array Oper) : drX ops none = none := rfl
theorem ZWb (ops : Array Oper) (p : Prop) [Decidable p] (a b) : drX ops (if p then a else b) = if p then drX ops a else drX ops b := by split <;> rfl
theorem Z1O {ops : Array Oper} (h : statOk ops = true) (s : St) : drawA E C B n ops s = if neat n s = true then drX ops (runT E C B n ops ops.toList 0 s) else none := by
 simp only [drawA, h, drX]
 cases neat n s with
 | false => rfl
 | true =>
   simp only [if_true]
   cases runT E C B n ops ops.toList 0 s with
   | none => rfl
   | some x =>
     obtain ⟨s', l⟩ := x
     simp only
     cases dynOk ops l <;> rfl
theorem Z1c {ops : Array Oper} {an : List (List Nat)} (h : ancs ops.toList [] = an) (l) : dynOk ops l = (!writing l || Zl an (Zj l)) := by simp only [dynOk, h]
theorem ZYT (n : Nat) (φ : AFr) (H : AHeap) : neat n (φ, H) = (descF n φ && ascH 0 H) := rfl
theorem Zyu (h : Nat) : descF h [] = true := rfl
theorem ZqN (hi k : Nat) (a : AV) (t : AFr) : descF hi ((k, a) :: t) = (decide (k + 1 ≤ hi) && descF k t) := by
 simp only [Z29]; congr 1
 cases h : Nat.ble (k + 1) hi
 · rw [eq_comm, decide_eq_false_iff_not]; intro h2; rw [Nat.ble_eq_true_of_le h2] at h; exact absurd h (by simp)
 · rw [eq_comm, decide_eq_true_eq]; exact Nat.le_of_ble_eq_true h
theorem ZF4 (h : Nat) : ascH h [] = true := rfl
theorem ZzV (lo k : Nat) (a : Blk) (t : AHeap) : ascH lo ((k, a) :: t) = (decide (lo ≤ k) && ascH (k + 1) t) := by
 simp only [Z2D]; congr 1
 cases h : Nat.ble lo k
 · rw [eq_comm, decide_eq_false_iff_not]; intro h2; rw [Nat.ble_eq_true_of_le h2] at h; exact absurd h (by simp)
 · rw [eq_comm, decide_eq_true_eq]; exact Nat.le_of_ble_eq_true h
end
end Go.AM
end
noncomputable section
namespace Go.AM
def Z0l (k : Nat) (seen : List Nat) (r : Nat → AV) (b : Blk) : Rd (AV × Ups) :=
 (freeOff [k] 6 0).bind fun off => (freeAll [k + off]).bind fun _ => (frz seen).bind fun us => .pure (r (k + off), us ++ [(k + off, b)])
theorem ZoC (k : Nat) (seen : List Nat) (r : Nat → AV) (b : Blk) : ∃ no : Blk → Rd (AV × Ups), Z0l k seen r b = .get k fun
   | none => .get k fun
     | none => (frz seen).bind fun us => .pure (r k, us ++ [(k, b)])
     | some _ => .fail
   | some b => no b := by
 refine ⟨fun _ => (freeOff [k] 5 1048576).bind fun off => (freeAll [k + off]).bind fun _ => (frz seen).bind fun us => .pure (r (k + off), us ++ [(k + off, b)]), ?_⟩
 simp only [Z0l, freeOff, List.map_cons, List.map_nil, allFree, Rd.bind, Nat.add_zero]
 congr 1
 funext x
 cases x with
 | none =>
   simp only [Rd.bind, freeAll, Nat.add_zero]
   congr 1
   funext y
   cases y <;> rfl
 | some _ => rfl
theorem ZBe {k : Nat} {seen : List Nat} {r : Nat → AV} {b : Blk} {H : AHeap} (h : hget H k = none) : (Z0l k seen r b).run H = ((frz seen).bind fun us => .pure (r k, us ++ [(k, b)])).run H := by
 obtain ⟨no, e⟩ := ZoC k seen r b
 rw [e]; simp only [Rd.run, h]
theorem ZzH {k : Nat} {seen : List Nat} {r : Nat → AV} {b : Blk} {H : AHeap} (h : hget H k = none) : (Z0l k seen r b).foot H = k :: k :: ((frz seen).bind fun us => .pure (r k, us ++ [(k, b)])).foot H := by
 obtain ⟨no, e⟩ := ZoC k seen r b
 rw [e]; simp only [Rd.foot, h]
def ZG0 (k : Nat) (seen : List Nat) (r : Nat → AV) (b : Blk) : Rd (AV × Ups) := Z0l k seen r b
theorem ZPa {k : Nat} {seen : List Nat} {r : Nat → AV} {b : Blk} {H : AHeap} : (Z0l k seen r b).run H = match hget H k with
   | none => ((frz seen).bind fun us => .pure (r k, us ++ [(k, b)])).run H
   | some _ => (ZG0 k seen r b).run H := by
 cases h : hget H k with
 | none => exact ZBe h
 | some _ => rfl
theorem ZQB {k : Nat} {seen : List Nat} {r : Nat → AV} {b : Blk} {H : AHeap} : (Z0l k seen r b).foot H = match hget H k with
   | none => k :: k :: ((frz seen).bind fun us => .pure (r k, us ++ [(k, b)])).foot H
   | some _ => (ZG0 k seen r b).foot H := by
 cases h : hget H k with
 | none => exact ZzH h
 | some _ => rfl
def Z2q (k0 k1 : Nat) (seen : List Nat) (r : Nat → Nat → AV) (b0 b1 : Blk) : Rd (AV × Ups) :=
 (freeOff [k1, k0] 6 0).bind fun off => (freeAll [k1 + off, k0 + off]).bind fun _ => (frz seen).bind fun us => .pure (r (k0 + off) (k1 + off), us ++ [(k1 + off, b1), (k0 + off, b0)])
def ZA8 (k0 k1 : Nat) (seen : List Nat) (r : Nat → Nat → AV) (b0 b1 : Blk) : Rd (AV × Ups) := Z2q k0 k1 seen r b0 b1
theorem ZMX (k0 k1 : Nat) (seen : List Nat) (r : Nat → Nat → AV) (b0 b1 : Blk) : ∃ no no' : Blk → Rd (AV × Ups), Z2q k0 k1 seen r b0 b1 = .get k1 fun
   | none => .get k0 fun
     | none => .get k1 fun
       | none => .get k0 fun
         | none => (frz seen).bind fun us => .pure (r k0 k1, us ++ [(k1, b1), (k0, b0)])
         | some _ => .fail
       | some _ => .fail
     | some b => no b
   | some b => no' b := by
 refine ⟨fun _ => (freeOff [k1, k0] 5 1048576).bind fun off => (freeAll [k1 + off, k0 + off]).bind fun _ => (frz seen).bind fun us => .pure (r (k0 + off) (k1 + off), us ++ [(k1 + off, b1), (k0 + off, b0)]),
   fun _ => (freeOff [k1, k0] 5 1048576).bind fun off => (freeAll [k1 + off, k0 + off]).bind fun _ => (frz seen).bind fun us => .pure (r (k0 + off) (k1 + off), us ++ [(k1 + off, b1), (k0 + off, b0)]), ?_⟩
 simp only [Z2q, freeOff, List.map_cons, List.map_nil, allFree, Rd.bind, Nat.add_zero]
 congr 1
 funext x
 cases x with
 | some _ => rfl
 | none =>
   simp only [Rd.bind]
   congr 1
   funext y
   cases y with
   | some _ => rfl
   | none =>
     simp only [Rd.bind, freeAll, Nat.add_zero]
     congr 1
     funext x
     cases x with
     | some _ => rfl
     | none =>
       simp only [Rd.bind]
       congr 1
       funext y
       cases y <;> rfl
theorem ZNX {k0 k1 : Nat} {seen : List Nat} {r : Nat → Nat → AV} {b0 b1 : Blk} {H : AHeap} : (Z2q k0 k1 seen r b0 b1).run H = match hget H k1 with
   | none => match hget H k0 with
     | none => ((frz seen).bind fun us => .pure (r k0 k1, us ++ [(k1, b1), (k0, b0)])).run H
     | some _ => (ZA8 k0 k1 seen r b0 b1).run H
   | some _ => (ZA8 k0 k1 seen r b0 b1).run H := by
 cases h : hget H k1 with
 | some _ => rfl
 | none =>
   cases h2 : hget H k0 with
   | some _ => rfl
   | none =>
     obtain ⟨no, no', e⟩ := ZMX k0 k1 seen r b0 b1
     rw [e]; simp only [Rd.run, h, h2]
theorem Zzo {C : Callee} {site : Nat → Nat} {seen : List Nat} {f : FuncId} {args : List AV} {id id' n n' sz sz' : Nat} {cells cells' : List AV} {H' : AHeap} (h : C f args [] 0 = some (.tup [.ref id 0 n n cells.length sz false, .ref id' 0 n' n' cells'.length sz' false], H')) (hg : hget H' id = some ⟨.row, cells⟩) (hg' : hget H' id' = some ⟨.row, cells'⟩) (hne : id' ≠ id) (hs : site 1 ≠ site 0) :
   aBack site true seen (thaw C f args [] 0) = Z2q (site 0) (site 1) seen (fun k k' => .tup [.ref k 0 n n cells.length sz false, .ref k' 0 n' n' cells'.length sz' false]) ⟨.row, cells⟩ ⟨.row, cells'⟩ := by
 have hb : ∀ off, (site 1 + off == site 0 + off) = false := fun off => by rw [beq_eq_false_iff_ne]; omega
 simp only [thaw, h, frzRet, aBack, sitesB, aBackAt, imp, imps, hg, hg', hne, hb, List.length_nil, List.length_cons, List.not_mem_nil, List.mem_cons, or_false, not_false_eq_true, and_true, if_true, List.map_cons, List.map_nil, AM.apart, List.elem_cons, List.elem_nil, Bool.not_false, Bool.and_true, AV.leads, AV.leads.leadsL, Bool.or_false, Bool.true_or, Nat.zero_add, Z2q]
theorem Zp1 {C : Callee} {site : Nat → Nat} {seen : List Nat} {f : FuncId} {args : List AV} {k' : IntKind} {z' : Int} (h : ∃ H', C f args [] 0 = some (.tup [.nilsl, .int k' z'], H')) : aBack site true seen (thaw C f args [] 0) = .pure (.tup [.nilsl, .int k' z'], []) := by
 obtain ⟨H', h⟩ := h; exact Z13 h rfl (fun _ => rfl) rfl
theorem ZFc {C : Callee} {site : Nat → Nat} {seen : List Nat} {f : FuncId} {args : List AV} (h : ∃ H', C f args [] 0 = some (.nilsl, H')) : aBack site true seen (thaw C f args [] 0) = .pure (.nilsl, []) := by
 obtain ⟨H', h⟩ := h; exact Z13 h rfl (fun _ => rfl) rfl
end Go.AM
end
noncomputable section
namespace Go.AM
theorem seqN (s : St) (k) : seqX (some (.normal, s)) k = k s := nf
theorem bindN (s : St) (k) : bindR (some s) k = k s := nf
theorem regN (s : St) (k) : regX (some s) k = some (.normal, k s) := nf
theorem ZNq (d : Nat) (k : IntKind) (z : Int) : snap (d + 1) (.int k z) = .pure (.int k z, []) := rfl
theorem Zz3 (d : Nat) : snap (d + 1) .nilsl = .pure (.nilsl, []) := rfl
theorem ZNn (d : Nat) (c : List AV) (n : Nat) (ex : Bool) : snap (d + 1) (.imm c n ex) = .pure (.imm c n ex, []) := rfl
theorem ZHl (d id off len cap gl sz : Nat) (ex : Bool) : snap (d + 1) (.ref id off len cap gl sz ex) = (Rd.liveBlk id gl).bind fun b =>
     if off + len * sz ≤ b.cells.length then
       match b.st with
       | .box => (snaps d ((b.cells.drop off).take (len * sz))).bind fun x =>
         .pure (.imm x.1 len (ex && decide (cap = len)), id :: x.2)
       | _ => .pure (.imm ((b.cells.drop off).take (len * sz)) len (ex && decide (cap = len)), [id])
     else .fail := rfl
theorem ZEj (d id off gl : Nat) : snap (d + 1) (.ptr id off gl) = (Rd.liveBlk id gl).bind fun b =>
     match b.st with
     | .box => (snaps d b.cells).bind fun x => .pure (.iptr x.1 off, id :: x.2)
     | _ => .pure (.iptr b.cells off, [id]) := rfl
theorem ZEh (d : Nat) (c : List AV) (n : Nat) : snap (d + 1) (.iptr c n) = .pure (.iptr c n, []) := rfl
theorem ZBW (d : Nat) (b : Bool) : snap (d + 1) (.bool b) = .pure (.bool b, []) := rfl
theorem Zjc (d : Nat) : snap (d + 1) .nilfunc = .pure (.nilfunc, []) := rfl
theorem ZKA (d : Nat) (vs : List AV) : snap (d + 1) (.agg vs) = (snaps d vs).bind fun x => .pure (.agg x.1, x.2) := rfl
theorem ZHR (d : Nat) (vs : List AV) : snap (d + 1) (.tup vs) = (snaps d vs).bind fun x => .pure (.tup x.1, x.2) := rfl
theorem ZLw (d : Nat) (f : FuncId) (vs : List AV) : snap (d + 1) (.clo f vs) = (snaps d vs).bind fun x => .pure (.clo f x.1, x.2) := rfl
def frzB (s : BS) (cs : List AV) (i : Nat) (r : Rd Ups) : Rd Ups :=
 match s, cs.all AV.flat with
 | .box, false => .fail
 | .mp, _ => .fail
 | .froz, _ => r
 | _, _ => r.bind fun us => .pure ((i, ⟨.froz, cs⟩) :: us)
theorem ZTR : frz [] = .pure [] := rfl
theorem Z010 (i : Nat) (is : List Nat) : frz (i :: is) = .get i fun
   | some b => frzB b.st b.cells i (frz is)
   | none => .fail := rfl
theorem ZMU (cs : List AV) (i : Nat) (r : Rd Ups) : frzB .row cs i r = r.bind fun us => .pure ((i, ⟨.froz, cs⟩) :: us) := rfl
theorem ZAy (cs : List AV) (i : Nat) (r : Rd Ups) : frzB .froz cs i r = r := by unfold frzB; cases cs.all AV.flat <;> rfl
theorem ZIx (cs : List AV) (i : Nat) (r : Rd Ups) : frzB .box cs i r = if cs.all AV.flat = true then r.bind fun us => .pure ((i, ⟨.froz, cs⟩) :: us) else .fail := by
 unfold frzB; cases cs.all AV.flat <;> rfl
theorem Z4T : ∀ (l : List AV) (d : Nat), (∀ a ∈ l, ∃ k z, a = AV.int k z) → l.length + 2 ≤ d → snaps d l = .pure (l, [])
 | [], d + 1, _, _ => by simp only [snaps]
 | a :: l, d + 1, h, hd => by
   obtain ⟨k, z, rfl⟩ := h a (List.mem_cons_self ..)
   have hd2 : l.length + 2 ≤ d := by simp only [List.length_cons] at hd; omega
   have ih := Z4T l d (fun a ha => h a (List.mem_cons_of_mem _ ha)) hd2
   obtain ⟨e, rfl⟩ : ∃ e, d = e + 1 := ⟨d - 1, by omega⟩
   simp only [snaps, snap, ih, Rd.bind, List.nil_append]
end Go.AM
namespace Go.AM.Ytfmnoohhhokicaa
open Go Go.AM
theorem cl0 : ((0 : Nat) : Int) = 0 := rfl
end Go.AM.Ytfmnoohhhokicaa
end
noncomputable section
namespace Go.AM
abbrev ZF := And.intro (And.intro (And.intro (And.intro (And.intro (And.intro (And.intro @ZK7 @ZCw) (And.intro @ZCI (And.intro @ZM9
 @Zzc))) (And.intro (And.intro @ZEr @ZDk) (And.intro @ZLW (And.intro @Zz7 @ZqP)))) (And.intro (And.intro
 (And.intro @Zh8 @Zz8) (And.intro @ZqO (And.intro @Zzh @ZHs))) (And.intro (And.intro @ZBg @Bool.not_true)
 (And.intro @Bool.not_false (And.intro @ZFp @ZAd))))) (And.intro (And.intro (And.intro (And.intro @ZlQ @ZO0) (And.intro
 @ZKC (And.intro @ZIQ @ZyD))) (And.intro (And.intro @ZLk @ZA3) (And.intro @ZyA (And.intro @ZpL
 @ZG4)))) (And.intro (And.intro (And.intro @Z23 @Z5i) (And.intro @Z50 (And.intro @ZBY @Z0ac))) (And.intro (And.intro
 @Z0aR (And.intro @ZyZ @decide_eq_true_eq)) (And.intro @decide_eq_false_iff_not (And.intro @Nat.zero_add @Nat.add_zero)))))) (And.intro
 (And.intro (And.intro (And.intro (And.intro @Z055 @ZVq) (And.intro @Z0ba (And.intro @Z03Y @Z00L))) (And.intro (And.intro @ZDr
 @bne_iff_ne.{0}) (And.intro @ne_eq.{1} (And.intro @beq_iff_eq.{0} @ite_not.{1})))) (And.intro (And.intro (And.intro @Zzi @List.nil_append.{0})
 (And.intro @List.getElem?_toArray.{0} (And.intro @ZGQ @ZJP))) (And.intro (And.intro @ZU3 (And.intro @ZDK @ZEe)) (And.intro
 @ZNm (And.intro @ZGO @ZI5))))) (And.intro (And.intro (And.intro (And.intro @ZWb @ZGX) (And.intro @ZEb (And.intro @ZYT
 @Zyu))) (And.intro (And.intro @ZqN @ZF4) (And.intro @ZzV (And.intro @List.isEmpty_nil.{0} @List.isEmpty_cons.{0}))))
 (And.intro (And.intro (And.intro @List.map_nil.{0,0} @List.map_cons.{0,0}) (And.intro @Bool.true_or (And.intro @Bool.or_true @Bool.false_or)))
 (And.intro (And.intro @Bool.or_false (And.intro @Bool.and_true @Bool.true_and)) (And.intro @Bool.and_self (And.intro @decide_true @decide_false)))))))
 (And.intro (And.intro (And.intro (And.intro (And.intro (And.intro @not_true_eq_false @not_false_eq_true) (And.intro @or_false (And.intro @false_or
 @or_true))) (And.intro (And.intro @true_or @or_self) (And.intro @fo6 (And.intro @fo5 @Bool.not_eq_true)))) (And.intro (And.intro (And.intro
 @Bool.not_eq_false @Bool.not_eq_eq_eq_not) (And.intro @ZBX (And.intro @ZBF @and_true))) (And.intro (And.intro @true_and
 @Int.natCast_nonneg) (And.intro @Int.ofNat_lt (And.intro @Int.toNat_natCast @List.append_nil.{0}))))) (And.intro (And.intro (And.intro (And.intro
 @if_true.{1} @if_false.{1}) (And.intro @Option.map_some.{0,0} (And.intro @Option.map_none.{0,0} @List.elem_cons.{0}))) (And.intro (And.intro
 @List.elem_nil.{0} @cond_true.{1}) (And.intro @cond_false.{1} (And.intro @List.length_cons.{0} @List.length_nil.{0})))) (And.intro (And.intro
 (And.intro @List.getElem?_cons_zero.{0} @List.getElem?_cons_succ.{0}) (And.intro @List.drop_zero.{0} (And.intro @List.drop_succ_cons.{0}
 @List.take_succ_cons.{0}))) (And.intro (And.intro @List.take_zero.{0} (And.intro @List.take_nil.{0} @List.set_cons_zero.{0})) (And.intro
 @List.set_cons_succ.{0} (And.intro @ZTR @Z010)))))) (And.intro (And.intro (And.intro (And.intro (And.intro @ZMU @ZAy) (And.intro
 @ZIx (And.intro @seqN @bindN))) (And.intro (And.intro @regN @ZNq) (And.intro @ZBW (And.intro @Zz3 @Zjc)))) (And.intro
 (And.intro (And.intro @ZNn @ZHl) (And.intro @ZEj (And.intro @ZEh @ZKA))) (And.intro (And.intro @ZHR (And.intro
 @ZLw @List.all_cons.{0})) (And.intro @List.all_nil.{0} (And.intro @ZPa @ZQB))))) (And.intro (And.intro (And.intro (And.intro @ZNX
 @List.cons_append.{0}) (And.intro @Nat.le_refl (And.intro @Nat.sub_zero @Nat.mul_one))) (And.intro (And.intro @Nat.zero_mul @Nat.mul_zero) (And.intro
 @List.not_mem_nil.{0} (And.intro @beq_self_eq_true.{0} @bne_self_eq_false.{0})))) (And.intro (And.intro (And.intro @Int.lt_irrefl @Nat.lt_irrefl)
 (And.intro @Bool.false_eq_true (And.intro @Bool.false_and @Option.getD_none.{0}))) (And.intro (And.intro @Option.getD_some.{0} (And.intro
 @List.contains_cons.{0} @List.contains_nil.{0})) (And.intro @List.getD_cons_zero.{0} (And.intro @List.getD_cons_succ.{0} @List.getD_nil.{0})))))))
end Go.AM
end
noncomputable section
namespace Go.AM
noncomputable section NC
def posF : List Nat → Nat → Nat → Option Nat
 | [], _, _ => none
 | k :: ks, j, i => if k = i then some j else posF ks (j + 1) i
mutual
def ren (ρ : Nat → Option Nat) : AV → Option AV
 | .agg vs => match renL ρ vs with
   | some xs => some (.agg xs)
   | none => none
 | .tup vs => match renL ρ vs with
   | some xs => some (.tup xs)
   | none => none
 | .clo f vs => match renL ρ vs with
   | some xs => some (.clo f xs)
   | none => none
 | .bnd f vs => match renL ρ vs with
   | some xs => some (.bnd f xs)
   | none => none
 | .ref id off len cap gl sz ex => match ρ id with
   | some j => some (.ref j off len cap gl sz ex)
   | none => none
 | .ptr id off gl => match ρ id with
   | some j => some (.ptr j off gl)
   | none => none
 | .mapv id => match ρ id with
   | some j => some (.mapv j)
   | none => none
 | a => some a
def renL (ρ : Nat → Option Nat) : List AV → Option (List AV)
 | [] => some []
 | a :: asx => match ren ρ a with
   | some x => match renL ρ asx with
     | some xs => some (x :: xs)
     | none => none
   | none => none
end
def renB (ρ : Nat → Option Nat) (b : Blk) : Option Blk :=
 match b.st with
 | .box => match renL ρ b.cells with
   | some cs => some ⟨.box, cs⟩
   | none => none
 | _ => some b
def foc (ρ : Nat → Option Nat) (H : AHeap) : Nat → List Nat → Option AHeap
 | _, [] => some []
 | j, i :: is => match hget H i with
   | some b => match renB ρ b with
     | some b1 => match foc ρ H (j + 1) is with
       | some t => some ((j, b1) :: t)
       | none => none
     | none => none
   | none => none
def outF (ks news : List Nat) (B n : Nat) : Option Nat :=
 if n < ks.length then ks[n]? else match posF news 0 n with
   | some j => some (B + j)
   | none => none
def goodB (H1 : AHeap) (m n : Nat) (b : Blk) : Bool :=
 b.st.open_ || (decide (n < m) && match hget H1 n with
   | some b0 => decide (b0.cells.length = b.cells.length)
   | none => false)
def unf (ρ : Nat → Option Nat) (H1 H2 : AHeap) (m : Nat) : List Nat → Option Ups
 | [] => some []
 | n :: ns => match ρ n with
   | some i => match hget H2 n with
     | some b => if goodB H1 m n b = true then
         match renB ρ b with
         | some b' => match unf ρ H1 H2 m ns with
           | some us => some ((i, b') :: us)
           | none => none
         | none => none
       else none
     | none => none
   | none => none
def newsF (H2 : AHeap) (r : AV) (m : Nat) : List Nat := (mark H2 1000 (refsOf r ++ List.range m) []).filter fun n => decide (m ≤ n)
def freeL (H : AHeap) (B : Nat) : Nat → Bool
 | 0 => true
 | n + 1 => (hget H (B + n)).isNone && freeL H B n
def baseF (H : AHeap) (n : Nat) : Nat → Nat → Option Nat
 | 0, _ => none
 | t + 1, B => if freeL H B n = true then some B else baseF H n t (B + 64)
def backF (H H1 : AHeap) (ks : List Nat) (B : Nat) : Option (AV × AHeap) → Option (AV × AHeap)
 | some (r, H2) =>
   match baseF H (newsF H2 r ks.length).length 8 B with
   | some B => if AM.apart (newsF H2 r ks.length) = true then
       match ren (outF ks (newsF H2 r ks.length) B) r, unf (outF ks (newsF H2 r ks.length) B) H1 H2 ks.length (List.range ks.length ++ newsF H2 r ks.length) with
       | some r', some us => some (r', upds H us)
       | _, _ => none
     else none
   | none => none
 | none => none
def focus (C : Callee) (f : FuncId) (args : List AV) (H : AHeap) (B : Nat) (ks : List Nat) : Option (AV × AHeap) :=
 if AM.apart ks = true then
   match renL (posF ks 0) args, foc (posF ks 0) H 0 ks with
   | some args1, some H1 => backF H H1 ks B (C f args1 H1 64)
   | _, _ => none
 else none
def frC (fr : FuncId → Bool) (C : Callee) : Callee := fun f args H B =>
 match fr f with
 | true => focus C f args H B (mark H 1000 (refsL args) []).reverse
 | false => C f args H B
def callF (E : Env) (fr : FuncId → Bool) (fg : FuncId → Nat → List Nat) (N : Nat) : Nat → Callee
 | 0 => fun _ _ _ _ => none
 | d + 1 => bodyA E (frC fr (callF E fr fg N d)) fg N
end NC
def AV.leaf : AV → Bool
 | .ref .. | .ptr .. | .mapv .. => true
 | _ => false
noncomputable section
variable {P : Program} {E : Env}
mutual
theorem Z5q {fz fz' : Nat → Prop} {w w' : World} (hf : ∀ k, fz k → fz' k ∧ w'.heap[k]? = w.heap[k]?) {rf rf' : RFt} {ρ : Nat → Option Nat}
   (hr : ∀ a a' v, a.leaf = true → ren ρ a = some a' → v.oneCell' = true → rf a v → rf' a' v) : ∀ (a a' : AV) (v : Value), ren ρ a = some a' → VR fz w a rf v → VR fz' w' a' rf' v
 | .int .., a', _, e, h => by simp only [ren, Option.some.injEq] at e; subst e; simpa only [VR] using h
 | .bool .., a', _, e, h => by simp only [ren, Option.some.injEq] at e; subst e; simpa only [VR] using h
 | .str .., a', _, e, h => by simp only [ren, Option.some.injEq] at e; subst e; simpa only [VR] using h
 | .nilsl, a', _, e, h => by simp only [ren, Option.some.injEq] at e; subst e; simpa only [VR] using h
 | .nilptr, a', _, e, h => by simp only [ren, Option.some.injEq] at e; subst e; simpa only [VR] using h
 | .nilfunc, a', _, e, h => by simp only [ren, Option.some.injEq] at e; subst e; simpa only [VR] using h
 | .nilmap, a', _, e, h => by simp only [ren, Option.some.injEq] at e; subst e; simpa only [VR] using h
 | .any, a', _, e, _ => by simp only [ren, Option.some.injEq] at e; subst e; simp only [VR]
 | .imm cells len ex, a', _, e, h => by
   simp only [ren, Option.some.injEq] at e; subst e
   simp only [VR] at h ⊢; obtain ⟨b, o, cap, e, h1, h2, h3⟩ := h
   refine ⟨b, o, cap, e, h1, h2, ?_⟩
   rcases h3 with h3 | ⟨h3, h4⟩
   · exact .inl h3
   · exact .inr ⟨(hf b h3).1, VRc.mono (K := fun _ => True) hf (fun _ _ _ h => h) cells b o (hf b h3).2 (fun _ _ => trivial) h4⟩
 | .iptr cells off, a', _, e, h => by
   simp only [ren, Option.some.injEq] at e; subst e
   simp only [VR] at h ⊢; obtain ⟨b, o, e, h3, h4⟩ := h
   exact ⟨b, o, e, (hf b h3).1, VRc.mono (K := fun _ => True) hf (fun _ _ _ h => h) cells b o (hf b h3).2 (fun _ _ => trivial) h4⟩
 | .agg vs, a', _, e, h => by
   simp only [ren] at e
   split at e
   · rename_i xs hx
     obtain rfl := Option.some.inj e
     simp only [VR] at h ⊢; obtain ⟨A, q, h⟩ := h
     exact ⟨A, q, ZvD hf hr vs xs _ hx h⟩
   · exact absurd e (by simp)
 | .tup vs, a', _, e, h => by
   simp only [ren] at e
   split at e
   · rename_i xs hx
     obtain rfl := Option.some.inj e
     simp only [VR] at h ⊢; obtain ⟨A, q, h⟩ := h
     exact ⟨A, q, Z4C hf hr vs xs _ hx h⟩
   · exact absurd e (by simp)
 | .clo f vs, a', _, e, h => by
   simp only [ren] at e
   split at e
   · rename_i xs hx
     obtain rfl := Option.some.inj e
     simp only [VR] at h ⊢; obtain ⟨A, q, h⟩ := h
     exact ⟨A, q, Z4C hf hr vs xs _ hx h⟩
   · exact absurd e (by simp)
 | .bnd f vs, a', _, e, h => by
   simp only [ren] at e
   split at e
   · rename_i xs hx
     obtain rfl := Option.some.inj e
     simp only [VR] at h ⊢; obtain ⟨A, q, h⟩ := h
     exact ⟨A, q, Z4C hf hr vs xs _ hx h⟩
   · exact absurd e (by simp)
 | .ref id off len cap gl sz ex, a', v, e, h => by
   have e0 := e
   simp only [ren] at e
   split at e
   · obtain rfl := Option.some.inj e
     simp only [VR] at h ⊢
     exact ⟨h.1, hr _ _ v rfl e0 h.1 h.2⟩
   · exact absurd e (by simp)
 | .ptr id off gl, a', v, e, h => by
   have e0 := e
   simp only [ren] at e
   split at e
   · obtain rfl := Option.some.inj e
     simp only [VR] at h ⊢
     exact ⟨h.1, hr _ _ v rfl e0 h.1 h.2⟩
   · exact absurd e (by simp)
 | .mapv id, a', v, e, h => by
   have e0 := e
   simp only [ren] at e
   split at e
   · obtain rfl := Option.some.inj e
     simp only [VR] at h ⊢
     exact ⟨h.1, hr _ _ v rfl e0 h.1 h.2⟩
   · exact absurd e (by simp)
theorem Z4C {fz fz' : Nat → Prop} {w w' : World} (hf : ∀ k, fz k → fz' k ∧ w'.heap[k]? = w.heap[k]?) {rf rf' : RFt} {ρ : Nat → Option Nat}
   (hr : ∀ a a' v, a.leaf = true → ren ρ a = some a' → v.oneCell' = true → rf a v → rf' a' v) : ∀ (asx bs : List AV) (vs : List Value), renL ρ asx = some bs → VRs fz w asx rf vs → VRs fz' w' bs rf' vs
 | [], bs, _, e, h => by simp only [renL, Option.some.injEq] at e; subst e; simpa only [VRs] using h
 | a :: asx, bs, _, e, h => by
   simp only [renL] at e
   split at e
   · rename_i x hx
     split at e
     · rename_i xs hxs
       obtain rfl := Option.some.inj e
       simp only [VRs] at h ⊢; obtain ⟨v, t, q, h1, h2⟩ := h
       exact ⟨v, t, q, Z5q hf hr a x v hx h1, Z4C hf hr asx xs t hxs h2⟩
     · exact absurd e (by simp)
   · exact absurd e (by simp)
theorem ZvD {fz fz' : Nat → Prop} {w w' : World} (hf : ∀ k, fz k → fz' k ∧ w'.heap[k]? = w.heap[k]?) {rf rf' : RFt} {ρ : Nat → Option Nat}
   (hr : ∀ a a' v, a.leaf = true → ren ρ a = some a' → v.oneCell' = true → rf a v → rf' a' v) : ∀ (asx bs : List AV) (vs : List Value), renL ρ asx = some bs → VRo fz w asx rf vs → VRo fz' w' bs rf' vs
 | [], bs, _, e, h => by simp only [renL, Option.some.injEq] at e; subst e; simpa only [VRo] using h
 | a :: asx, bs, _, e, h => by
   simp only [renL] at e
   split at e
   · rename_i x hx
     split at e
     · rename_i xs hxs
       obtain rfl := Option.some.inj e
       simp only [VRo] at h ⊢; obtain ⟨v, t, q, h0, h1, h2⟩ := h
       exact ⟨v, t, q, h0, Z5q hf hr a x v hx h1, ZvD hf hr asx xs t hxs h2⟩
     · exact absurd e (by simp)
   · exact absurd e (by simp)
end
theorem ZrB {fz fz' : Nat → Prop} {w w' : World} (hf : ∀ k, fz k → fz' k ∧ w'.heap[k]? = w.heap[k]?) {rf rf' : RFt} {ρ : Nat → Option Nat}
   (hr : ∀ a a' v, a.leaf = true → ren ρ a = some a' → v.oneCell' = true → rf a v → rf' a' v) : ∀ (asx bs : List AV) (b o : Nat), w'.heap[b]? = w.heap[b]? → renL ρ asx = some bs → VRc fz w asx rf b o → VRc fz' w' bs rf' b o
 | [], bs, _, _, _, e, _ => by simp only [renL, Option.some.injEq] at e; subst e; simp only [VRc]
 | a :: asx, bs, b, o, hb, e, h => by
   simp only [renL] at e
   split at e
   · rename_i x hx
     split at e
     · rename_i xs hxs
       obtain rfl := Option.some.inj e
       simp only [VRc] at h ⊢; obtain ⟨⟨v, q, h0, h1⟩, h2⟩ := h
       exact ⟨⟨v, by rw [Z5B hb]; exact q, h0, Z5q hf hr a x v hx h1⟩, ZrB hf hr asx xs b (o + 1) hb hxs h2⟩
     · exact absurd e (by simp)
   · exact absurd e (by simp)
mutual
theorem ZlK : ∀ a : AV, ren some a = some a
 | .int .. | .bool .. | .str .. | .nilsl | .nilptr | .nilfunc | .nilmap | .any | .imm .. | .iptr .. | .ref .. | .ptr .. | .mapv .. => by simp only [ren]
 | .agg vs => by simp only [ren, Z38 vs]
 | .tup vs => by simp only [ren, Z38 vs]
 | .clo f vs => by simp only [ren, Z38 vs]
 | .bnd f vs => by simp only [ren, Z38 vs]
theorem Z38 : ∀ l : List AV, renL some l = some l
 | [] => by simp only [renL]
 | a :: l => by simp only [renL, ZlK a, Z38 l]
end
theorem Z7M {ρ : Nat → Option Nat} : ∀ {l l' : List AV}, renL ρ l = some l' → l'.length = l.length
 | [], _, h => by simp only [renL, Option.some.injEq] at h; subst h; rfl
 | a :: l, l', h => by
   simp only [renL] at h
   split at h
   · split at h
     · rename_i xs hxs
       obtain rfl := Option.some.inj h
       rw [List.length_cons, List.length_cons, Z7M hxs]
     · exact absurd h (by simp)
   · exact absurd h (by simp)
theorem Z16 {ρ : Nat → Option Nat} {b b' : Blk} (h : renB ρ b = some b') : b'.st = b.st ∧ b'.cells.length = b.cells.length := by
 unfold renB at h
 split at h
 · rename_i hs
   split at h
   · rename_i cs hc
     obtain rfl := Option.some.inj h
     exact ⟨hs.symm, Z7M hc⟩
   · exact absurd h (by simp)
 · obtain rfl := Option.some.inj h; exact ⟨rfl, rfl⟩
theorem Z5b {g g' : Gh} {ρ : Nat → Option Nat} {i j : Nat} {b b' : Blk} (hmu : g'.mu j = g.mu i) (hh : g'.w.heap[(g.mu i).1]? = g.w.heap[(g.mu i).1]?) (hf : ∀ k, g.fz k → g'.fz k ∧ g'.w.heap[k]? = g.w.heap[k]?)
   (hr : ∀ a a' v, a.leaf = true → ren ρ a = some a' → v.oneCell' = true → RF g a v → RF g' a' v) (hb : renB ρ b = some b') (h : Lies g i b) : Lies g' j b' := by
 by_cases hs : b.st = .mp
 · have : b' = b := by unfold renB at hb; rw [hs] at hb; exact (Option.some.inj hb).symm
   subst this
   obtain ⟨es, h1, h2⟩ := h.map hs
   exact Z3D hs ⟨es, by rw [hmu, hh]; exact h1, h2⟩
 · obtain ⟨cs, t, h1, h2⟩ := h.cells hs
   refine Z4t (by rw [(Z16 hb).1]; exact hs) ⟨cs, t, by rw [hmu, hh]; exact h1, ?_⟩
   rw [hmu, (Z16 hb).1]
   unfold renB at hb
   split at hb
   · rename_i hst
     split at hb
     · rename_i cs' hc
       obtain rfl := Option.some.inj hb
       rw [hst] at h2 ⊢
       exact ZrB hf hr _ _ _ _ hh hc h2
     · exact absurd hb (by simp)
   · rename_i hst
     obtain rfl := Option.some.inj hb
     refine VRc.mono (K := fun _ => True) hf (fun a v _ h => ?_) _ _ _ hh (fun _ _ => trivial) h2
     cases hbs : b.st <;> rw [hbs] at h
     · exact absurd hbs hst
     all_goals exact h
theorem Z1T : ∀ (ks : List Nat) (j i n : Nat), posF ks j i = some n → j ≤ n ∧ ks[n - j]? = some i
 | [], _, _, _, h => by simp [posF] at h
 | k :: ks, j, i, n, h => by
   simp only [posF] at h
   split at h
   · rename_i e
     obtain rfl := Option.some.inj h
     subst e
     exact ⟨Nat.le_refl _, by rw [Nat.sub_self]; rfl⟩
   · obtain ⟨h1, h2⟩ := Z1T ks (j + 1) i n h
     refine ⟨by omega, ?_⟩
     rw [show n - j = (n - (j + 1)) + 1 by omega, List.getElem?_cons_succ]; exact h2
theorem Z1k : ∀ (ks : List Nat) (j i n : Nat), ks.Nodup → ks[n]? = some i → posF ks j i = some (j + n)
 | [], _, _, _, _, h => by simp at h
 | k :: ks, j, i, n, hn, h => by
   rw [List.nodup_cons] at hn
   simp only [posF]
   cases n with
   | zero => rw [if_pos (by simpa using h)]; rfl
   | succ n =>
     rw [List.getElem?_cons_succ] at h
     rw [if_neg (fun e => hn.1 (by rw [e]; exact List.mem_of_getElem? h)), Z1k ks (j + 1) i n hn.2 h]
     congr 1; omega
theorem ZmP {ρ : Nat → Option Nat} {H : AHeap} : ∀ (ks : List Nat) (j : Nat) {H1 : AHeap}, foc ρ H j ks = some H1 →
   (∀ n b1, hget H1 n = some b1 → j ≤ n ∧ ∃ i b, ks[n - j]? = some i ∧ hget H i = some b ∧ renB ρ b = some b1) ∧ (∀ n i, ks[n]? = some i → ∃ b b1, hget H i = some b ∧ renB ρ b = some b1 ∧ hget H1 (j + n) = some b1)
 | [], j, H1, h => by
   simp only [foc, Option.some.injEq] at h; subst h
   exact ⟨fun n b1 h => by simp [ZO] at h, fun n i h => by simp at h⟩
 | k :: ks, j, H1, h => by
   simp only [foc] at h
   split at h
   · rename_i b hb
     split at h
     · rename_i b1 hb1
       split at h
       · rename_i t ht
         obtain rfl := Option.some.inj h
         obtain ⟨h1, h2⟩ := ZmP ks (j + 1) ht
         refine ⟨fun n c hc => ?_, fun n i hi => ?_⟩
         · rw [ZW] at hc
           split at hc
           · rename_i e
             subst e
             obtain rfl := Option.some.inj hc
             exact ⟨Nat.le_refl _, k, b, by rw [Nat.sub_self]; rfl, hb, hb1⟩
           · obtain ⟨q1, i, b', q2, q3, q4⟩ := h1 n c hc
             refine ⟨by omega, i, b', ?_, q3, q4⟩
             rw [show n - j = (n - (j + 1)) + 1 by omega, List.getElem?_cons_succ]; exact q2
         · cases n with
           | zero =>
             simp only [List.getElem?_cons_zero, Option.some.injEq] at hi
             subst hi
             exact ⟨b, b1, hb, hb1, by rw [ZW, if_pos (by omega)]⟩
           | succ n =>
             rw [List.getElem?_cons_succ] at hi
             obtain ⟨b', b1', q1, q2, q3⟩ := h2 n i hi
             exact ⟨b', b1', q1, q2, by rw [ZW, if_neg (by omega), show j + (n + 1) = j + 1 + n by omega]; exact q3⟩
       · exact absurd h (by simp)
     · exact absurd h (by simp)
   · exact absurd h (by simp)
theorem Zjd {ρ : Nat → Option Nat} {H1 H2 : AHeap} {m : Nat} : ∀ (ns : List Nat) {us : Ups}, unf ρ H1 H2 m ns = some us →
   (∀ n ∈ ns, ∃ i b b', ρ n = some i ∧ hget H2 n = some b ∧ goodB H1 m n b = true ∧ renB ρ b = some b' ∧ (i, b') ∈ us) ∧ us.map (fun p => some p.1) = ns.map ρ
 | [], us, h => by simp only [unf, Option.some.injEq] at h; subst h; exact ⟨fun n h => by simp at h, rfl⟩
 | n :: ns, us, h => by
   simp only [unf] at h
   split at h
   · rename_i i hi
     split at h
     · rename_i b hb
       split at h
       · rename_i hg
         split at h
         · rename_i b' hb'
           split at h
           · rename_i us' hu
             obtain rfl := Option.some.inj h
             obtain ⟨h1, h2⟩ := Zjd ns hu
             refine ⟨fun x hx => ?_, ?_⟩
             · rcases List.mem_cons.1 hx with rfl | hx
               · exact ⟨i, b, b', hi, hb, hg, hb', by simp⟩
               · obtain ⟨i2, b2, b3, q1, q2, q3, q4, q5⟩ := h1 x hx
                 exact ⟨i2, b2, b3, q1, q2, q3, q4, by simp [q5]⟩
             · rw [List.map_cons, List.map_cons, h2, hi]
           · exact absurd h (by simp)
         · exact absurd h (by simp)
       · exact absurd h (by simp)
     · exact absurd h (by simp)
   · exact absurd h (by simp)
theorem Z4X {H : AHeap} {B : Nat} : ∀ {n : Nat}, freeL H B n = true → ∀ j, j < n → hget H (B + j) = none
 | 0, _, j, hj => by omega
 | n + 1, h, j, hj => by
   simp only [freeL, Bool.and_eq_true, Option.isNone_iff_eq_none] at h
   by_cases e : j = n
   · rw [e]; exact h.1
   · exact Z4X h.2 j (by omega)
theorem Z9J {H : AHeap} {n : Nat} : ∀ {t B B' : Nat}, baseF H n t B = some B' → freeL H B' n = true
 | 0, _, _, h => by simp [baseF] at h
 | t + 1, B, B', h => by
   simp only [baseF] at h
   split at h
   · rename_i hf
     obtain rfl := Option.some.inj h
     exact hf
   · exact Z9J h
theorem ZOw (b : Blk) : renB some b = some b := by
 unfold renB
 split
 · rename_i hs
   rw [Z38]
   obtain ⟨st, cs⟩ := b
   simp only at hs
   subst hs
   rfl
 · rfl
theorem ZKX {C : Callee} (hC : CS P E C) {f : FuncId} {args : List AV} {H : AHeap} {B : Nat} {ks : List Nat} {r : AV} {H' : AHeap} (h : focus C f args H B ks = some (r, H'))
   (g : Gh) (vs : List Value) (hH : g.H = H) (hI : Inv E g) (hs : g.Rs args vs) : Calls P f vs.toArray g.w fun
     | .returned v, w' => ∃ g', g'.w = w' ∧ g'.H = H' ∧ Inv E g' ∧ Adv g g' ∧ g'.R r v
     | _, _ => False := by
 subst hH
 unfold focus at h
 split at h
 case isFalse => exact absurd h (by simp)
 rename_i hap
 split at h
 case h_2 => exact absurd h (by simp)
 rename_i args1 H1 e1 e2
 cases hc : C f args1 H1 64 with
 | none => rw [hc] at h; simp [backF] at h
 | some rH =>
 obtain ⟨r1, H2⟩ := rH
 rw [hc] at h
 simp only [backF] at h
 generalize hnw0 : newsF H2 r1 ks.length = news at h
 generalize hB0 : B = B0 at h
 split at h
 case h_2 => exact absurd h (by simp)
 rename_i B hB
 have hfr := Z9J hB
 split at h
 case isFalse => exact absurd h (by simp)
 rename_i hapn
 split at h
 case h_2 => exact absurd h (by simp)
 rename_i r' us e3 e4
 simp only [Option.some.injEq, Prod.mk.injEq] at h
 obtain ⟨rfl, rfl⟩ := h
 have hnd := Z2r hap
 have hndn := Z2r hapn
 have hnews : ∀ n ∈ news, ks.length ≤ n := by
   intro n hn
   rw [← hnw0] at hn
   exact of_decide_eq_true (List.mem_filter.1 hn).2
 obtain ⟨fs1, fs2⟩ := ZmP ks 0 e2
 generalize hg1 : (⟨fun j => g.mu (ks.getD j 0), g.fz, H1, g.w⟩ : Gh) = g1
 have g1H : g1.H = H1 := by rw [← hg1]
 have g1w : g1.w = g.w := by rw [← hg1]
 have g1f : g1.fz = g.fz := by rw [← hg1]
 have hmu1 : ∀ n i, ks[n]? = some i → g1.mu n = g.mu i := by
   intro n i h
   rw [← hg1]
   simp only [List.getD_eq_getElem?_getD, h, Option.getD_some]
 have hf1 : ∀ k, g.fz k → g1.fz k ∧ g1.w.heap[k]? = g.w.heap[k]? := fun k hk => ⟨by rw [g1f]; exact hk, by rw [g1w]⟩
 have hin : ∀ a a' v, AV.leaf a = true → ren (posF ks 0) a = some a' → v.oneCell' = true → RF g a v → RF g1 a' v := by
   intro a a' v hl e _ hv
   cases a <;> simp only [AV.leaf, Bool.false_eq_true] at hl <;> simp only [ren] at e <;> split at e <;> try (simp at e; done)
   all_goals
     rename_i n hn
     obtain rfl := Option.some.inj e
     have hk := (Z1T _ _ _ _ hn).2
     rw [Nat.sub_zero] at hk
     obtain ⟨b, b1, q1, q2, q3⟩ := fs2 n _ hk
     rw [Nat.zero_add] at q3
     simp only [RF] at hv ⊢
     obtain ⟨b0, p1, p2, p3⟩ := hv
     rw [q1] at p1
     obtain rfl := Option.some.inj p1
     obtain ⟨r1, r2⟩ := Z16 q2
     refine ⟨b1, by rw [g1H]; exact q3, ?_, ?_⟩
   · rw [r2]; exact p2
   · rw [r2, hmu1 _ _ hk, g1w]; exact p3
   · rw [r2]; exact p2
   · rw [r2, hmu1 _ _ hk]; exact p3
   · rw [r1]; exact p2
   · rw [hmu1 _ _ hk]; exact p3
 have hI1 : Inv E g1 := by
   refine ⟨fun n b1 h => ?_, fun n n' b b' h h' hne => ?_, fun n b h ho => ?_, fun n b h ho => ?_, fun k hk => ?_, fun k cells h => ?_⟩
   · rw [g1H] at h
     obtain ⟨_, i, b, q1, q2, q3⟩ := fs1 n b1 h
     rw [Nat.sub_zero] at q1
     exact Z5b (hmu1 n i q1) (by rw [g1w]) hf1 hin q3 (hI.blk i b q2)
   · rw [g1H] at h h'
     obtain ⟨_, i, c, q1, q2, _⟩ := fs1 n b h
     obtain ⟨_, i', c', q1', q2', _⟩ := fs1 n' b' h'
     rw [Nat.sub_zero] at q1 q1'
     rw [hmu1 n i q1, hmu1 n' i' q1']
     refine hI.inj i i' c c' q2 q2' fun e => hne ?_
     subst e
     have a1 := Z1k ks 0 i n hnd q1
     rw [Z1k ks 0 i n' hnd q1'] at a1
     have := Option.some.inj a1; omega
   · rw [g1H] at h
     obtain ⟨_, i, c, q1, q2, q3⟩ := fs1 n b h
     rw [Nat.sub_zero] at q1
     rw [hmu1 n i q1, g1f]
     exact hI.opn i c q2 (by rw [← (Z16 q3).1]; exact ho)
   · rw [g1H] at h
     obtain ⟨_, i, c, q1, q2, q3⟩ := fs1 n b h
     rw [Nat.sub_zero] at q1
     rw [hmu1 n i q1, g1f]
     exact hI.frz i c q2 (by rw [← (Z16 q3).1]; exact ho)
   · rw [g1f] at hk; rw [g1w]; exact hI.lt k hk
   · rw [g1f, g1w]; exact hI.glob k cells h
 have hs1 : g1.Rs args1 vs := Z4C hf1 hin args args1 vs e1 hs
 have hcall := hC f args1 H1 64 r1 H2 hc g1 vs g1H hI1 hs1
 rw [g1w] at hcall
 refine hcall.mono ?_
 intro e w' he
 cases e with
 | panicked => exact he.elim
 | outgrown => exact he.elim
 | returned v =>
 obtain ⟨g2, rfl, hH2, hI2, hA, hR⟩ := he
 generalize hρ : outF ks news B = ρ at e3 e4
 have hinvd : ∃ inv : Nat → Option Nat, (∀ n i, ρ n = some i → inv i = some n ∧ (n < ks.length ∨ n ∈ news)) ∧ (∀ i n, inv i = some n → ρ n = some i) ∧ (∀ n i : Nat, ks[n]? = some i → inv i = some n ∧ ρ n = some i) ∧ ∀ i n : Nat, inv i = some n → held g.H i → ks[n]? = some i := by
   refine ⟨fun i => match posF ks 0 i with
     | some n => some n
     | none => if B ≤ i then news[i - B]? else none, ?_, ?_, ?_, ?_⟩
   · intro n i h
     rw [← hρ] at h
     unfold outF at h
     split at h
     · rename_i hl
       have := Z1k ks 0 i n hnd h
       rw [Nat.zero_add] at this
       simp only [this]
       exact ⟨trivial, .inl hl⟩
     · split at h
       · rename_i j hj
         obtain rfl := Option.some.inj h
         have hjn := (Z1T _ _ _ _ hj).2
         rw [Nat.sub_zero] at hjn
         have hno : posF ks 0 (B + j) = none := by
           cases hp : posF ks 0 (B + j) with
           | none => rfl
           | some m =>
             have := (Z1T _ _ _ _ hp).2
             obtain ⟨b, _, q, _⟩ := fs2 _ _ this
             rw [Z4X hfr j (List.getElem?_eq_some_iff.1 hjn).1] at q
             exact absurd q (by simp)
         simp only [hno]
         rw [show B + j - B = j by omega, if_pos (by omega)]
         exact ⟨hjn, .inr (List.mem_of_getElem? hjn)⟩
       · exact absurd h (by simp)
   · intro i n h
     rw [← hρ]
     unfold outF
     cases hp : posF ks 0 i with
     | some m =>
       simp only [hp, Option.some.injEq] at h
       subst h
       have := (Z1T _ _ _ _ hp).2
       rw [Nat.sub_zero] at this
       rw [if_pos (List.getElem?_eq_some_iff.1 this).1]; exact this
     | none =>
       simp only [hp] at h
       split at h
       · rename_i hb
         have := hnews _ (List.mem_of_getElem? h)
         have hq := Z1k news 0 n (i - B) hndn h
         rw [Nat.zero_add] at hq
         rw [if_neg (by omega), hq]
         show some (B + (i - B)) = some i
         congr 1; omega
       · exact absurd h (by simp)
   · intro n i h
     have := Z1k ks 0 i n hnd h
     rw [Nat.zero_add] at this
     simp only [this, true_and]
     rw [← hρ]
     unfold outF
     rw [if_pos (List.getElem?_eq_some_iff.1 h).1]; exact h
   · intro i n h hh
     cases hp : posF ks 0 i with
     | some m =>
       simp only [hp, Option.some.injEq] at h
       subst h
       have := (Z1T _ _ _ _ hp).2
       rw [Nat.sub_zero] at this
       exact this
     | none =>
       simp only [hp] at h
       split at h
       · rename_i hb
         obtain ⟨b, hb2⟩ := hh
         have := Z4X hfr _ (List.getElem?_eq_some_iff.1 h).1
         rw [show B + (i - B) = i by omega, hb2] at this
         exact absurd this (by simp)
       · exact absurd h (by simp)
 obtain ⟨inv, hi1, hi2, hi3, hi4⟩ := hinvd
 obtain ⟨u1, u2⟩ := Zjd _ e4
 have hmem : ∀ n i, ρ n = some i → n ∈ List.range ks.length ++ news := by
   intro n i h
   rcases (hi1 n i h).2 with h | h
   · exact List.mem_append_left _ (List.mem_range.2 h)
   · exact List.mem_append_right _ h
 have hnsd : (List.range ks.length ++ news).Nodup := by
   rw [List.nodup_append]
   refine ⟨List.nodup_range, hndn, fun a ha b hb e => ?_⟩
   have := List.mem_range.1 ha
   have := hnews b hb
   omega
 have hund : (us.map (·.1)).Nodup := by
   have h1 : ((List.range ks.length ++ news).map ρ).Nodup := by
     unfold List.Nodup
     rw [List.pairwise_map]
     refine hnsd.imp_of_mem fun {a b} ha hb hne e => hne ?_
     obtain ⟨i, _, _, q, _⟩ := u1 a ha
     obtain ⟨j, _, _, q', _⟩ := u1 b hb
     rw [q, q'] at e
     obtain rfl := Option.some.inj e
     have := (hi1 a i q).1
     rw [(hi1 b i q').1] at this
     exact (Option.some.inj this).symm
   rw [← u2] at h1
   unfold List.Nodup at h1 ⊢
   rw [List.pairwise_map] at h1 ⊢
   exact h1.imp fun h e => h (by rw [e])
 have hk1 : ∀ n i, ρ n = some i → ∃ b b', hget H2 n = some b ∧ goodB H1 ks.length n b = true ∧ renB ρ b = some b' ∧ hget (upds g.H us) i = some b' := by
   intro n i h
   obtain ⟨i', b, b', q1, q2, q3, q4, q5⟩ := u1 n (hmem n i h)
   rw [h] at q1
   obtain rfl := Option.some.inj q1
   exact ⟨b, b', q2, q3, q4, Z1B us g.H hund _ q5⟩
 have hk2 : ∀ i, inv i = none → hget (upds g.H us) i = hget g.H i := by
   intro i h
   refine Zq us g.H i fun hm => ?_
   obtain ⟨p, hp, rfl⟩ := List.mem_map.1 hm
   have : some p.1 ∈ us.map (fun p => some p.1) := List.mem_map.2 ⟨p, hp, rfl⟩
   rw [u2] at this
   obtain ⟨n, _, hn⟩ := List.mem_map.1 this
   rw [(hi1 n _ hn).1] at h
   exact absurd h (by simp)
 generalize hg' : (⟨fun i => match inv i with | some n => g2.mu n | none => g.mu i, g2.fz, upds g.H us, g2.w⟩ : Gh) = g'
 have gH : g'.H = upds g.H us := by rw [← hg']
 have gw : g'.w = g2.w := by rw [← hg']
 have gf : g'.fz = g2.fz := by rw [← hg']
 have gm1 : ∀ i n, inv i = some n → g'.mu i = g2.mu n := by intro i n h; rw [← hg']; simp only [h]
 have gm2 : ∀ i, inv i = none → g'.mu i = g.mu i := by intro i h; rw [← hg']; simp only [h]
 have hout : ∀ a a' v, AV.leaf a = true → ren ρ a = some a' → v.oneCell' = true → RF g2 a v → RF g' a' v := by
   intro a a' v hl e _ hv
   cases a <;> simp only [AV.leaf, Bool.false_eq_true] at hl <;> simp only [ren] at e <;> split at e <;> try (simp at e; done)
   all_goals
     rename_i i hn
     obtain rfl := Option.some.inj e
     obtain ⟨b, b', q1, _, q3, q4⟩ := hk1 _ i hn
     simp only [RF] at hv ⊢
     obtain ⟨b0, p1, p2, p3⟩ := hv
     rw [hH2, q1] at p1
     obtain rfl := Option.some.inj p1
     obtain ⟨r1, r2⟩ := Z16 q3
     have hm := gm1 i _ (hi1 _ i hn).1
     refine ⟨b', by rw [gH]; exact q4, ?_, ?_⟩
   · rw [r2]; exact p2
   · rw [r2, hm, gw]; exact p3
   · rw [r2]; exact p2
   · rw [r2, hm]; exact p3
   · rw [r1]; exact p2
   · rw [hm]; exact p3
 have wr1 : ∀ k, wr g1 k → ∃ (n i : Nat) (b : Blk), ks[n]? = some i ∧ hget g.H i = some b ∧ b.st.open_ = true ∧ (g.mu i).1 = k := by
   rintro k ⟨n, b1, h, ho, e⟩
   rw [g1H] at h
   obtain ⟨_, i, b, q1, q2, q3⟩ := fs1 n b1 h
   rw [Nat.sub_zero] at q1
   exact ⟨n, i, b, q1, q2, by rw [← (Z16 q3).1]; exact ho, by rw [← hmu1 n i q1]; exact e⟩
 have wr1g : ∀ k, wr g1 k → wr g k := fun k h => by
   obtain ⟨_, i, b, _, q2, q3, q4⟩ := wr1 k h
   exact ⟨i, b, q2, q3, q4⟩
 have hold : ∀ k, k < g.w.heap.size → ¬ wr g1 k → g2.w.heap[k]? = g.w.heap[k]? := by
   intro k h1 h2
   have := hA.old k (by rw [g1w]; exact h1) h2
   rw [g1w] at this; exact this
 have hlt : ∀ i b, hget g.H i = some b → (g.mu i).1 < g.w.heap.size := fun i b h => (hI.blk i b h).lt
 have hnw : ∀ i b, hget g.H i = some b → inv i = none → ¬ wr g1 (g.mu i).1 := by
   intro i b h hi hw
   obtain ⟨n, i2, b2, q1, q2, _, q4⟩ := wr1 _ hw
   refine hI.inj i2 i b2 b q2 h (fun e => ?_) q4
   subst e
   rw [(hi3 n i2 q1).1] at hi
   exact absurd hi (by simp)
 have hnwf : ∀ k, g.fz k → ¬ wr g1 k := by
   intro k hk hw
   obtain ⟨i, b, q1, q2, q3⟩ := wr1g k hw
   exact hI.opn i b q1 q2 (by rw [q3]; exact hk)
 have hf2 : ∀ k, g2.fz k → g.fz k ∨ wr g1 k ∨ g.w.heap.size ≤ k := by
   intro k h
   have := hA.fz2 k h
   rw [g1f, g1w] at this; exact this
 have hf : ∀ k, g.fz k → g'.fz k ∧ g'.w.heap[k]? = g.w.heap[k]? := fun k hk =>
   ⟨by rw [gf]; exact hA.fz' k (by rw [g1f]; exact hk), by rw [gw]; exact hold k (hI.lt k hk) (hnwf k hk)⟩
 have hth : ∀ a a' v, AV.leaf a = true → ren some a = some a' → v.oneCell' = true → RF g a v → RF g' a' v := by
   intro a a' v hl e hv1 hv
   rw [ZlK] at e
   obtain rfl := Option.some.inj e
   have key : ∀ i, refsOf a = [i] → held g.H i → (∀ n, inv i = some n → ∃ a1, ren (posF ks 0) a = some a1 ∧ ren ρ a1 = some a) → (∃ n, inv i = some n) → RF g' a v := by
     intro i _ _ h2 ⟨n, hn⟩
     obtain ⟨a1, e1, e2⟩ := h2 n hn
     have hl1 : a1.leaf = true := by
       cases a <;> simp only [AV.leaf, Bool.false_eq_true] at hl <;> simp only [ren] at e1 <;> split at e1 <;> try (simp at e1; done)
       all_goals (obtain rfl := Option.some.inj e1; rfl)
     have h3 := hin a a1 v hl e1 hv1 hv
     have h4 : g1.R a1 v := by
       cases a1 <;> simp only [AV.leaf, Bool.false_eq_true] at hl1 <;> simp only [Gh.R, VR] <;> exact ⟨hv1, h3⟩
     have h5 := hA.vr a1 v h4
     have h6 : RF g2 a1 v := by
       cases a1 <;> simp only [AV.leaf, Bool.false_eq_true] at hl1 <;> simp only [Gh.R, VR] at h5 <;> exact h5.2
     exact hout a1 a v hl1 e2 hv1 h6
   cases a <;> simp only [AV.leaf, Bool.false_eq_true] at hl
   · rename_i i off len cap gl sz ex
     have hv0 := hv
     simp only [RF] at hv
     obtain ⟨b, p1, p2, p3⟩ := hv
     cases hi : inv i with
     | none =>
       simp only [RF]
       refine ⟨b, by rw [gH, hk2 i hi]; exact p1, p2, fun e => ?_⟩
       have eb : bsz g'.w (g.mu i).1 = bsz g.w (g.mu i).1 := by simp only [bsz, gw, hold _ (hlt i b p1) (hnw i b p1 hi)]
       rw [gm2 i hi, eb]
       exact p3 e
     | some n =>
       refine key i (by simp [refsOf]) ⟨b, p1⟩ (fun m hm => ?_) ⟨n, hi⟩
       have hk := hi4 i m hm ⟨b, p1⟩
       have := Z1k ks 0 i m hnd hk
       rw [Nat.zero_add] at this
       exact ⟨.ref m off len cap gl sz ex, by simp only [ren, this], by simp only [ren, hi2 i m hm]⟩
   · rename_i i off gl
     have hv0 := hv
     simp only [RF] at hv
     obtain ⟨b, p1, p2, p3⟩ := hv
     cases hi : inv i with
     | none =>
       simp only [RF]
       refine ⟨b, by rw [gH, hk2 i hi]; exact p1, p2, fun e => ?_⟩
       rw [gm2 i hi]
       exact p3 e
     | some n =>
       refine key i (by simp [refsOf]) ⟨b, p1⟩ (fun m hm => ?_) ⟨n, hi⟩
       have hk := hi4 i m hm ⟨b, p1⟩
       have := Z1k ks 0 i m hnd hk
       rw [Nat.zero_add] at this
       exact ⟨.ptr m off gl, by simp only [ren, this], by simp only [ren, hi2 i m hm]⟩
   · rename_i i
     have hv0 := hv
     simp only [RF] at hv
     obtain ⟨b, p1, p2, p3⟩ := hv
     cases hi : inv i with
     | none =>
       simp only [RF]
       refine ⟨b, by rw [gH, hk2 i hi]; exact p1, p2, ?_⟩
       rw [gm2 i hi]
       exact p3
     | some n =>
       refine key i (by simp [refsOf]) ⟨b, p1⟩ (fun m hm => ?_) ⟨n, hi⟩
       have hk := hi4 i m hm ⟨b, p1⟩
       have := Z1k ks 0 i m hnd hk
       rw [Nat.zero_add] at this
       exact ⟨.mapv m, by simp only [ren, this], by simp only [ren, hi2 i m hm]⟩
 have hcase : ∀ i b, hget g'.H i = some b → (inv i = none ∧ hget g.H i = some b) ∨ ∃ n b2, inv i = some n ∧ hget g2.H n = some b2 ∧ goodB H1 ks.length n b2 = true ∧ renB ρ b2 = some b := by
   intro i b h
   rw [gH] at h
   cases hi : inv i with
   | none => rw [hk2 i hi] at h; exact .inl ⟨rfl, h⟩
   | some n =>
     obtain ⟨b2, b', q1, q2, q3, q4⟩ := hk1 n i (hi2 i n hi)
     rw [q4] at h
     obtain rfl := Option.some.inj h
     exact .inr ⟨n, b2, rfl, by rw [hH2]; exact q1, q2, q3⟩
 have hsep : ∀ i n b b2, inv i = none → hget g.H i = some b → hget g2.H n = some b2 → goodB H1 ks.length n b2 = true → (g2.mu n).1 ≠ (g.mu i).1 := by
   intro i n b b2 hi hb hb2 hgood e
   have hl := hlt i b hb
   cases ho : b2.st.open_ with
   | true =>
     rcases hA.wr' _ ⟨n, b2, hb2, ho, rfl⟩ with hw | hw
     · rw [e] at hw; exact hnw i b hb hi hw
     · rw [g1w] at hw; omega
   | false =>
     unfold goodB at hgood
     rw [ho, Bool.false_or, Bool.and_eq_true, decide_eq_true_eq] at hgood
     obtain ⟨hn, hgood⟩ := hgood
     split at hgood
     · rename_i b0 hb0
       have hlen := of_decide_eq_true hgood
       obtain ⟨_, i2, c, q1, q2, q3⟩ := fs1 n b0 hb0
       rw [Nat.sub_zero] at q1
       have hvr := hA.vr (.ptr n 0 b0.cells.length) (.pointer (some ⟨(g1.mu n).1, (g1.mu n).2 + 0, none⟩)) (Z9m (by rw [g1H]; exact hb0) rfl)
       simp only [Gh.R, VR, RF] at hvr
       obtain ⟨_, b3, k1, _, k3⟩ := hvr
       rw [hb2] at k1
       obtain rfl := Option.some.inj k1
       have := k3 hlen
       simp only [Value.pointer.injEq, Option.some.injEq, Addr.mk.injEq] at this
       rw [← this.1, hmu1 n i2 q1] at e
       refine hI.inj i2 i c b q2 hb (fun e2 => ?_) e
       subst e2
       rw [(hi3 n i2 q1).1] at hi
       exact absurd hi (by simp)
     · exact absurd hgood (by simp)
 refine ⟨g', gw, gH, ⟨fun i b h => ?_, fun i j b b' h h' hne => ?_, fun i b h ho => ?_, fun i b h ho => ?_, fun k hk => ?_, fun k cells h => ?_⟩,
   ⟨fun a v h => Z5q hf hth a a v (ZlK a) h, ?_, ?_, ?_, ?_, ?_, ?_, ?_, ?_⟩, ?_⟩
 · rcases hcase i b h with ⟨hi, hb⟩ | ⟨n, b2, hi, hb2, _, hr⟩
   · exact Z5b (gm2 i hi) (by rw [gw]; exact hold _ (hlt i b hb) (hnw i b hb hi)) hf hth (ZOw b) (hI.blk i b hb)
   · exact Z5b (gm1 i n hi) (by rw [gw]) (fun k hk => ⟨by rw [gf]; exact hk, by rw [gw]⟩) hout hr (hI2.blk n b2 hb2)
 · rcases hcase i b h with ⟨hi, hb⟩ | ⟨n, b2, hi, hb2, hgd, hr⟩ <;> rcases hcase j b' h' with ⟨hj, hb'⟩ | ⟨m, c2, hj, hc2, hgd', hr'⟩
   · rw [gm2 i hi, gm2 j hj]; exact hI.inj i j b b' hb hb' hne
   · rw [gm2 i hi, gm1 j m hj]; exact fun e => hsep i m b c2 hi hb hc2 hgd' e.symm
   · rw [gm1 i n hi, gm2 j hj]; exact hsep j n b' b2 hj hb' hb2 hgd
   · rw [gm1 i n hi, gm1 j m hj]
     refine hI2.inj n m b2 c2 hb2 hc2 fun e => hne ?_
     subst e
     have := hi2 i n hi
     rw [hi2 j n hj] at this
     exact (Option.some.inj this).symm
 · rw [gf]
   rcases hcase i b h with ⟨hi, hb⟩ | ⟨n, b2, hi, hb2, hgd, hr⟩
   · rw [gm2 i hi]
     intro hz
     rcases hf2 _ hz with q | q | q
     · exact hI.opn i b hb ho q
     · exact hnw i b hb hi q
     · have := hlt i b hb; omega
   · rw [gm1 i n hi]; exact hI2.opn n b2 hb2 (by rw [← (Z16 hr).1]; exact ho)
 · rw [gf]
   rcases hcase i b h with ⟨hi, hb⟩ | ⟨n, b2, hi, hb2, hgd, hr⟩
   · rw [gm2 i hi]; exact hA.fz' _ (by rw [g1f]; exact hI.frz i b hb ho)
   · rw [gm1 i n hi]; exact hI2.frz n b2 hb2 (by rw [← (Z16 hr).1]; exact ho)
 · rw [gf] at hk; rw [gw]; exact hI2.lt k hk
 · rw [gf, gw]; exact hI2.glob k cells h
 · rw [gw, hA.os, g1w]
 · rw [gw, hA.tape, g1w]
 · rw [gw, hA.out, g1w]
 · have := hA.size; rw [g1w] at this; rw [gw]; exact this
 · intro k hk hw; rw [gw]; exact hold k hk fun h => hw (wr1g k h)
 · rintro k ⟨i, b, h, ho, e⟩
   rcases hcase i b h with ⟨hi, hb⟩ | ⟨n, b2, hi, hb2, hgd, hr⟩
   · rw [gm2 i hi] at e; exact .inl ⟨i, b, hb, ho, e⟩
   · rw [gm1 i n hi] at e
     rcases hA.wr' k ⟨n, b2, hb2, by rw [← (Z16 hr).1]; exact ho, e⟩ with q | q
     · exact .inl (wr1g k q)
     · rw [g1w] at q; exact .inr q
 · intro k hk; exact (hf k hk).1
 · intro k hk
   rw [gf] at hk
   rcases hf2 k hk with q | q | q
   · exact .inl q
   · exact .inr (.inl (wr1g k q))
   · exact .inr (.inr q)
 · exact Z5q (fun k hk => ⟨by rw [gf]; exact hk, by rw [gw]⟩) hout r1 r' v e3 hR
theorem ZFb {fr : FuncId → Bool} {C : Callee} (hC : CS P E C) : CS P E (frC fr C) := by
 intro f args H B r H' h g vs hH hI hs
 unfold frC at h
 split at h
 · exact ZKX hC h g vs hH hI hs
 · exact hC f args H B r H' h g vs hH hI hs
theorem Z7N (hE : EnvOK P E) (hm : P.follows .mixedOrders = true) (fr : FuncId → Bool) (fg : FuncId → Nat → List Nat) (N : Nat) : ∀ d, CS P E (callF E fr fg N d)
 | 0 => fun f args H B r H' h => by simp [callF] at h
 | d + 1 => ZxJ hE hm fg N (ZFb (Z7N hE hm fr fg N d))
end
end Go.AM
end
noncomputable section
namespace Go.AM
noncomputable section
variable {α : Type} {f : α → List AV} {sz : Nat}
end
def ics (l : List Int) : List AV := l.map (AV.int .i64)
theorem Z4 (l : List Int) : (ics l).length = l.length := by simp [ics]
theorem Z3y {l : List Int} {k : Nat} {z : Int} (h : l[k]? = some z) : (ics l)[k]? = some (.int .i64 z) := by simp [ics, h]
theorem Z4Y (l : List Int) (z : Int) : ics l ++ [.int .i64 z] = ics (l ++ [z]) := by simp [ics]
theorem ZLf (l : List Int) (n : Nat) : (ics l).take n = ics (l.take n) := by simp [ics]
theorem Z35 (l : List Int) (k : Nat) (z : Int) : (ics l).set k (.int .i64 z) = ics (l.set k z) := by simp [ics]
def oV (k sz n : Nat) : AV := match n with
 | 0 => .nilsl
 | n + 1 => .ref k 0 (n + 1) (n + 1) ((n + 1) * sz) sz false
def oH (k : Nat) (cells : List AV) : AHeap := match cells with
 | [] => []
 | c :: cs => [(k, ⟨.row, c :: cs⟩)]
theorem Z21 {C : Callee} {site : Nat → Nat} {seen : List Nat} {f : FuncId} {args : List AV} {id m c sz gl : Nat} {cells : List AV} {H' : AHeap} (h : C f args [] 0 = some (.ref id 0 m c gl sz false, H')) (hg : hget H' id = some ⟨.row, cells⟩) (hl : cells.length = gl) :
   aBack site true seen (thaw C f args [] 0) = Z0l (site 0) seen (fun k => .ref k 0 m c gl sz false) ⟨.row, cells⟩ := by
 subst hl
 simp only [thaw, h, frzRet, aBack, sitesB, aBackAt, imp, hg, List.length_nil, List.not_mem_nil, not_false_eq_true, and_true, if_true, List.map_cons, List.map_nil, AM.apart, List.elem_nil, Bool.not_false, Bool.and_true, AV.leads, Z0l]
theorem ZNJ (k : Nat) {c : List AV} (h : 0 < c.length) : oH k c = [(k, ⟨.row, c⟩)] := by
 cases c with
 | nil => simp at h
 | cons a c => rfl
end Go.AM
end
noncomputable section
namespace Go.AM.Ytfmnoohhhokicaa
open Go Go.AM
abbrev XQ (f n : Nat) (c a b : Code) : Prop := ∀ {C : Callee} {B N : Nat} {E0 : AHeap} {s : St}, execA E C (fg f) B n E0 N c s = seqX (execA E C (fg f) B n E0 N a s) (execA E C (fg f) B n E0 N b)
abbrev XG (f n : Nat) (c : Code) (r : Array Oper) (l : List Nat) : Prop := ∀ {C : Callee} {B N : Nat} {E0 : AHeap} {s : St}, execA E C (fg f) B n E0 N c s = regX (runA E C B n r r.toList s) (fun s => gcM E0 l (forget s.1 l, s.2))
abbrev XD (f n : Nat) (c : Code) (r : Array Oper) (l : List Nat) : Prop := ∀ {C : Callee} {B N : Nat} {E0 : AHeap} {s : St}, execA E C (fg f) B n E0 N c s = regX (drawA E C B n r s) (fun s => gcM E0 l (forget s.1 l, s.2))
abbrev XC (f n : Nat) (c : Code) (k : Nat) (t e : Code) : Prop := ∀ {C : Callee} {B N : Nat} {E0 : AHeap} {φ : AFr} {H : AHeap}, execA E C (fg f) B n E0 N c (φ, H) = condX (fget φ k) (execA E C (fg f) B n E0 N t (φ, H)) (execA E C (fg f) B n E0 N e (φ, H))
abbrev XS (n : Nat) (r : Array Oper) (o : Oper) (d : Option Nat) (x : Callee → Nat → AFr → AHeap → Rd (AV × Ups)) : Prop := ∀ {C : Callee} {B : Nat} {φ : AFr} {H : AHeap}, stepA E C B n r o (φ, H) = stp d φ H (x C B φ H)
abbrev XM (n : Nat) (r : Array Oper) (o : Oper) (d : Nat) (x : AFr → AV) : Prop := ∀ {C : Callee} {B : Nat} {φ : AFr} {H : AHeap}, stepA E C B n r o (φ, H) = some (fput φ d (x φ), H)
variable {C : Callee} {B N : Nat} {E0 : AHeap} (φ : AFr) (H : AHeap) (s : St)
theorem T_0 : E.T 0 = some ⟨.other, 1, 0, none⟩ := nf
theorem T_1 : E.T 1 = some ⟨.other, 1, 8, (some [.nilfunc])⟩ := nf
theorem T_2 : E.T 2 = some ⟨.int .i64, 1, 8, (some [.int .i64 0])⟩ := nf
theorem T_3 : E.T 3 = some ⟨.int .i64, 1, 8, (some [.int .i64 0])⟩ := nf
theorem T_4 : E.T 4 = some ⟨.bool, 1, 1, (some [.bool false])⟩ := nf
theorem T_5 : E.T 5 = some ⟨.int .u8, 1, 1, (some [.int .u8 0])⟩ := nf
theorem T_6 : E.T 6 = some ⟨.int .u8, 1, 1, (some [.int .u8 0])⟩ := nf
theorem T_7 : E.T 7 = some ⟨.struct [(0, 2, 1), (1, 3, 1), (2, 4, 1), (3, 6, 1)] false, 4, 24, (some [.int .i64 0, .int .i64 0, .bool false, .int .u8 0])⟩ := nf
theorem T_8 : E.T 8 = some ⟨.struct [(0, 2, 1), (1, 3, 1), (2, 4, 1), (3, 6, 1)] false, 4, 24, (some [.int .i64 0, .int .i64 0, .bool false, .int .u8 0])⟩ := nf
theorem T_9 : E.T 9 = some ⟨.str, 1, 16, (some [.str ⟨#[]⟩])⟩ := nf
theorem T_10 : E.T 10 = some ⟨.str, 1, 16, (some [.str ⟨#[]⟩])⟩ := nf
theorem T_11 : E.T 11 = some ⟨.str, 1, 16, (some [.str ⟨#[]⟩])⟩ := nf
theorem T_12 : E.T 12 = some ⟨.int .u64, 1, 8, (some [.int .u64 0])⟩ := nf
theorem T_13 : E.T 13 = some ⟨.struct [(0, 9, 1), (1, 12, 1)] false, 2, 24, (some [.str ⟨#[]⟩, .int .u64 0])⟩ := nf
theorem T_14 : E.T 14 = some ⟨.struct [(0, 9, 1), (1, 12, 1)] false, 2, 24, (some [.str ⟨#[]⟩, .int .u64 0])⟩ := nf
theorem T_15 : E.T 15 = some ⟨.other, 1, 8, (some [.nilptr])⟩ := nf
theorem T_16 : E.T 16 = some ⟨.other, 1, 8, (some [.nilptr])⟩ := nf
theorem T_17 : E.T 17 = some ⟨.other, 1, 8, (some [.nilptr])⟩ := nf
theorem T_18 : E.T 18 = some ⟨.struct [(0, 17, 1)] false, 1, 8, (some [.nilptr])⟩ := nf
theorem T_19 : E.T 19 = some ⟨.struct [(0, 17, 1)] false, 1, 8, (some [.nilptr])⟩ := nf
theorem T_20 : E.T 20 = some ⟨.other, 1, 16, none⟩ := nf
theorem T_21 : E.T 21 = some ⟨.int .i32, 1, 4, (some [.int .i32 0])⟩ := nf
theorem T_22 : E.T 22 = some ⟨.slice 3, 1, 24, (some [.nilsl])⟩ := nf
theorem T_23 : E.T 23 = some ⟨.other, 1, 8, (some [.nilfunc])⟩ := nf
theorem T_24 : E.T 24 = some ⟨.int .i64, 1, 8, (some [.int .i64 0])⟩ := nf
theorem T_25 : E.T 25 = some ⟨.other, 1, 0, none⟩ := nf
theorem T_26 : E.T 26 = some ⟨.other, 1, 8, (some [.nilfunc])⟩ := nf
theorem T_27 : E.T 27 = some ⟨.other, 1, 8, (some [.nilfunc])⟩ := nf
theorem T_28 : E.T 28 = some ⟨.other, 1, 8, (some [.nilfunc])⟩ := nf
theorem T_29 : E.T 29 = some ⟨.other, 1, 8, (some [.nilfunc])⟩ := nf
theorem T_30 : E.T 30 = some ⟨.other, 1, 8, (some [.nilfunc])⟩ := nf
theorem T_31 : E.T 31 = some ⟨.other, 1, 0, none⟩ := nf
theorem T_32 : E.T 32 = some ⟨.other, 1, 8, (some [.nilfunc])⟩ := nf
theorem T_33 : E.T 33 = some ⟨.other, 1, 0, none⟩ := nf
theorem T_34 : E.T 34 = some ⟨.other, 1, 8, (some [.nilfunc])⟩ := nf
theorem T_35 : E.T 35 = some ⟨.other, 1, 0, none⟩ := nf
theorem T_36 : E.T 36 = some ⟨.other, 1, 8, (some [.nilfunc])⟩ := nf
theorem T_37 : E.T 37 = some ⟨.other, 1, 8, (some [.nilfunc])⟩ := nf
theorem T_38 : E.T 38 = some ⟨.other, 1, 8, (some [.nilfunc])⟩ := nf
theorem T_39 : E.T 39 = some ⟨.slice 22, 1, 24, (some [.nilsl])⟩ := nf
theorem T_40 : E.T 40 = some ⟨.other, 1, 0, none⟩ := nf
theorem T_41 : E.T 41 = some ⟨.other, 1, 8, (some [.nilfunc])⟩ := nf
theorem T_42 : E.T 42 = some ⟨.other, 1, 8, (some [.nilfunc])⟩ := nf
theorem T_43 : E.T 43 = some ⟨.other, 1, 8, (some [.nilfunc])⟩ := nf
theorem T_44 : E.T 44 = some ⟨.other, 1, 8, (some [.nilfunc])⟩ := nf
theorem T_45 : E.T 45 = some ⟨.other, 1, 8, (some [.nilfunc])⟩ := nf
theorem T_46 : E.T 46 = some ⟨.other, 1, 8, (some [.nilfunc])⟩ := nf
theorem T_47 : E.T 47 = some ⟨.arr 6 5 true, 6, 6, (some [.int .u8 0, .int .u8 0, .int .u8 0, .int .u8 0, .int .u8 0, .int .u8 0])⟩ := nf
theorem T_48 : E.T 48 = some ⟨.struct [(0, 5, 1), (1, 5, 1), (2, 47, 6)] false, 8, 8, (some [.int .u8 0, .int .u8 0, .int .u8 0, .int .u8 0, .int .u8 0, .int .u8 0, .int .u8 0, .int .u8 0])⟩ := nf
theorem T_49 : E.T 49 = some ⟨.struct [(0, 5, 1), (1, 5, 1), (2, 47, 6)] false, 8, 8, (some [.int .u8 0, .int .u8 0, .int .u8 0, .int .u8 0, .int .u8 0, .int .u8 0, .int .u8 0, .int .u8 0])⟩ := nf
theorem T_50 : E.T 50 = some ⟨.other, 1, 8, (some [.nilfunc])⟩ := nf
theorem T_51 : E.T 51 = some ⟨.other, 1, 8, (some [.nilfunc])⟩ := nf
theorem T_52 : E.T 52 = some ⟨.other, 1, 8, (some [.nilfunc])⟩ := nf
theorem T_53 : E.T 53 = some ⟨.other, 1, 8, (some [.nilfunc])⟩ := nf
theorem T_54 : E.T 54 = some ⟨.other, 1, 8, (some [.nilfunc])⟩ := nf
theorem T_55 : E.T 55 = some ⟨.other, 1, 8, (some [.nilfunc])⟩ := nf
theorem T_56 : E.T 56 = some ⟨.other, 1, 8, (some [.nilfunc])⟩ := nf
theorem T_57 : E.T 57 = some ⟨.other, 1, 8, (some [.nilfunc])⟩ := nf
theorem T_58 : E.T 58 = some ⟨.other, 1, 8, (some [.nilfunc])⟩ := nf
theorem T_59 : E.T 59 = some ⟨.other, 1, 0, none⟩ := nf
theorem T_60 : E.T 60 = some ⟨.other, 1, 8, (some [.nilfunc])⟩ := nf
theorem T_61 : E.T 61 = some ⟨.other, 1, 8, (some [.nilfunc])⟩ := nf
theorem T_62 : E.T 62 = some ⟨.other, 1, 8, (some [.nilfunc])⟩ := nf
theorem T_63 : E.T 63 = some ⟨.other, 1, 8, (some [.nilfunc])⟩ := nf
theorem T_64 : E.T 64 = some ⟨.other, 1, 8, (some [.nilfunc])⟩ := nf
theorem T_65 : E.T 65 = some ⟨.other, 1, 8, (some [.nilfunc])⟩ := nf
theorem T_66 : E.T 66 = some ⟨.other, 1, 8, (some [.nilfunc])⟩ := nf
theorem T_67 : E.T 67 = some ⟨.other, 1, 8, (some [.nilfunc])⟩ := nf
theorem T_68 : E.T 68 = some ⟨.other, 1, 8, (some [.nilfunc])⟩ := nf
theorem T_69 : E.T 69 = some ⟨.other, 1, 8, (some [.nilfunc])⟩ := nf
theorem T_70 : E.T 70 = some ⟨.other, 1, 8, (some [.nilfunc])⟩ := nf
theorem T_71 : E.T 71 = some ⟨.other, 1, 8, (some [.nilfunc])⟩ := nf
theorem T_72 : E.T 72 = some ⟨.other, 1, 8, (some [.nilfunc])⟩ := nf
theorem T_73 : E.T 73 = some ⟨.other, 1, 8, (some [.nilfunc])⟩ := nf
theorem T_74 : E.T 74 = some ⟨.other, 1, 8, (some [.nilfunc])⟩ := nf
theorem T_75 : E.T 75 = some ⟨.arr 6 3 true, 6, 48, (some [.int .i64 0, .int .i64 0, .int .i64 0, .int .i64 0, .int .i64 0, .int .i64 0])⟩ := nf
theorem T_76 : E.T 76 = some ⟨.arr 6 3 true, 6, 48, (some [.int .i64 0, .int .i64 0, .int .i64 0, .int .i64 0, .int .i64 0, .int .i64 0])⟩ := nf
theorem T_77 : E.T 77 = some ⟨.other, 1, 8, (some [.nilfunc])⟩ := nf
theorem T_78 : E.T 78 = some ⟨.other, 1, 8, (some [.nilfunc])⟩ := nf
theorem T_79 : E.T 79 = some ⟨.other, 1, 8, (some [.nilfunc])⟩ := nf
theorem T_80 : E.T 80 = some ⟨.other, 1, 0, none⟩ := nf
theorem T_81 : E.T 81 = some ⟨.other, 1, 8, (some [.nilfunc])⟩ := nf
theorem T_82 : E.T 82 = some ⟨.other, 1, 8, (some [.nilfunc])⟩ := nf
theorem T_83 : E.T 83 = some ⟨.other, 1, 8, (some [.nilfunc])⟩ := nf
theorem T_84 : E.T 84 = some ⟨.other, 1, 8, (some [.nilfunc])⟩ := nf
theorem T_85 : E.T 85 = some ⟨.other, 1, 8, (some [.nilfunc])⟩ := nf
theorem T_86 : E.T 86 = some ⟨.other, 1, 8, (some [.nilfunc])⟩ := nf
theorem T_87 : E.T 87 = some ⟨.map 76 3 (.int .i64 0), 1, 8, (some [.nilmap])⟩ := nf
theorem T_88 : E.T 88 = some ⟨.other, 1, 0, none⟩ := nf
theorem T_89 : E.T 89 = some ⟨.other, 1, 8, (some [.nilfunc])⟩ := nf
theorem T_90 : E.T 90 = some ⟨.other, 1, 8, (some [.nilfunc])⟩ := nf
theorem T_91 : E.T 91 = some ⟨.other, 1, 8, (some [.nilfunc])⟩ := nf
theorem T_92 : E.T 92 = some ⟨.other, 1, 8, (some [.nilfunc])⟩ := nf
theorem T_93 : E.T 93 = some ⟨.slice 5, 1, 24, (some [.nilsl])⟩ := nf
theorem T_94 : E.T 94 = some ⟨.other, 1, 8, (some [.nilfunc])⟩ := nf
theorem T_95 : E.T 95 = some ⟨.other, 1, 8, (some [.nilfunc])⟩ := nf
theorem T_96 : E.T 96 = some ⟨.other, 1, 8, (some [.nilfunc])⟩ := nf
theorem T_97 : E.T 97 = some ⟨.other, 1, 8, (some [.nilfunc])⟩ := nf
theorem T_98 : E.T 98 = some ⟨.int .u64, 1, 8, (some [.int .u64 0])⟩ := nf
theorem T_99 : E.T 99 = some ⟨.other, 1, 8, (some [.nilfunc])⟩ := nf
theorem Z09G : E.T 100 = some ⟨.other, 1, 8, (some [.nilfunc])⟩ := nf
theorem Z084 : E.T 101 = some ⟨.slice 39, 1, 24, (some [.nilsl])⟩ := nf
theorem Z07B : E.T 102 = some ⟨.other, 1, 8, (some [.nilfunc])⟩ := nf
theorem Z08d : E.T 103 = some ⟨.other, 1, 8, (some [.nilfunc])⟩ := nf
theorem Z0aT : E.T 104 = some ⟨.other, 1, 8, (some [.nilfunc])⟩ := nf
theorem Z0aU : E.T 105 = some ⟨.int .i64, 1, 8, (some [.int .i64 0])⟩ := nf
theorem Z09n : E.T 106 = some ⟨.other, 1, 0, none⟩ := nf
theorem Z08E : E.T 107 = some ⟨.other, 1, 8, (some [.nilfunc])⟩ := nf
theorem Z0ai : E.T 108 = some ⟨.other, 1, 8, (some [.nilfunc])⟩ := nf
theorem Z09T : E.T 109 = some ⟨.other, 1, 8, (some [.nilfunc])⟩ := nf
theorem Z08v : E.T 110 = some ⟨.other, 1, 8, (some [.nilfunc])⟩ := nf
theorem Z08P : E.T 111 = some ⟨.other, 1, 8, (some [.nilfunc])⟩ := nf
theorem Z08Z : E.T 112 = some ⟨.int .u32, 1, 4, (some [.int .u32 0])⟩ := nf
theorem Z07z : E.T 113 = some ⟨.other, 1, 8, (some [.nilfunc])⟩ := nf
theorem Z08S : E.T 114 = some ⟨.int .u64, 1, 8, (some [.int .u64 0])⟩ := nf
theorem Z0az : E.T 115 = some ⟨.other, 1, 8, (some [.nilptr])⟩ := nf
theorem Z09f : E.T 116 = some ⟨.other, 1, 8, (some [.nilfunc])⟩ := nf
theorem Z098 : E.T 117 = some ⟨.other, 1, 8, (some [.nilfunc])⟩ := nf
theorem Z09C : E.T 118 = some ⟨.other, 1, 8, (some [.nilfunc])⟩ := nf
theorem Z08o : E.T 119 = some ⟨.other, 1, 8, (some [.nilfunc])⟩ := nf
theorem Z0b1 : E.T 120 = some ⟨.other, 1, 8, (some [.nilfunc])⟩ := nf
theorem Z07H : E.T 121 = some ⟨.int .u64, 1, 8, (some [.int .u64 0])⟩ := nf
theorem Z08W : E.T 122 = some ⟨.other, 1, 8, (some [.nilfunc])⟩ := nf
theorem Z08i : E.T 123 = some ⟨.other, 1, 8, (some [.nilfunc])⟩ := nf
theorem Z09k : E.T 124 = some ⟨.other, 1, 8, (some [.nilfunc])⟩ := nf
theorem Z0ax : E.T 125 = some ⟨.other, 1, 8, (some [.nilptr])⟩ := nf
theorem Z09P : E.T 126 = some ⟨.other, 1, 8, (some [.nilfunc])⟩ := nf
theorem Z08Q : E.T 127 = some ⟨.other, 1, 8, (some [.nilfunc])⟩ := nf
theorem Z0aW : E.T 128 = some ⟨.other, 1, 8, (some [.nilfunc])⟩ := nf
theorem Z0au : E.T 129 = some ⟨.other, 1, 8, (some [.nilptr])⟩ := nf
theorem Z09j : E.T 130 = some ⟨.other, 1, 0, none⟩ := nf
theorem Z09M : E.T 131 = some ⟨.other, 1, 8, (some [.nilfunc])⟩ := nf
theorem Z0aj : E.T 132 = some ⟨.other, 1, 8, (some [.nilfunc])⟩ := nf
theorem Z0ah : E.T 133 = some ⟨.other, 1, 8, (some [.nilfunc])⟩ := nf
theorem Z07X : E.T 134 = some ⟨.struct [(0, 17, 1), (1, 17, 1), (2, 17, 1), (3, 9, 1)] false, 4, 40, (some [.nilptr, .nilptr, .nilptr, .str ⟨#[]⟩])⟩ := nf
theorem Z08U : E.T 135 = some ⟨.struct [(0, 17, 1), (1, 17, 1), (2, 17, 1), (3, 9, 1)] false, 4, 40, (some [.nilptr, .nilptr, .nilptr, .str ⟨#[]⟩])⟩ := nf
theorem Z07N : E.T 136 = some ⟨.arr 0 16 false, 0, 0, (some [])⟩ := nf
theorem Z08L : E.T 137 = some ⟨.struct [(0, 136, 0)] false, 0, 0, (some [])⟩ := nf
theorem Z07D : E.T 138 = some ⟨.struct [(0, 136, 0)] false, 0, 0, (some [])⟩ := nf
theorem Z097 : E.T 139 = some ⟨.other, 1, 8, (some [.nilfunc])⟩ := nf
theorem Z0as : E.T 140 = some ⟨.int .u8, 1, 1, (some [.int .u8 0])⟩ := nf
theorem Z0aY : E.T 141 = some ⟨.int .u8, 1, 1, (some [.int .u8 0])⟩ := nf
theorem Z0aw : E.T 142 = some ⟨.other, 1, 8, (some [.nilfunc])⟩ := nf
theorem Z0aN : E.T 143 = some ⟨.other, 1, 8, (some [.nilptr])⟩ := nf
theorem Z09W : E.T 144 = some ⟨.int .i32, 1, 4, (some [.int .i32 0])⟩ := nf
theorem Z09h : E.T 145 = some ⟨.int .i32, 1, 4, (some [.int .i32 0])⟩ := nf
theorem Z08R : E.T 146 = some ⟨.struct [(0, 12, 1), (1, 12, 1), (2, 112, 1), (3, 140, 1), (4, 5, 1), (5, 5, 1), (6, 141, 1), (7, 142, 1), (8, 143, 1), (9, 144, 1), (10, 145, 1)] false, 11, 48, (some [.int .u64 0, .int .u64 0, .int .u32 0, .int .u8 0, .int .u8 0, .int .u8 0, .int .u8 0, .nilfunc, .nilptr, .int .i32 0, .int .i32 0])⟩ := nf
theorem Z09d : E.T 147 = some ⟨.struct [(0, 12, 1), (1, 12, 1), (2, 112, 1), (3, 140, 1), (4, 5, 1), (5, 5, 1), (6, 141, 1), (7, 142, 1), (8, 143, 1), (9, 144, 1), (10, 145, 1)] false, 11, 48, (some [.int .u64 0, .int .u64 0, .int .u32 0, .int .u8 0, .int .u8 0, .int .u8 0, .int .u8 0, .nilfunc, .nilptr, .int .i32 0, .int .i32 0])⟩ := nf
theorem Z096 : E.T 148 = some ⟨.other, 1, 8, (some [.nilptr])⟩ := nf
abbrev ZT := And.intro (And.intro (And.intro (And.intro (And.intro (And.intro (And.intro @T_0 @T_1) (And.intro @T_2 @T_3)) (And.intro (And.intro @T_4 @T_5) (And.intro @T_6 (And.intro @T_7 @T_8)))) (And.intro (And.intro (And.intro @T_9 @T_10) (And.intro @T_11 @T_12)) (And.intro (And.intro @T_13 @T_14) (And.intro @T_15 (And.intro @T_16 @T_17))))) (And.intro (And.intro (And.intro (And.intro @T_18 @T_19) (And.intro @T_20 @T_21)) (And.intro (And.intro @T_22 @T_23) (And.intro @T_24 (And.intro @T_25 @T_26)))) (And.intro (And.intro (And.intro @T_27 @T_28) (And.intro @T_29 (And.intro @T_30 @T_31))) (And.intro (And.intro @T_32 @T_33) (And.intro @T_34 (And.intro @T_35 @T_36)))))) (And.intro (And.intro (And.intro (And.intro (And.intro @T_37 @T_38) (And.intro @T_39 @T_40)) (And.intro (And.intro @T_41 @T_42) (And.intro @T_43 (And.intro @T_44 @T_45)))) (And.intro (And.intro (And.intro @T_46 @T_47) (And.intro @T_48 @T_49)) (And.intro (And.intro @T_50 @T_51) (And.intro @T_52 (And.intro @T_53 @T_54))))) (And.intro (And.intro (And.intro (And.intro @T_55 @T_56) (And.intro @T_57 @T_58)) (And.intro (And.intro @T_59 @T_60) (And.intro @T_61 (And.intro @T_62 @T_63)))) (And.intro (And.intro (And.intro @T_64 @T_65) (And.intro @T_66 (And.intro @T_67 @T_68))) (And.intro (And.intro @T_69 @T_70) (And.intro @T_71 (And.intro @T_72 @T_73))))))) (And.intro (And.intro (And.intro (And.intro (And.intro (And.intro @T_74 @T_75) (And.intro @T_76 @T_77)) (And.intro (And.intro @T_78 @T_79) (And.intro @T_80 (And.intro @T_81 @T_82)))) (And.intro (And.intro (And.intro @T_83 @T_84) (And.intro @T_85 @T_86)) (And.intro (And.intro @T_87 @T_88) (And.intro @T_89 (And.intro @T_90 @T_91))))) (And.intro (And.intro (And.intro (And.intro @T_92 @T_93) (And.intro @T_94 @T_95)) (And.intro (And.intro @T_96 @T_97) (And.intro @T_98 (And.intro @T_99 @Z09G)))) (And.intro (And.intro (And.intro @Z084 @Z07B) (And.intro @Z08d (And.intro @Z0aT @Z0aU))) (And.intro (And.intro @Z09n @Z08E) (And.intro @Z0ai (And.intro @Z09T @Z08v)))))) (And.intro (And.intro (And.intro (And.intro (And.intro @Z08P @Z08Z) (And.intro @Z07z @Z08S)) (And.intro (And.intro @Z0az @Z09f) (And.intro @Z098 (And.intro @Z09C @Z08o)))) (And.intro (And.intro (And.intro @Z0b1 @Z07H) (And.intro @Z08W (And.intro @Z08i @Z09k))) (And.intro (And.intro @Z0ax @Z09P) (And.intro @Z08Q (And.intro @Z0aW @Z0au))))) (And.intro (And.intro (And.intro (And.intro @Z09j @Z09M) (And.intro @Z0aj @Z0ah)) (And.intro (And.intro @Z07X @Z08U) (And.intro @Z07N (And.intro @Z08L @Z07D)))) (And.intro (And.intro (And.intro @Z097 @Z0as) (And.intro @Z0aY (And.intro @Z0aw @Z0aN))) (And.intro (And.intro @Z09W @Z09h) (And.intro @Z08R (And.intro @Z09d @Z096)))))))
def Z9c := kBody Proofs.Try.f25
def ZyP := kL Z9c
def Zhq := kO ZyP
def Zxg := opN Zhq 0
theorem Z09b : XG 25 40 ZyP Zhq [2] := Z1 (by rfl) (by rfl) _
theorem ZQz : Zhq.toList = [Zxg] := nf
theorem ZTn : stepA E C B 40 Zhq Zxg (φ, H) = some (fput φ 2 (.int .i64 0), H) := nf
def ZhG := kR Z9c
def ZyE := kL ZhG
def Zib := kB ZyE
def Zzz := kL Zib
def Z2j := kO Zzz
def ZsY := opN Z2j 0
def Zvw := opN Z2j 1
def ZwY := opN Z2j 2
def Zvn := opN Z2j 3
theorem Z07S : XG 25 40 Zzz Z2j [6, 7, 8] := Z1 (by rfl) (by rfl) _
theorem ZTW : Z2j.toList = [ZsY, Zvw, ZwY, Zvn] := nf
theorem ZYK : stepA E C B 40 Z2j ZsY (φ, H) = some (fput φ 6 (fget φ 0), H) := nf
theorem ZST : stepA E C B 40 Z2j Zvw (φ, H) = stp (some 7) φ H (Z3 E.T (B + 7) .len #[22] [(fget φ 6)]) := nf
theorem ZXo : stepA E C B 40 Z2j ZwY (φ, H) = stp (some 8) φ H (just (aBin E.T .eql 3 (fget φ 7) (.int .i64 0))) := nf
theorem ZUK : stepA E C B 40 Z2j Zvn (φ, H) = some (fput φ 5 (fget φ 8), H) := nf
def ZhE := kR Zib
def ZhL := kT ZhE
def Zzf := kL ZhL
def Zi9 := kO Zzf
def ZxX := opN Zi9 0
theorem Z08C : XG 25 40 Zzf Zi9 [0, 5] := Z1 (by rfl) (by rfl) _
theorem ZSB : Zi9.toList = [ZxX] := nf
theorem ZVo : stepA E C B 40 Zi9 ZxX (φ, H) = some (fput φ 2 (.int .i64 4), H) := nf
def ZNG := kR ZhL
theorem Z07C : execA E C (fg 25) B 40 E0 N ZNG s = some (.ret, s) := Zk (by rfl) s
theorem Z0aV : XQ 25 40 ZhL Zzf ZNG := Z0 (by rfl) _
def Zad := kE ZhE
def Zn9 := kL Zad
def Z2p := kO Zn9
def ZtE := opN Z2p 0
def Zw6 := opN Z2p 1
def Zxs := opN Z2p 2
def ZwH := opN Z2p 3
theorem Z03j : XG 25 40 Zn9 Z2p [5, 10, 11, 12] := Z1 (by rfl) (by rfl) _
theorem ZR3 : Z2p.toList = [ZtE, Zw6, Zxs, ZwH] := nf
theorem ZO1 : stepA E C B 40 Z2p ZtE (φ, H) = some (fput φ 10 (fget φ 0), H) := nf
theorem ZOG : stepA E C B 40 Z2p Zw6 (φ, H) = stp (some 11) φ H (Z3 E.T (B + 11) .len #[22] [(fget φ 10)]) := nf
theorem ZOP : stepA E C B 40 Z2p Zxs (φ, H) = stp (some 12) φ H (just (aBin E.T .gtr 3 (fget φ 11) (.int .i64 6))) := nf
theorem ZYM : stepA E C B 40 Z2p ZwH (φ, H) = some (fput φ 9 (fget φ 12), H) := nf
def ZaW := kR Zad
def ZaC := kT ZaW
def ZlM := kL ZaC
def ZhR := kO ZlM
def Ztm := opN ZhR 0
theorem Z02A : XG 25 40 ZlM ZhR [0, 9] := Z1 (by rfl) (by rfl) _
theorem ZRY : ZhR.toList = [Ztm] := nf
theorem ZVd : stepA E C B 40 ZhR Ztm (φ, H) = some (fput φ 2 (.int .i64 3), H) := nf
def ZDB := kR ZaC
theorem Z06p : execA E C (fg 25) B 40 E0 N ZDB s = some (.ret, s) := Zk (by rfl) s
theorem Z06B : XQ 25 40 ZaC ZlM ZDB := Z0 (by rfl) _
def ZCs := kE ZaW
theorem Z01c : execA E C (fg 25) B 40 E0 N ZCs s = some (.normal, s) := Zb (by rfl) s
theorem Z03l : XC 25 40 ZaW 9 ZaC ZCs := Z8 (by rfl) _
theorem Z04N : XQ 25 40 Zad Zn9 ZaW := Z0 (by rfl) _
theorem Z0aa : XC 25 40 ZhE 5 ZhL Zad := Z8 (by rfl) _
theorem Z07Z : XQ 25 40 Zib Zzz ZhE := Z0 (by rfl) _
theorem Z07x : execA E C (fg 25) B 40 E0 N ZyE s = blockX 0 (fun s => (forget s.1 [9], s.2)) (execA E C (fg 25) B 40 E0 N Zib s) := Za (by rfl) (by rfl) s
def Z9w := kR ZhG
def Zaj := kL Z9w
def ZpZ := kL Zaj
def Z3N := kO ZpZ
def Zuk := opN Z3N 0
def ZxR := opN Z3N 1
def ZtU := opN Z3N 2
theorem Z074 : XG 25 40 ZpZ Z3N [] := Z1 (by rfl) (by rfl) _
theorem ZX1 : Z3N.toList = [Zuk, ZxR, ZtU] := nf
theorem ZOL : stepA E C B 40 Z3N Zuk (φ, H) = some (fput φ 13 (fget φ 0), H) := nf
theorem ZVL : stepA E C B 40 Z3N ZxR (φ, H) = stp (some 14) φ H (Z3 E.T (B + 14) .len #[22] [(fget φ 13)]) := nf
theorem ZSM : stepA E C B 40 Z3N ZtU (φ, H) = some (fput φ 15 (.int .i64 0), H) := nf
def ZmE := kR Zaj
def Znb := kB ZmE
def Z3F := kB Znb
def Zly := kL Z3F
def Zho := kO Zly
def Zyd := opN Zho 0
theorem Z01m : XG 25 40 Zly Zho [] := Z1 (by rfl) (by rfl) _
theorem ZTx : Zho.toList = [Zyd] := nf
theorem ZRg : stepA E C B 40 Zho Zyd (φ, H) = stp (some 16) φ H (just (aBin E.T .lss 3 (fget φ 15) (fget φ 14))) := nf
def Z95 := kR Z3F
def ZaG := kL Z95
def ZC0 := kT ZaG
theorem Z03y : execA E C (fg 25) B 40 E0 N ZC0 s = some (.normal, s) := Zb (by rfl) s
def ZAh := kE ZaG
theorem Z03K : execA E C (fg 25) B 40 E0 N ZAh s = some (.exit 1, s) := ZP (by rfl) s
theorem Z04D : XC 25 40 ZaG 16 ZC0 ZAh := Z8 (by rfl) _
def ZaL := kR Z95
def ZkV := kL ZaL
def Za4 := kB ZkV
def Zmz := kL Za4
def Z1D := kO Zmz
def ZxY := opN Z1D 0
def ZuK := opN Z1D 1
def ZxT := opN Z1D 2
def Zx0 := opN Z1D 3
def ZuB := opN Z1D 4
theorem Z03x : XG 25 40 Zmz Z1D [16, 17, 18, 19] := Z1 (by rfl) (by rfl) _
theorem ZUp : Z1D.toList = [ZxY, ZuK, ZxT, Zx0, ZuB] := nf
theorem ZXF : stepA E C B 40 Z1D ZxY (φ, H) = some (fput φ 17 (fget φ 15), H) := nf
theorem ZO7 : stepA E C B 40 Z1D ZuK (φ, H) = stp (some 18) φ H (just (Z2 E.T 22 (fget φ 13) (fget φ 15))) := nf
theorem ZUB : stepA E C B 40 Z1D ZxT (φ, H) = stp (some 19) φ H (just (aLoad E.T 3 (fget φ 18))) := nf
theorem ZQF : stepA E C B 40 Z1D Zx0 (φ, H) = some (fput φ 3 (fget φ 17), H) := nf
theorem ZWN : stepA E C B 40 Z1D ZuB (φ, H) = some (fput φ 4 (fget φ 19), H) := nf
def Zl7 := kR Za4
def Z8P := kB Zl7
def ZjH := kL Z8P
def Z0J := kO ZjH
def Zt4 := opN Z0J 0
def Zs4 := opN Z0J 1
def Z6P := opN Z0J 2
def Zwf := opN Z0J 3
def Zy9 := opN Z0J 4
def Zxi := opN Z0J 5
def Zu5 := opN Z0J 6
theorem Z05O : XG 25 40 ZjH Z0J [21, 22, 23, 24, 25, 26] := Z1 (by rfl) (by rfl) _
theorem ZXb : Z0J.toList = [Zt4, Zs4, Z6P, Zwf, Zy9, Zxi, Zu5] := nf
theorem Z008 : stepA E C B 40 Z0J Zt4 (φ, H) = some (fput φ 21 (fget φ 4), H) := nf
theorem ZOl : stepA E C B 40 Z0J Zs4 (φ, H) = stp (some 22) φ H (just (aBin E.T .lss 3 (fget φ 21) (.int .i64 0))) := nf
theorem ZRG : stepA E C B 40 Z0J Z6P (φ, H) = some (fput φ 23 (fget φ 22), H) := nf
theorem ZUL : stepA E C B 40 Z0J Zwf (φ, H) = gd φ 23 false (fun φ => some (fput φ 24 (.tup []), H)) (fun φ => some (fput φ 24 (fget φ 4), H)) := s_gd (j := 2) (oj := Z6P) rfl rfl rfl (fun _ => rfl) (fun _ => rfl)
theorem ZPX : stepA E C B 40 Z0J Zy9 (φ, H) = gd φ 23 false (fun φ => some (fput φ 25 (.tup []), H)) (fun φ => stp (some 25) φ H (just (aBin E.T .gtr 3 (fget φ 24) (.int .i64 8)))) := s_gd (j := 2) (oj := Z6P) rfl rfl rfl (fun _ => rfl) (fun _ => rfl)
theorem ZWL : stepA E C B 40 Z0J Zxi (φ, H) = stp (some 26) φ H (opPick (fget φ 23) (.bool true) (fget φ 25)) := nf
theorem ZWu : stepA E C B 40 Z0J Zu5 (φ, H) = some (fput φ 20 (fget φ 26), H) := nf
def Zbn := kR Z8P
def Z8W := kT Zbn
def ZnB := kL Z8W
def Zir := kO ZnB
def ZtR := opN Zir 0
theorem Z04Q : XG 25 40 ZnB Zir [0, 3, 4, 13, 14, 15, 20] := Z1 (by rfl) (by rfl) _
theorem ZPV : Zir.toList = [ZtR] := nf
theorem ZOh : stepA E C B 40 Zir ZtR (φ, H) = some (fput φ 2 (.int .i64 1), H) := nf
def ZD9 := kR Z8W
theorem Z02x : execA E C (fg 25) B 40 E0 N ZD9 s = some (.ret, s) := Zk (by rfl) s
theorem Z00l : XQ 25 40 Z8W ZnB ZD9 := Z0 (by rfl) _
def Z9a := kE Zbn
def Zkj := kL Z9a
def Zy := kO Zkj
def ZiR := opN Zy 0
def Zj4 := opN Zy 1
def Z0T := opN Zy 2
def Zm3 := opN Zy 3
def Zqv := opN Zy 4
def ZjT := opN Zy 5
def ZmS := opN Zy 6
def ZmF := opN Zy 7
def ZqI := opN Zy 8
def Zj1 := opN Zy 9
def Zg1 := opN Zy 10
def ZeQ := opN Zy 11
theorem Z05B : XG 25 40 Zkj Zy [3, 4, 20, 28, 29, 30, 31, 32, 33, 34, 35, 36, 37, 38] := Z1 (by rfl) (by rfl) _
theorem ZHE : Zy.toList = [ZiR, Zj4, Z0T, Zm3, Zqv, ZjT, ZmS, ZmF, ZqI, Zj1, Zg1, ZeQ] := nf
theorem ZHH : stepA E C B 40 Zy ZiR (φ, H) = some (fput φ 28 (fget φ 3), H) := nf
theorem ZNd : stepA E C B 40 Zy Zj4 (φ, H) = stp (some 29) φ H (just (aBin E.T .gtr 3 (fget φ 28) (.int .i64 0))) := nf
theorem ZL8 : stepA E C B 40 Zy Z0T (φ, H) = some (fput φ 30 (fget φ 29), H) := nf
theorem ZKH : stepA E C B 40 Zy Zm3 (φ, H) = gd φ 30 true (fun φ => some (fput φ 31 (.tup []), H)) (fun φ => some (fput φ 31 (fget φ 4), H)) := s_gd (j := 2) (oj := Z0T) rfl rfl rfl (fun _ => rfl) (fun _ => rfl)
theorem ZIF : stepA E C B 40 Zy Zqv (φ, H) = gd φ 30 true (fun φ => some (fput φ 32 (.tup []), H)) (fun φ => some (fput φ 32 (fget φ 0), H)) := s_gd (j := 2) (oj := Z0T) rfl rfl rfl (fun _ => rfl) (fun _ => rfl)
theorem ZIm : stepA E C B 40 Zy ZjT (φ, H) = gd φ 30 true (fun φ => some (fput φ 33 (.tup []), H)) (fun φ => some (fput φ 33 (fget φ 3), H)) := s_gd (j := 2) (oj := Z0T) rfl rfl rfl (fun _ => rfl) (fun _ => rfl)
theorem ZJK : stepA E C B 40 Zy ZmS (φ, H) = gd φ 30 true (fun φ => some (fput φ 34 (.tup []), H)) (fun φ => stp (some 34) φ H (just (aBin E.T .sub 3 (fget φ 33) (.int .i64 1)))) := s_gd (j := 2) (oj := Z0T) rfl rfl rfl (fun _ => rfl) (fun _ => rfl)
theorem ZMY : stepA E C B 40 Zy ZmF (φ, H) = gd φ 30 true (fun φ => some (fput φ 35 (.tup []), H)) (fun φ => stp (some 35) φ H (just (Z2 E.T 22 (fget φ 32) (fget φ 34)))) := s_gd (j := 2) (oj := Z0T) rfl rfl rfl (fun _ => rfl) (fun _ => rfl)
theorem ZHb : stepA E C B 40 Zy ZqI (φ, H) = gd φ 30 true (fun φ => some (fput φ 36 (.tup []), H)) (fun φ => stp (some 36) φ H (just (aLoad E.T 3 (fget φ 35)))) := s_gd (j := 2) (oj := Z0T) rfl rfl rfl (fun _ => rfl) (fun _ => rfl)
theorem ZKc : stepA E C B 40 Zy Zj1 (φ, H) = gd φ 30 true (fun φ => some (fput φ 37 (.tup []), H)) (fun φ => stp (some 37) φ H (just (aBin E.T .gtr 3 (fget φ 31) (fget φ 36)))) := s_gd (j := 2) (oj := Z0T) rfl rfl rfl (fun _ => rfl) (fun _ => rfl)
theorem ZFr : stepA E C B 40 Zy Zg1 (φ, H) = stp (some 38) φ H (opPick (fget φ 30) (fget φ 37) (.bool false)) := nf
theorem ZEk : stepA E C B 40 Zy ZeQ (φ, H) = some (fput φ 27 (fget φ 38), H) := nf
def Zao := kR Z9a
def Zay := kT Zao
def ZpS := kL Zay
def Z8p := kO ZpS
def Znw := opN Z8p 0
theorem Z00t : XG 25 40 ZpS Z8p [0, 13, 14, 15, 27] := Z1 (by rfl) (by rfl) _
theorem ZKs : Z8p.toList = [Znw] := nf
theorem ZGb : stepA E C B 40 Z8p Znw (φ, H) = some (fput φ 2 (.int .i64 7), H) := nf
def ZFs := kR Zay
theorem Z00o : execA E C (fg 25) B 40 E0 N ZFs s = some (.ret, s) := Zk (by rfl) s
theorem Z02W : XQ 25 40 Zay ZpS ZFs := Z0 (by rfl) _
def ZFl := kE Zao
theorem Z01Y : execA E C (fg 25) B 40 E0 N ZFl s = some (.normal, s) := Zb (by rfl) s
theorem Z04e : XC 25 40 Zao 27 Zay ZFl := Z8 (by rfl) _
theorem Z06A : XQ 25 40 Z9a Zkj Zao := Z0 (by rfl) _
theorem Z016 : XC 25 40 Zbn 20 Z8W Z9a := Z8 (by rfl) _
theorem Z05L : XQ 25 40 Z8P ZjH Zbn := Z0 (by rfl) _
theorem Z02u : execA E C (fg 25) B 40 E0 N Zl7 s = blockX 3 (fun s => (forget s.1 [27], s.2)) (execA E C (fg 25) B 40 E0 N Z8P s) := Za (by rfl) (by rfl) s
theorem Z00k : XQ 25 40 Za4 Zmz Zl7 := Z0 (by rfl) _
theorem Z03o : execA E C (fg 25) B 40 E0 N ZkV s = blockX 2 (fun s => (forget s.1 [], s.2)) (execA E C (fg 25) B 40 E0 N Za4 s) := Za (by rfl) (by rfl) s
def Zq2 := kR ZaL
def Z4F := kO Zq2
def Zj7 := opN Z4F 0
def ZnI := opN Z4F 1
theorem Z04L : XG 25 40 Zq2 Z4F [39] := Z1 (by rfl) (by rfl) _
theorem ZGl : Z4F.toList = [Zj7, ZnI] := nf
theorem ZIy : stepA E C B 40 Z4F Zj7 (φ, H) = stp (some 39) φ H (just (aBin E.T .add 3 (fget φ 15) (.int .i64 1))) := nf
theorem ZKL : stepA E C B 40 Z4F ZnI (φ, H) = some (fput φ 15 (fget φ 39), H) := nf
theorem Z07e : XQ 25 40 ZaL ZkV Zq2 := Z0 (by rfl) _
theorem Z03V : XQ 25 40 Z95 ZaG ZaL := Z0 (by rfl) _
theorem Z02d : XQ 25 40 Z3F Zly Z95 := Z0 (by rfl) _
theorem Z05b : execA E C (fg 25) B 40 E0 N Znb s = iterA (execA E C (fg 25) B 40 E0 N Z3F) (headA E0) N s := ZY (by rfl) s
theorem Z02m : execA E C (fg 25) B 40 E0 N ZmE s = blockX 1 (fun s => (forget s.1 [0, 13, 14, 15, 16], s.2)) (execA E C (fg 25) B 40 E0 N Znb s) := Za (by rfl) (by rfl) s
theorem Z04C : XQ 25 40 Zaj ZpZ ZmE := Z0 (by rfl) _
def Z8D := kR Z9w
def Zke := kL Z8D
def Z8v := kO Zke
def Znf := opN Z8v 0
theorem Z03r : XG 25 40 Zke Z8v [] := Z1 (by rfl) (by rfl) _
theorem ZLp : Z8v.toList = [Znf] := nf
theorem ZMr : stepA E C B 40 Z8v Znf (φ, H) = some (fput φ 2 (.int .i64 0), H) := nf
def ZDu := kR Z8D
theorem Z03F : execA E C (fg 25) B 40 E0 N ZDu s = some (.ret, s) := Zk (by rfl) s
theorem Z06Q : XQ 25 40 Z8D Zke ZDu := Z0 (by rfl) _
theorem Z02G : XQ 25 40 Z9w Zaj Z8D := Z0 (by rfl) _
theorem Z09Y : XQ 25 40 ZhG ZyE Z9w := Z0 (by rfl) _
theorem Z07T : XQ 25 40 Z9c ZyP ZhG := Z0 (by rfl) _
theorem Z09J : fInfo E 25 = some ⟨40, #[.tmp 2], Z9c⟩ := nf
theorem b_25 (args : List AV) : bodyA E C fg N 25 args H B = bodyX E [.tmp 2] (execA E C (fg 25) B 40 H N Z9c (Z5 args 0 [], H)) := Zo Z09J args H
abbrev F_25 := And.intro (And.intro (And.intro (And.intro (And.intro (And.intro @Z09b (And.intro @ZQz @ZTn)) (And.intro @Z07S (And.intro @ZTW @ZYK))) (And.intro (And.intro @ZST (And.intro @ZXo @ZUK)) (And.intro (And.intro @Z08C @ZSB) (And.intro @ZVo @Z07C)))) (And.intro (And.intro (And.intro @Z0aV (And.intro @Z03j @ZR3)) (And.intro (And.intro @ZO1 @ZOG) (And.intro @ZOP @ZYM))) (And.intro (And.intro @Z02A (And.intro @ZRY @ZVd)) (And.intro (And.intro @Z06p @Z06B) (And.intro @Z01c @Z03l))))) (And.intro (And.intro (And.intro (And.intro @Z04N (And.intro @Z0aa @Z07Z)) (And.intro @Z07x (And.intro @Z074 @ZX1))) (And.intro (And.intro @ZOL (And.intro @ZVL @ZSM)) (And.intro (And.intro @Z01m @ZTx) (And.intro @ZRg @Z03y)))) (And.intro (And.intro (And.intro @Z03K (And.intro @Z04D @Z03x)) (And.intro (And.intro @ZUp @ZXF) (And.intro @ZO7 @ZUB))) (And.intro (And.intro @ZQF (And.intro @ZWN @Z05O)) (And.intro (And.intro @ZXb @Z008) (And.intro @ZOl @ZRG)))))) (And.intro (And.intro (And.intro (And.intro (And.intro @ZUL (And.intro @ZPX @ZWL)) (And.intro @ZWu (And.intro @Z04Q @ZPV))) (And.intro (And.intro @ZOh (And.intro @Z02x @Z00l)) (And.intro (And.intro @Z05B @ZHE) (And.intro @ZHH @ZNd)))) (And.intro (And.intro (And.intro @ZL8 (And.intro @ZKH @ZIF)) (And.intro (And.intro @ZIm @ZJK) (And.intro @ZMY @ZHb))) (And.intro (And.intro @ZKc (And.intro @ZFr @ZEk)) (And.intro (And.intro @Z00t @ZKs) (And.intro @ZGb @Z00o))))) (And.intro (And.intro (And.intro (And.intro @Z02W (And.intro @Z01Y @Z04e)) (And.intro (And.intro @Z06A @Z016) (And.intro @Z05L @Z02u))) (And.intro (And.intro @Z00k (And.intro @Z03o @Z04L)) (And.intro (And.intro @ZGl @ZIy) (And.intro @ZKL @Z07e)))) (And.intro (And.intro (And.intro @Z03V (And.intro @Z02d @Z05b)) (And.intro (And.intro @Z02m @Z04C) (And.intro @Z03r @ZLp))) (And.intro (And.intro @ZMr (And.intro @Z03F @Z06Q)) (And.intro (And.intro @Z02G @Z09Y) (And.intro @Z07T @b_25))))))
def Zbh := kBody Proofs.Try.f79
def Zz5 := kL Zbh
def ZhZ := kO Zz5
def ZwL := opN ZhZ 0
theorem Z08x : XG 79 25 Zz5 ZhZ [2] := Z1 (by rfl) (by rfl) _
theorem ZYe : ZhZ.toList = [ZwL] := nf
theorem ZUP : stepA E C B 25 ZhZ ZwL (φ, H) = some (fput φ 2 (.nilsl), H) := nf
def Zhg := kR Zbh
def Zzy := kL Zhg
def Z73 := kO Zzy
def Zrh := opN Z73 0
def Zu2 := opN Z73 1
theorem Z08m : XG 79 25 Zzy Z73 [6] := Z1 (by rfl) (by rfl) _
theorem ZV3 : Z73.toList = [Zrh, Zu2] := nf
theorem ZZX : stepA E C B 25 Z73 Zrh (φ, H) = stp (some 6) φ H (Z9 E.T (B + 6) 22 1 (evO E φ) [(0, Operand.const (Value.int .i64 0))]) := nf
theorem ZUu : stepA E C B 25 Z73 Zu2 (φ, H) = some (fput φ 3 (fget φ 6), H) := nf
def ZhP := kR Zhg
def ZhH := kL ZhP
def Zys := kL ZhH
def Z3O := kO Zys
def Zw0 := opN Z3O 0
def ZtN := opN Z3O 1
def ZsH := opN Z3O 2
theorem Z08J : XG 79 25 Zys Z3O [0] := Z1 (by rfl) (by rfl) _
theorem ZYk : Z3O.toList = [Zw0, ZtN, ZsH] := nf
theorem ZZv : stepA E C B 25 Z3O Zw0 (φ, H) = some (fput φ 7 (fget φ 0), H) := nf
theorem ZUT : stepA E C B 25 Z3O ZtN (φ, H) = stp (some 8) φ H (Z3 E.T (B + 8) .len #[22] [(fget φ 7)]) := nf
theorem ZZl : stepA E C B 25 Z3O ZsH (φ, H) = some (fput φ 9 (.int .i64 0), H) := nf
def Zyy := kR ZhH
def ZzX := kB Zyy
def Z4W := kB ZzX
def ZiU := kL Z4W
def Zhr := kO ZiU
def Zwh := opN Zhr 0
theorem Z04y : XG 79 25 ZiU Zhr [] := Z1 (by rfl) (by rfl) _
theorem ZVs : Zhr.toList = [Zwh] := nf
theorem ZZs : stepA E C B 25 Zhr Zwh (φ, H) = stp (some 10) φ H (just (aBin E.T .lss 3 (fget φ 9) (fget φ 8))) := nf
def Z9C := kR Z4W
def ZbM := kL Z9C
def ZBP := kT ZbM
theorem Z03S : execA E C (fg 79) B 25 E0 N ZBP s = some (.normal, s) := Zb (by rfl) s
def ZAb := kE ZbM
theorem Z03z : execA E C (fg 79) B 25 E0 N ZAb s = some (.exit 0, s) := ZP (by rfl) s
theorem Z04l : XC 79 25 ZbM 10 ZBP ZAb := Z8 (by rfl) _
def Z8X := kR Z9C
def ZoG := kL Z8X
def Z8V := kB ZoG
def Zj5 := kL Z8V
def Z1H := kO Zj5
def Zv9 := opN Z1H 0
def Zul := opN Z1H 1
def Zrl := opN Z1H 2
def ZtL := opN Z1H 3
def ZrA := opN Z1H 4
theorem Z03f : XG 79 25 Zj5 Z1H [10, 11, 12, 13] := Z1 (by rfl) (by rfl) _
theorem ZRU : Z1H.toList = [Zv9, Zul, Zrl, ZtL, ZrA] := nf
theorem ZU4 : stepA E C B 25 Z1H Zv9 (φ, H) = some (fput φ 11 (fget φ 9), H) := nf
theorem ZR1 : stepA E C B 25 Z1H Zul (φ, H) = stp (some 12) φ H (just (Z2 E.T 22 (fget φ 7) (fget φ 9))) := nf
theorem ZVR : stepA E C B 25 Z1H Zrl (φ, H) = stp (some 13) φ H (just (aLoad E.T 3 (fget φ 12))) := nf
theorem ZYc : stepA E C B 25 Z1H ZtL (φ, H) = some (fput φ 4 (fget φ 11), H) := nf
theorem ZUj : stepA E C B 25 Z1H ZrA (φ, H) = some (fput φ 5 (fget φ 13), H) := nf
def ZiA := kR Z8V
def Z08 := kO ZiA
def ZsC := opN Z08 0
def Zwo := opN Z08 1
def ZxL := opN Z08 2
def Zxf := opN Z08 3
def Zsd := opN Z08 4
def Zse := opN Z08 5
def Zsf := opN Z08 6
def Zut := opN Z08 7
def Ztp := opN Z08 8
def ZuA := opN Z08 9
theorem Z06t : XG 79 25 ZiA Z08 [4, 5, 14, 15, 16, 17, 18, 19, 20, 21, 22] := Z1 (by rfl) (by rfl) _
theorem ZOA : Z08.toList = [ZsC, Zwo, ZxL, Zxf, Zsd, Zse, Zsf, Zut, Ztp, ZuA] := nf
theorem ZSv : stepA E C B 25 Z08 ZsC (φ, H) = some (fput φ 14 (fget φ 3), H) := nf
theorem ZVX : stepA E C B 25 Z08 Zwo (φ, H) = some (fput φ 15 (fget φ 3), H) := nf
theorem ZXA : stepA E C B 25 Z08 ZxL (φ, H) = some (fput φ 16 (fget φ 4), H) := nf
theorem ZU6 : stepA E C B 25 Z08 Zxf (φ, H) = stp (some 17) φ H (just (Z2 E.T 22 (fget φ 15) (fget φ 16))) := nf
theorem ZUe : stepA E C B 25 Z08 Zsd (φ, H) = stp (some 18) φ H (just (aLoad E.T 3 (fget φ 17))) := nf
theorem ZZj : stepA E C B 25 Z08 Zse (φ, H) = some (fput φ 19 (fget φ 5), H) := nf
theorem ZZS : stepA E C B 25 Z08 Zsf (φ, H) = stp (some 20) φ H (just (aBin E.T .add 3 (fget φ 18) (fget φ 19))) := nf
theorem ZUI : stepA E C B 25 Z08 Zut (φ, H) = stp (some 21) φ H (Z9 E.T (B + 21) 22 1 (evO E φ) [(0, Operand.tmp 20)]) := nf
theorem ZQY : stepA E C B 25 Z08 Ztp (φ, H) = stp (some 22) φ H (Z3 E.T (B + 22) .append #[22, 22] [(fget φ 14), (fget φ 21)]) := nf
theorem ZZQ : stepA E C B 25 Z08 ZuA (φ, H) = some (fput φ 3 (fget φ 22), H) := nf
theorem Z011 : XQ 79 25 Z8V Zj5 ZiA := Z0 (by rfl) _
theorem Z06F : execA E C (fg 79) B 25 E0 N ZoG s = blockX 1 (fun s => (forget s.1 [], s.2)) (execA E C (fg 79) B 25 E0 N Z8V s) := Za (by rfl) (by rfl) s
def ZjD := kR Z8X
def Z6S := kO ZjD
def Zwd := opN Z6S 0
def ZqZ := opN Z6S 1
theorem Z072 : XG 79 25 ZjD Z6S [23] := Z1 (by rfl) (by rfl) _
theorem ZYl : Z6S.toList = [Zwd, ZqZ] := nf
theorem ZTr : stepA E C B 25 Z6S Zwd (φ, H) = stp (some 23) φ H (just (aBin E.T .add 3 (fget φ 9) (.int .i64 1))) := nf
theorem ZQM : stepA E C B 25 Z6S ZqZ (φ, H) = some (fput φ 9 (fget φ 23), H) := nf
theorem Z02s : XQ 79 25 Z8X ZoG ZjD := Z0 (by rfl) _
theorem Z046 : XQ 79 25 Z9C ZbM Z8X := Z0 (by rfl) _
theorem Z08e : XQ 79 25 Z4W ZiU Z9C := Z0 (by rfl) _
theorem Z088 : execA E C (fg 79) B 25 E0 N ZzX s = iterA (execA E C (fg 79) B 25 E0 N Z4W) (headA E0) N s := ZY (by rfl) s
theorem Z09w : execA E C (fg 79) B 25 E0 N Zyy s = blockX 0 (fun s => (forget s.1 [7, 8, 9, 10], s.2)) (execA E C (fg 79) B 25 E0 N ZzX s) := Za (by rfl) (by rfl) s
theorem Z09q : XQ 79 25 ZhH Zys Zyy := Z0 (by rfl) _
def Zah := kR ZhP
def Zjg := kL Zah
def Z7D := kO Zjg
def ZrY := opN Z7D 0
def Ztg := opN Z7D 1
theorem Z00y : XG 79 25 Zjg Z7D [3, 24] := Z1 (by rfl) (by rfl) _
theorem ZVC : Z7D.toList = [ZrY, Ztg] := nf
theorem ZO4 : stepA E C B 25 Z7D ZrY (φ, H) = some (fput φ 24 (fget φ 3), H) := nf
theorem ZXS : stepA E C B 25 Z7D Ztg (φ, H) = some (fput φ 2 (fget φ 24), H) := nf
def ZAX := kR Zah
theorem Z05r : execA E C (fg 79) B 25 E0 N ZAX s = some (.ret, s) := Zk (by rfl) s
theorem Z028 : XQ 79 25 Zah Zjg ZAX := Z0 (by rfl) _
theorem Z07Y : XQ 79 25 ZhP ZhH Zah := Z0 (by rfl) _
theorem Z07v : XQ 79 25 Zhg Zzy ZhP := Z0 (by rfl) _
theorem Z09a : XQ 79 25 Zbh Zz5 Zhg := Z0 (by rfl) _
theorem Z08b : fInfo E 79 = some ⟨25, #[.tmp 2], Zbh⟩ := nf
theorem b_79 (args : List AV) : bodyA E C fg N 79 args H B = bodyX E [.tmp 2] (execA E C (fg 79) B 25 H N Zbh (Z5 args 0 [], H)) := Zo Z08b args H
abbrev F_79 := And.intro (And.intro (And.intro (And.intro (And.intro @Z08x (And.intro @ZYe @ZUP)) (And.intro (And.intro @Z08m @ZV3) (And.intro @ZZX @ZUu))) (And.intro (And.intro @Z08J (And.intro @ZYk @ZZv)) (And.intro (And.intro @ZUT @ZZl) (And.intro @Z04y @ZVs)))) (And.intro (And.intro (And.intro @ZZs (And.intro @Z03S @Z03z)) (And.intro (And.intro @Z04l @Z03f) (And.intro @ZRU @ZU4))) (And.intro (And.intro (And.intro @ZR1 @ZVR) (And.intro @ZYc @ZUj)) (And.intro (And.intro @Z06t @ZOA) (And.intro @ZSv @ZVX))))) (And.intro (And.intro (And.intro (And.intro @ZXA (And.intro @ZU6 @ZUe)) (And.intro (And.intro @ZZj @ZZS) (And.intro @ZUI @ZQY))) (And.intro (And.intro (And.intro @ZZQ @Z011) (And.intro @Z06F @Z072)) (And.intro (And.intro @ZYl @ZTr) (And.intro @ZQM @Z02s)))) (And.intro (And.intro (And.intro @Z046 (And.intro @Z08e @Z088)) (And.intro (And.intro @Z09w @Z09q) (And.intro @Z00y @ZVC))) (And.intro (And.intro (And.intro @ZO4 @ZXS) (And.intro @Z05r @Z028)) (And.intro (And.intro @Z07Y @Z07v) (And.intro @Z09a @b_79)))))
def Zbp := kBody Proofs.Try.f85
def ZyG := kL Zbp
def Z3I := kO ZyG
def ZtA := opN Z3I 0
def Ztz := opN Z3I 1
def Zup := opN Z3I 2
theorem Z08r : XG 85 43 ZyG Z3I [4, 5, 6] := Z1 (by rfl) (by rfl) _
theorem ZQW : Z3I.toList = [ZtA, Ztz, Zup] := nf
theorem ZZG : stepA E C B 43 Z3I ZtA (φ, H) = some (fput φ 4 (.nilsl), H) := nf
theorem ZOk : stepA E C B 43 Z3I Ztz (φ, H) = some (fput φ 5 (.nilsl), H) := nf
theorem ZSb : stepA E C B 43 Z3I Zup (φ, H) = some (fput φ 6 (.int .i64 0), H) := nf
def Zhm := kR Zbp
def Zhy := kL Zhm
def ZzG := kL Zhy
def Z3T := kO ZzG
def Zyg := opN Z3T 0
def ZuT := opN Z3T 1
def ZxG := opN Z3T 2
theorem Z0a8 : XG 85 43 ZzG Z3T [9, 10] := Z1 (by rfl) (by rfl) _
theorem ZXx : Z3T.toList = [Zyg, ZuT, ZxG] := nf
theorem ZOs : stepA E C B 43 Z3T Zyg (φ, H) = some (fput φ 9 (fget φ 0), H) := nf
theorem ZQV : stepA E C B 43 Z3T ZuT (φ, H) = stp (some 10) φ H (aCall C (fun j => B + j * 43 + 10) true 25 [(fget φ 9)]) := nf
theorem ZYs : stepA E C B 43 Z3T ZxG (φ, H) = some (fput φ 7 (fget φ 10), H) := nf
def Zif := kR Zhy
def Zyq := kL Zif
def Z5L := kO Zyq
def ZrN := opN Z5L 0
def ZvW := opN Z5L 1
theorem Z0ae : XG 85 43 Zyq Z5L [11] := Z1 (by rfl) (by rfl) _
theorem ZSy : Z5L.toList = [ZrN, ZvW] := nf
theorem ZSc : stepA E C B 43 Z5L ZrN (φ, H) = some (fput φ 11 (fget φ 7), H) := nf
theorem ZNU : stepA E C B 43 Z5L ZvW (φ, H) = stp (some 12) φ H (just (aBin E.T .neq 24 (fget φ 11) (.int .i64 0))) := nf
def Zhn := kR Zif
def Zhw := kT Zhn
def Zzt := kL Zhw
def Z2i := kO Zzt
def Zsv := opN Z2i 0
def ZsE := opN Z2i 1
def Zvk := opN Z2i 2
def Zyk := opN Z2i 3
theorem Z0b5 : XG 85 43 Zzt Z2i [0, 1, 7, 12, 13] := Z1 (by rfl) (by rfl) _
theorem ZTf : Z2i.toList = [Zsv, ZsE, Zvk, Zyk] := nf
theorem ZTo : stepA E C B 43 Z2i Zsv (φ, H) = some (fput φ 13 (fget φ 7), H) := nf
theorem ZX5 : stepA E C B 43 Z2i ZsE (φ, H) = some (fput φ 4 (.nilsl), H) := nf
theorem ZZb : stepA E C B 43 Z2i Zvk (φ, H) = some (fput φ 5 (.nilsl), H) := nf
theorem ZTy : stepA E C B 43 Z2i Zyk (φ, H) = some (fput φ 6 (fget φ 13), H) := nf
def ZFu := kR Zhw
theorem Z017 : execA E C (fg 85) B 43 E0 N ZFu s = some (.ret, s) := Zk (by rfl) s
theorem Z09u : XQ 85 43 Zhw Zzt ZFu := Z0 (by rfl) _
def ZBx := kE Zhn
theorem Z05S : execA E C (fg 85) B 43 E0 N ZBx s = some (.normal, s) := Zb (by rfl) s
theorem Z07w : XC 85 43 Zhn 12 Zhw ZBx := Z8 (by rfl) _
theorem Z07A : XQ 85 43 Zif Zyq Zhn := Z0 (by rfl) _
theorem Z08B : XQ 85 43 Zhy ZzG Zif := Z0 (by rfl) _
def Z9P := kR Zhm
def Zac := kL Z9P
def Zqi := kL Zac
def Z42 := kO Zqi
def ZvR := opN Z42 0
def ZtQ := opN Z42 1
def Ztv := opN Z42 2
theorem Z06N : XG 85 43 Zqi Z42 [7, 12, 14, 15] := Z1 (by rfl) (by rfl) _
theorem ZWO : Z42.toList = [ZvR, ZtQ, Ztv] := nf
theorem ZSz : stepA E C B 43 Z42 ZvR (φ, H) = some (fput φ 14 (fget φ 1), H) := nf
theorem ZPl : stepA E C B 43 Z42 ZtQ (φ, H) = stp (some 15) φ H (aCall C (fun j => B + j * 43 + 15) true 25 [(fget φ 14)]) := nf
theorem ZYf : stepA E C B 43 Z42 Ztv (φ, H) = some (fput φ 8 (fget φ 15), H) := nf
def ZaI := kR Zac
def Zl1 := kL ZaI
def Z5X := kO Zl1
def Zrm := opN Z5X 0
def Zrf := opN Z5X 1
theorem Z00K : XG 85 43 Zl1 Z5X [16] := Z1 (by rfl) (by rfl) _
theorem Z00c : Z5X.toList = [Zrm, Zrf] := nf
theorem ZTi : stepA E C B 43 Z5X Zrm (φ, H) = some (fput φ 16 (fget φ 8), H) := nf
theorem ZTG : stepA E C B 43 Z5X Zrf (φ, H) = stp (some 17) φ H (just (aBin E.T .neq 24 (fget φ 16) (.int .i64 0))) := nf
def Za7 := kR ZaI
def Z9T := kT Za7
def ZnC := kL Z9T
def Z2u := kO ZnC
def ZtG := opN Z2u 0
def Ztw := opN Z2u 1
def Zrb := opN Z2u 2
def Zwz := opN Z2u 3
theorem Z05U : XG 85 43 ZnC Z2u [0, 1, 8, 17, 18] := Z1 (by rfl) (by rfl) _
theorem ZOj : Z2u.toList = [ZtG, Ztw, Zrb, Zwz] := nf
theorem ZWR : stepA E C B 43 Z2u ZtG (φ, H) = some (fput φ 18 (fget φ 8), H) := nf
theorem ZQg : stepA E C B 43 Z2u Ztw (φ, H) = some (fput φ 4 (.nilsl), H) := nf
theorem ZTY : stepA E C B 43 Z2u Zrb (φ, H) = some (fput φ 5 (.nilsl), H) := nf
theorem ZQj : stepA E C B 43 Z2u Zwz (φ, H) = some (fput φ 6 (fget φ 18), H) := nf
def ZAz := kR Z9T
theorem Z03H : execA E C (fg 85) B 43 E0 N ZAz s = some (.ret, s) := Zk (by rfl) s
theorem Z06V : XQ 85 43 Z9T ZnC ZAz := Z0 (by rfl) _
def ZCl := kE Za7
theorem Z02n : execA E C (fg 85) B 43 E0 N ZCl s = some (.normal, s) := Zb (by rfl) s
theorem Z01z : XC 85 43 Za7 17 Z9T ZCl := Z8 (by rfl) _
theorem Z067 : XQ 85 43 ZaI Zl1 Za7 := Z0 (by rfl) _
theorem Z06e : XQ 85 43 Zac Zqi ZaI := Z0 (by rfl) _
def Z9z := kR Z9P
def ZmH := kL Z9z
def Z19 := kO ZmH
def ZqV := opN Z19 0
def ZuI := opN Z19 1
def Zu3 := opN Z19 2
def Zui := opN Z19 3
def Zro := opN Z19 4
def Zw4 := opN Z19 5
theorem Z01B : XG 85 43 ZmH Z19 [8, 17, 19, 20, 21, 22] := Z1 (by rfl) (by rfl) _
theorem ZVD : Z19.toList = [ZqV, ZuI, Zu3, Zui, Zro, Zw4] := nf
theorem ZYz : stepA E C B 43 Z19 ZqV (φ, H) = some (fput φ 19 (fget φ 0), H) := nf
theorem ZW2 : stepA E C B 43 Z19 ZuI (φ, H) = stp (some 20) φ H (aCall C (fun j => B + j * 43 + 20) true 79 [(fget φ 19)]) := nf
theorem ZWd : stepA E C B 43 Z19 Zu3 (φ, H) = some (fput φ 21 (fget φ 1), H) := nf
theorem ZYt : stepA E C B 43 Z19 Zui (φ, H) = stp (some 22) φ H (aCall C (fun j => B + j * 43 + 22) true 79 [(fget φ 21)]) := nf
theorem ZWr : stepA E C B 43 Z19 Zro (φ, H) = some (fput φ 4 (fget φ 20), H) := nf
theorem ZXV : stepA E C B 43 Z19 Zw4 (φ, H) = some (fput φ 5 (fget φ 22), H) := nf
def ZbW := kR Z9z
def Zkd := kL ZbW
def ZbR := kB Zkd
def Zqc := kL ZbR
def Z1b := kO Zqc
def Zuc := opN Z1b 0
def Zso := opN Z1b 1
def ZsW := opN Z1b 2
def Zu7 := opN Z1b 3
def ZxQ := opN Z1b 4
def Zuv := opN Z1b 5
theorem Z03k : XG 85 43 Zqc Z1b [24, 25, 26, 27, 28] := Z1 (by rfl) (by rfl) _
theorem ZQt : Z1b.toList = [Zuc, Zso, ZsW, Zu7, ZxQ, Zuv] := nf
theorem ZOF : stepA E C B 43 Z1b Zuc (φ, H) = some (fput φ 24 (fget φ 0), H) := nf
theorem ZPK : stepA E C B 43 Z1b Zso (φ, H) = stp (some 25) φ H (Z3 E.T (B + 25) .len #[22] [(fget φ 24)]) := nf
theorem ZY4 : stepA E C B 43 Z1b ZsW (φ, H) = some (fput φ 26 (fget φ 1), H) := nf
theorem ZZn : stepA E C B 43 Z1b Zu7 (φ, H) = stp (some 27) φ H (Z3 E.T (B + 27) .len #[22] [(fget φ 26)]) := nf
theorem ZVE : stepA E C B 43 Z1b ZxQ (φ, H) = stp (some 28) φ H (just (aBin E.T .neq 3 (fget φ 25) (fget φ 27))) := nf
theorem ZOZ : stepA E C B 43 Z1b Zuv (φ, H) = some (fput φ 23 (fget φ 28), H) := nf
def ZaZ := kR ZbR
def ZbJ := kT ZaZ
def Ziw := kL ZbJ
def Z3Y := kO Ziw
def Zx4 := opN Z3Y 0
def Zwb := opN Z3Y 1
def Zyc := opN Z3Y 2
theorem Z03n : XG 85 43 Ziw Z3Y [0, 1, 23] := Z1 (by rfl) (by rfl) _
theorem ZXz : Z3Y.toList = [Zx4, Zwb, Zyc] := nf
theorem ZTB : stepA E C B 43 Z3Y Zx4 (φ, H) = some (fput φ 4 (.nilsl), H) := nf
theorem ZY0 : stepA E C B 43 Z3Y Zwb (φ, H) = some (fput φ 5 (.nilsl), H) := nf
theorem ZSO : stepA E C B 43 Z3Y Zyc (φ, H) = some (fput φ 6 (.int .i64 5), H) := nf
def ZBr := kR ZbJ
theorem Z01R : execA E C (fg 85) B 43 E0 N ZBr s = some (.ret, s) := Zk (by rfl) s
theorem Z030 : XQ 85 43 ZbJ Ziw ZBr := Z0 (by rfl) _
def Z97 := kE ZaZ
def ZoH := kL Z97
def Zp := kO ZoH
def ZoJ := opN Zp 0
def Zmv := opN Zp 1
def Zqx := opN Zp 2
def Zp7 := opN Zp 3
def Ziz := opN Zp 4
def Zob := opN Zp 5
def Zon := opN Zp 6
def ZiM := opN Zp 7
def Zmn := opN Zp 8
def Zn5 := opN Zp 9
def Zf1 := opN Zp 10
def ZfZ := opN Zp 11
theorem Z01d : XD 85 43 ZoH Zp [0, 1, 23, 30, 31, 32, 33, 34, 35, 36, 37, 38, 39, 40] := Z2E (by rfl) (by rfl) _
theorem ZIU : Zp.toList = [ZoJ, Zmv, Zqx, Zp7, Ziz, Zob, Zon, ZiM, Zmn, Zn5, Zf1, ZfZ] := nf
theorem ZF6 : statOk Zp = true := by kernel_rfl
theorem ZBG : drawA E C B 43 Zp s = if neat 43 s = true then drX Zp (runT E C B 43 Zp Zp.toList 0 s) else none := Z1O ZF6 s
theorem ZBV (l : List (Nat × Tr)) : dynOk Zp l = (!writing l || Zl [[], [], [1], [0, 1, 2], [0, 1, 2, 3], [], [], [6], [5, 6, 7], [5, 6, 7, 8], [0, 1, 2, 3, 4, 5, 6, 7, 8, 9], [0, 1, 2, 3, 4, 5, 6, 7, 8, 9, 10]] (Zj l)) := Z1c (by kernel_rfl) l
theorem ZHX : stepT E C B 43 Zp ZoJ (φ, H) = some ((fput φ 30 (fget φ 4), H), ⟨false, [], []⟩) := Z6 rfl (Zf rfl rfl)
theorem ZJ7 : stepT E C B 43 Zp Zmv (φ, H) = some ((fput φ 31 (fget φ 0), H), ⟨false, [], []⟩) := Z6 rfl (Zf rfl rfl)
theorem ZLI : stepT E C B 43 Zp Zqx (φ, H) = stpT (some 32) φ H (Z3 E.T (B + 32) .len #[22] [(fget φ 31)]) := Z6 rfl (Ze rfl rfl)
theorem ZN9 : stepT E C B 43 Zp Zp7 (φ, H) = stpT (some 33) φ H (just (Z2 E.T 22 (fget φ 30) (fget φ 32))) := Z6 rfl (Ze rfl rfl)
theorem ZLO : stepT E C B 43 Zp Ziz (φ, H) = stpT (some 34) φ H (just (aLoad E.T 3 (fget φ 33))) := Z6 rfl (Ze rfl rfl)
theorem ZMF : stepT E C B 43 Zp Zob (φ, H) = some ((fput φ 35 (fget φ 5), H), ⟨false, [], []⟩) := Z6 rfl (Zf rfl rfl)
theorem ZKO : stepT E C B 43 Zp Zon (φ, H) = some ((fput φ 36 (fget φ 1), H), ⟨false, [], []⟩) := Z6 rfl (Zf rfl rfl)
theorem ZML : stepT E C B 43 Zp ZiM (φ, H) = stpT (some 37) φ H (Z3 E.T (B + 37) .len #[22] [(fget φ 36)]) := Z6 rfl (Ze rfl rfl)
theorem ZLU : stepT E C B 43 Zp Zmn (φ, H) = stpT (some 38) φ H (just (Z2 E.T 22 (fget φ 35) (fget φ 37))) := Z6 rfl (Ze rfl rfl)
theorem ZJf : stepT E C B 43 Zp Zn5 (φ, H) = stpT (some 39) φ H (just (aLoad E.T 3 (fget φ 38))) := Z6 rfl (Ze rfl rfl)
theorem ZDD : stepT E C B 43 Zp Zf1 (φ, H) = stpT (some 40) φ H (just (aBin E.T .neq 3 (fget φ 34) (fget φ 39))) := Z6 rfl (Ze rfl rfl)
theorem ZCf : stepT E C B 43 Zp ZfZ (φ, H) = some ((fput φ 29 (fget φ 40), H), ⟨false, [], []⟩) := Z6 rfl (Zf rfl rfl)
def Z9F := kR Z97
def Z9j := kT Z9F
def Zqq := kL Z9j
def Z2H := kO Zqq
def ZkF := opN Z2H 0
def Zqn := opN Z2H 1
def ZmU := opN Z2H 2
theorem Z034 : XG 85 43 Zqq Z2H [29] := Z1 (by rfl) (by rfl) _
theorem ZIZ : Z2H.toList = [ZkF, Zqn, ZmU] := nf
theorem ZGv : stepA E C B 43 Z2H ZkF (φ, H) = some (fput φ 4 (.nilsl), H) := nf
theorem ZJJ : stepA E C B 43 Z2H Zqn (φ, H) = some (fput φ 5 (.nilsl), H) := nf
theorem ZMf : stepA E C B 43 Z2H ZmU (φ, H) = some (fput φ 6 (.int .i64 17), H) := nf
def ZAw := kR Z9j
theorem Z05y : execA E C (fg 85) B 43 E0 N ZAw s = some (.ret, s) := Zk (by rfl) s
theorem Z04i : XQ 85 43 Z9j Zqq ZAw := Z0 (by rfl) _
def ZFT := kE Z9F
theorem Z06s : execA E C (fg 85) B 43 E0 N ZFT s = some (.normal, s) := Zb (by rfl) s
theorem Z03E : XC 85 43 Z9F 29 Z9j ZFT := Z8 (by rfl) _
theorem Z061 : XQ 85 43 Z97 ZoH Z9F := Z0 (by rfl) _
theorem Z078 : XC 85 43 ZaZ 23 ZbJ Z97 := Z8 (by rfl) _
theorem Z01T : XQ 85 43 ZbR Zqc ZaZ := Z0 (by rfl) _
theorem Z02t : execA E C (fg 85) B 43 E0 N Zkd s = blockX 0 (fun s => (forget s.1 [29], s.2)) (execA E C (fg 85) B 43 E0 N ZbR s) := Za (by rfl) (by rfl) s
def Z8K := kR ZbW
def Zos := kL Z8K
def Z0V := kO Zos
def Zl3 := opN Z0V 0
def Zpx := opN Z0V 1
def Zp2 := opN Z0V 2
def Zku := opN Z0V 3
def ZlB := opN Z0V 4
theorem Z00u : XG 85 43 Zos Z0V [41, 42] := Z1 (by rfl) (by rfl) _
theorem ZKG : Z0V.toList = [Zl3, Zpx, Zp2, Zku, ZlB] := nf
theorem ZKQ : stepA E C B 43 Z0V Zl3 (φ, H) = some (fput φ 41 (fget φ 4), H) := nf
theorem ZK8 : stepA E C B 43 Z0V Zpx (φ, H) = some (fput φ 42 (fget φ 5), H) := nf
theorem ZHP : stepA E C B 43 Z0V Zp2 (φ, H) = some (fput φ 4 (fget φ 41), H) := nf
theorem ZK1 : stepA E C B 43 Z0V Zku (φ, H) = some (fput φ 5 (fget φ 42), H) := nf
theorem ZI7 : stepA E C B 43 Z0V ZlB (φ, H) = some (fput φ 6 (.int .i64 0), H) := nf
def ZDz := kR Z8K
theorem Z06b : execA E C (fg 85) B 43 E0 N ZDz s = some (.ret, s) := Zk (by rfl) s
theorem Z04s : XQ 85 43 Z8K Zos ZDz := Z0 (by rfl) _
theorem Z01k : XQ 85 43 ZbW Zkd Z8K := Z0 (by rfl) _
theorem Z05q : XQ 85 43 Z9z ZmH ZbW := Z0 (by rfl) _
theorem Z04A : XQ 85 43 Z9P Zac Z9z := Z0 (by rfl) _
theorem Z0at : XQ 85 43 Zhm Zhy Z9P := Z0 (by rfl) _
theorem Z08N : XQ 85 43 Zbp ZyG Zhm := Z0 (by rfl) _
theorem Z07o : fInfo E 85 = some ⟨43, #[.tmp 4, .tmp 5, .tmp 6], Zbp⟩ := nf
theorem b_85 (args : List AV) : bodyA E C fg N 85 args H B = bodyX E [.tmp 4, .tmp 5, .tmp 6] (execA E C (fg 85) B 43 H N Zbp (Z5 args 0 [], H)) := Zo Z07o args H
abbrev F_85 := And.intro (And.intro (And.intro (And.intro (And.intro (And.intro @Z08r (And.intro @ZQW @ZZG)) (And.intro (And.intro @ZOk @ZSb) (And.intro @Z0a8 @ZXx))) (And.intro (And.intro @ZOs (And.intro @ZQV @ZYs)) (And.intro (And.intro @Z0ae @ZSy) (And.intro @ZSc @ZNU)))) (And.intro (And.intro (And.intro @Z0b5 (And.intro @ZTf @ZTo)) (And.intro (And.intro @ZX5 @ZZb) (And.intro @ZTy @Z017))) (And.intro (And.intro @Z09u (And.intro @Z05S @Z07w)) (And.intro (And.intro @Z07A @Z08B) (And.intro @Z06N @ZWO))))) (And.intro (And.intro (And.intro (And.intro @ZSz (And.intro @ZPl @ZYf)) (And.intro (And.intro @Z00K @Z00c) (And.intro @ZTi @ZTG))) (And.intro (And.intro @Z05U (And.intro @ZOj @ZWR)) (And.intro (And.intro @ZQg @ZTY) (And.intro @ZQj @Z03H)))) (And.intro (And.intro (And.intro @Z06V (And.intro @Z02n @Z01z)) (And.intro (And.intro @Z067 @Z06e) (And.intro @Z01B @ZVD))) (And.intro (And.intro (And.intro @ZYz @ZW2) (And.intro @ZWd @ZYt)) (And.intro (And.intro @ZWr @ZXV) (And.intro @Z03k @ZQt)))))) (And.intro (And.intro (And.intro (And.intro (And.intro @ZOF (And.intro @ZPK @ZY4)) (And.intro (And.intro @ZZn @ZVE) (And.intro @ZOZ @Z03n))) (And.intro (And.intro @ZXz (And.intro @ZTB @ZY0)) (And.intro (And.intro @ZSO @Z01R) (And.intro @Z030 @Z01d)))) (And.intro (And.intro (And.intro @ZIU (And.intro @ZBG @ZBV)) (And.intro (And.intro @ZHX @ZJ7) (And.intro @ZLI @ZN9))) (And.intro (And.intro @ZLO (And.intro @ZMF @ZKO)) (And.intro (And.intro @ZML @ZLU) (And.intro @ZJf @ZDD))))) (And.intro (And.intro (And.intro (And.intro @ZCf (And.intro @Z034 @ZIZ)) (And.intro (And.intro @ZGv @ZJJ) (And.intro @ZMf @Z05y))) (And.intro (And.intro @Z04i (And.intro @Z06s @Z03E)) (And.intro (And.intro @Z061 @Z078) (And.intro @Z01T @Z02t)))) (And.intro (And.intro (And.intro @Z00u (And.intro @ZKG @ZKQ)) (And.intro (And.intro @ZK8 @ZHP) (And.intro @ZK1 @ZI7))) (And.intro (And.intro (And.intro @Z06b @Z04s) (And.intro @Z01k @Z05q)) (And.intro (And.intro @Z04A @Z0at) (And.intro @Z08N @b_85))))))
def Z94 := kBody Proofs.Try.f86
def Zzu := kL Z94
def ZhN := kO Zzu
def ZtV := opN ZhN 0
theorem Z0aD : XG 86 22 Zzu ZhN [4] := Z1 (by rfl) (by rfl) _
theorem ZX2 : ZhN.toList = [ZtV] := nf
theorem ZXP : stepA E C B 22 ZhN ZtV (φ, H) = some (fput φ 4 (.int .i64 0), H) := nf
def Zhk := kR Z94
def Zih := kL Zhk
def ZyJ := kL Zih
def Z3W := kO ZyJ
def ZvE := opN Z3W 0
def Ztr := opN Z3W 1
def Zrk := opN Z3W 2
theorem Z08s : XG 86 22 ZyJ Z3W [6] := Z1 (by rfl) (by rfl) _
theorem ZTu : Z3W.toList = [ZvE, Ztr, Zrk] := nf
theorem ZXf : stepA E C B 22 Z3W ZvE (φ, H) = some (fput φ 6 (fget φ 0), H) := nf
theorem ZXc : stepA E C B 22 Z3W Ztr (φ, H) = stp (some 7) φ H (Z3 E.T (B + 7) .len #[22] [(fget φ 6)]) := nf
theorem ZSg : stepA E C B 22 Z3W Zrk (φ, H) = some (fput φ 8 (.int .i64 0), H) := nf
def ZzK := kR Zih
def ZzN := kB ZzK
def Z8M := kB ZzN
def ZzA := kL Z8M
def ZhA := kO ZzA
def ZwV := opN ZhA 0
theorem Z0aA : XG 86 22 ZzA ZhA [] := Z1 (by rfl) (by rfl) _
theorem ZUi : ZhA.toList = [ZwV] := nf
theorem ZUC : stepA E C B 22 ZhA ZwV (φ, H) = stp (some 9) φ H (just (aBin E.T .lss 3 (fget φ 8) (fget φ 7))) := nf
def Ziq := kR Z8M
def Z8L := kL Ziq
def ZEx := kT Z8L
theorem Z025 : execA E C (fg 86) B 22 E0 N ZEx s = some (.normal, s) := Zb (by rfl) s
def ZDm := kE Z8L
theorem Z03R : execA E C (fg 86) B 22 E0 N ZDm s = some (.exit 0, s) := ZP (by rfl) s
theorem Z04T : XC 86 22 Z8L 9 ZEx ZDm := Z8 (by rfl) _
def Zb0 := kR Ziq
def Znt := kL Zb0
def Zbo := kB Znt
def Zpu := kL Zbo
def Z5M := kO Zpu
def Zun := opN Z5M 0
def ZuM := opN Z5M 1
theorem Z021 : XG 86 22 Zpu Z5M [9, 10] := Z1 (by rfl) (by rfl) _
theorem ZSW : Z5M.toList = [Zun, ZuM] := nf
theorem ZPP : stepA E C B 22 Z5M Zun (φ, H) = some (fput φ 10 (fget φ 8), H) := nf
theorem ZWA : stepA E C B 22 Z5M ZuM (φ, H) = some (fput φ 5 (fget φ 10), H) := nf
def Zb4 := kR Zbo
def ZpW := kL Zb4
def ZJ := kO ZpW
def ZuU := opN ZJ 0
def Zya := opN ZJ 1
def Zwy := opN ZJ 2
def Zv3 := opN ZJ 3
def Zwj := opN ZJ 4
def ZtZ := opN ZJ 5
def Ztt := opN ZJ 6
def Zt9 := opN ZJ 7
def Zry := opN ZJ 8
theorem Z03b : XD 86 22 ZpW ZJ [11, 12, 13, 14, 15, 16, 17, 18] := Z2E (by rfl) (by rfl) _
theorem ZY8 : ZJ.toList = [ZuU, Zya, Zwy, Zv3, Zwj, ZtZ, Ztt, Zt9, Zry] := nf
theorem ZIw : statOk ZJ = true := by kernel_rfl
theorem ZHx : drawA E C B 22 ZJ s = if neat 22 s = true then drX ZJ (runT E C B 22 ZJ ZJ.toList 0 s) else none := Z1O ZIw s
theorem ZI4 (l : List (Nat × Tr)) : dynOk ZJ l = (!writing l || Zl [[], [], [0, 1], [0, 1, 2], [], [], [4, 5], [4, 5, 6], [0, 1, 2, 3, 4, 5, 6, 7]] (Zj l)) := Z1c (by kernel_rfl) l
theorem ZS2 : stepT E C B 22 ZJ ZuU (φ, H) = some ((fput φ 11 (fget φ 0), H), ⟨false, [], []⟩) := Z6 rfl (Zf rfl rfl)
theorem ZWZ : stepT E C B 22 ZJ Zya (φ, H) = some ((fput φ 12 (fget φ 5), H), ⟨false, [], []⟩) := Z6 rfl (Zf rfl rfl)
theorem ZWS : stepT E C B 22 ZJ Zwy (φ, H) = stpT (some 13) φ H (just (Z2 E.T 22 (fget φ 11) (fget φ 12))) := Z6 rfl (Ze rfl rfl)
theorem ZYm : stepT E C B 22 ZJ Zv3 (φ, H) = stpT (some 14) φ H (just (aLoad E.T 3 (fget φ 13))) := Z6 rfl (Ze rfl rfl)
theorem ZX0 : stepT E C B 22 ZJ Zwj (φ, H) = some ((fput φ 15 (fget φ 1), H), ⟨false, [], []⟩) := Z6 rfl (Zf rfl rfl)
theorem ZNT : stepT E C B 22 ZJ ZtZ (φ, H) = some ((fput φ 16 (fget φ 5), H), ⟨false, [], []⟩) := Z6 rfl (Zf rfl rfl)
theorem ZZR : stepT E C B 22 ZJ Ztt (φ, H) = stpT (some 17) φ H (just (Z2 E.T 22 (fget φ 15) (fget φ 16))) := Z6 rfl (Ze rfl rfl)
theorem ZZr : stepT E C B 22 ZJ Zt9 (φ, H) = stpT (some 18) φ H (just (aLoad E.T 3 (fget φ 17))) := Z6 rfl (Ze rfl rfl)
theorem Z00e : stepT E C B 22 ZJ Zry (φ, H) = stpT (some 19) φ H (just (aBin E.T .lss 3 (fget φ 14) (fget φ 18))) := Z6 rfl (Ze rfl rfl)
def Z9G := kR Zb4
def Z9Q := kT Z9G
def ZkN := kL Z9Q
def Z7l := kO ZkN
def Zvr := opN Z7l 0
def Zxy := opN Z7l 1
theorem Z03h : XG 86 22 ZkN Z7l [0, 1, 5, 7, 8, 19, 20] := Z1 (by rfl) (by rfl) _
theorem ZW5 : Z7l.toList = [Zvr, Zxy] := nf
theorem ZUq : stepA E C B 22 Z7l Zvr (φ, H) = some (fput φ 20 (fget φ 5), H) := nf
theorem ZRB : stepA E C B 22 Z7l Zxy (φ, H) = some (fput φ 4 (fget φ 20), H) := nf
def ZCz := kR Z9Q
theorem Z03G : execA E C (fg 86) B 22 E0 N ZCz s = some (.ret, s) := Zk (by rfl) s
theorem Z06k : XQ 86 22 Z9Q ZkN ZCz := Z0 (by rfl) _
def ZEt := kE Z9G
theorem Z00S : execA E C (fg 86) B 22 E0 N ZEt s = some (.normal, s) := Zb (by rfl) s
theorem Z01q : XC 86 22 Z9G 19 Z9Q ZEt := Z8 (by rfl) _
theorem Z02i : XQ 86 22 Zb4 ZpW Z9G := Z0 (by rfl) _
theorem Z06c : XQ 86 22 Zbo Zpu Zb4 := Z0 (by rfl) _
theorem Z01j : execA E C (fg 86) B 22 E0 N Znt s = blockX 1 (fun s => (forget s.1 [5, 19], s.2)) (execA E C (fg 86) B 22 E0 N Zbo s) := Za (by rfl) (by rfl) s
def Znc := kR Zb0
def Z5W := kO Znc
def Zu1 := opN Z5W 0
def Zr7 := opN Z5W 1
theorem Z05d : XG 86 22 Znc Z5W [21] := Z1 (by rfl) (by rfl) _
theorem ZQb : Z5W.toList = [Zu1, Zr7] := nf
theorem ZUU : stepA E C B 22 Z5W Zu1 (φ, H) = stp (some 21) φ H (just (aBin E.T .add 3 (fget φ 8) (.int .i64 1))) := nf
theorem ZSn : stepA E C B 22 Z5W Zr7 (φ, H) = some (fput φ 8 (fget φ 21), H) := nf
theorem Z04Z : XQ 86 22 Zb0 Znt Znc := Z0 (by rfl) _
theorem Z0aC : XQ 86 22 Ziq Z8L Zb0 := Z0 (by rfl) _
theorem Z0a4 : XQ 86 22 Z8M ZzA Ziq := Z0 (by rfl) _
theorem Z089 : execA E C (fg 86) B 22 E0 N ZzN s = iterA (execA E C (fg 86) B 22 E0 N Z8M) (headA E0) N s := ZY (by rfl) s
theorem Z0a1 : execA E C (fg 86) B 22 E0 N ZzK s = blockX 0 (fun s => (forget s.1 [0, 1, 7, 8, 9], s.2)) (execA E C (fg 86) B 22 E0 N ZzN s) := Za (by rfl) (by rfl) s
theorem Z0al : XQ 86 22 Zih ZyJ ZzK := Z0 (by rfl) _
def Z9D := kR Zhk
def Zme := kL Z9D
def Zig := kO Zme
def Zws := opN Zig 0
theorem Z06J : XG 86 22 Zme Zig [] := Z1 (by rfl) (by rfl) _
theorem ZOV : Zig.toList = [Zws] := nf
theorem ZVM : stepA E C B 22 Zig Zws (φ, H) = some (fput φ 4 (.int .i64 (-1)), H) := nf
def ZAF := kR Z9D
theorem Z01a : execA E C (fg 86) B 22 E0 N ZAF s = some (.ret, s) := Zk (by rfl) s
theorem Z01f : XQ 86 22 Z9D Zme ZAF := Z0 (by rfl) _
theorem Z08H : XQ 86 22 Zhk Zih Z9D := Z0 (by rfl) _
theorem Z0ak : XQ 86 22 Z94 Zzu Zhk := Z0 (by rfl) _
theorem Z09m : fInfo E 86 = some ⟨22, #[.tmp 4], Z94⟩ := nf
theorem b_86 (args : List AV) : bodyA E C fg N 86 args H B = bodyX E [.tmp 4] (execA E C (fg 86) B 22 H N Z94 (Z5 args 0 [], H)) := Zo Z09m args H
abbrev F_86 := And.intro (And.intro (And.intro (And.intro (And.intro @Z0aD (And.intro @ZX2 @ZXP)) (And.intro (And.intro @Z08s @ZTu) (And.intro @ZXf @ZXc))) (And.intro (And.intro (And.intro @ZSg @Z0aA) (And.intro @ZUi @ZUC)) (And.intro (And.intro @Z025 @Z03R) (And.intro @Z04T @Z021)))) (And.intro (And.intro (And.intro @ZSW (And.intro @ZPP @ZWA)) (And.intro (And.intro @Z03b @ZY8) (And.intro @ZHx @ZI4))) (And.intro (And.intro (And.intro @ZS2 @ZWZ) (And.intro @ZWS @ZYm)) (And.intro (And.intro @ZX0 @ZNT) (And.intro @ZZR @ZZr))))) (And.intro (And.intro (And.intro (And.intro @Z00e (And.intro @Z03h @ZW5)) (And.intro (And.intro @ZUq @ZRB) (And.intro @Z03G @Z06k))) (And.intro (And.intro (And.intro @Z00S @Z01q) (And.intro @Z02i @Z06c)) (And.intro (And.intro @Z01j @Z05d) (And.intro @ZQb @ZUU)))) (And.intro (And.intro (And.intro @ZSn (And.intro @Z04Z @Z0aC)) (And.intro (And.intro @Z0a4 @Z089) (And.intro @Z0a1 @Z0al))) (And.intro (And.intro (And.intro @Z06J @ZOV) (And.intro @ZVM @Z01a)) (And.intro (And.intro @Z01f @Z08H) (And.intro @Z0ak @b_86)))))
def ZaT := kBody Proofs.Try.f27
def ZyO := kL ZaT
def Z6p := kO ZyO
def Zwu := opN Z6p 0
def ZwU := opN Z6p 1
theorem Z08V : XG 27 23 ZyO Z6p [4, 5] := Z1 (by rfl) (by rfl) _
theorem ZQO : Z6p.toList = [Zwu, ZwU] := nf
theorem ZPd : stepA E C B 23 Z6p Zwu (φ, H) = some (fput φ 4 (.bool false), H) := nf
theorem ZQ5 : stepA E C B 23 Z6p ZwU (φ, H) = some (fput φ 5 (.int .i64 0), H) := nf
def Zi1 := kR ZaT
def Zzs := kL Zi1
def Z0a := kO Zzs
def Zra := opN Z0a 0
def ZwW := opN Z0a 1
def Zto := opN Z0a 2
def Zur := opN Z0a 3
def ZxB := opN Z0a 4
def Zta := opN Z0a 5
def ZtO := opN Z0a 6
def ZrV := opN Z0a 7
def ZwB := opN Z0a 8
def Zwc := opN Z0a 9
theorem Z0ao : XG 27 23 Zzs Z0a [0, 1, 9, 10, 11, 12, 13, 14, 15] := Z1 (by rfl) (by rfl) _
theorem ZOI : Z0a.toList = [Zra, ZwW, Zto, Zur, ZxB, Zta, ZtO, ZrV, ZwB, Zwc] := nf
theorem ZOo : stepA E C B 23 Z0a Zra (φ, H) = some (fput φ 10 (fget φ 0), H) := nf
theorem ZYy : stepA E C B 23 Z0a ZwW (φ, H) = some (fput φ 11 (fget φ 1), H) := nf
theorem ZZ4 : stepA E C B 23 Z0a Zto (φ, H) = stp (some 12) φ H (aCall C (fun j => B + j * 23 + 12) true 85 [(fget φ 10), (fget φ 11)]) := nf
theorem ZR7 : stepA E C B 23 Z0a Zur (φ, H) = some (fput φ 9 (fget φ 12), H) := nf
theorem ZYp : stepA E C B 23 Z0a ZxB (φ, H) = stp (some 13) φ H (Zm (fget φ 9) 0) := nf
theorem Z003 : stepA E C B 23 Z0a Zta (φ, H) = stp (some 14) φ H (Zm (fget φ 9) 1) := nf
theorem ZVt : stepA E C B 23 Z0a ZtO (φ, H) = stp (some 15) φ H (Zm (fget φ 9) 2) := nf
theorem ZUo : stepA E C B 23 Z0a ZrV (φ, H) = some (fput φ 6 (fget φ 13), H) := nf
theorem ZOM : stepA E C B 23 Z0a ZwB (φ, H) = some (fput φ 7 (fget φ 14), H) := nf
theorem ZT3 : stepA E C B 23 Z0a Zwc (φ, H) = some (fput φ 8 (fget φ 15), H) := nf
def Zit := kR Zi1
def Zi2 := kL Zit
def Zzn := kL Zi2
def Z5H := kO Zzn
def ZuO := opN Z5H 0
def Zs5 := opN Z5H 1
theorem Z09H : XG 27 23 Zzn Z5H [16] := Z1 (by rfl) (by rfl) _
theorem ZVY : Z5H.toList = [ZuO, Zs5] := nf
theorem ZUl : stepA E C B 23 Z5H ZuO (φ, H) = some (fput φ 16 (fget φ 8), H) := nf
theorem Z00g : stepA E C B 23 Z5H Zs5 (φ, H) = stp (some 17) φ H (just (aBin E.T .neq 24 (fget φ 16) (.int .i64 0))) := nf
def Zim := kR Zi2
def Zia := kT Zim
def ZzL := kL Zia
def Z3K := kO ZzL
def Zwi := opN Z3K 0
def ZwX := opN Z3K 1
def Zvs := opN Z3K 2
theorem Z0aq : XG 27 23 ZzL Z3K [6, 7, 8, 17, 18] := Z1 (by rfl) (by rfl) _
theorem ZOm : Z3K.toList = [Zwi, ZwX, Zvs] := nf
theorem ZQi : stepA E C B 23 Z3K Zwi (φ, H) = some (fput φ 18 (fget φ 8), H) := nf
theorem ZRh : stepA E C B 23 Z3K ZwX (φ, H) = some (fput φ 4 (.bool false), H) := nf
theorem ZQf : stepA E C B 23 Z3K Zvs (φ, H) = some (fput φ 5 (fget φ 18), H) := nf
def ZEp := kR Zia
theorem Z03U : execA E C (fg 27) B 23 E0 N ZEp s = some (.ret, s) := Zk (by rfl) s
theorem Z0an : XQ 27 23 Zia ZzL ZEp := Z0 (by rfl) _
def ZAJ := kE Zim
theorem Z02q : execA E C (fg 27) B 23 E0 N ZAJ s = some (.normal, s) := Zb (by rfl) s
theorem Z09Z : XC 27 23 Zim 17 Zia ZAJ := Z8 (by rfl) _
theorem Z07m : XQ 27 23 Zi2 Zzn Zim := Z0 (by rfl) _
def Zar := kR Zit
def Zqb := kL Zar
def Z1a := kO Zqb
def Zx6 := opN Z1a 0
def Zt1 := opN Z1a 1
def Zrj := opN Z1a 2
def Zxb := opN Z1a 3
def ZwR := opN Z1a 4
def Zvz := opN Z1a 5
theorem Z02a : XG 27 23 Zqb Z1a [6, 7, 8, 17, 19, 20, 21, 22] := Z1 (by rfl) (by rfl) _
theorem ZTA : Z1a.toList = [Zx6, Zt1, Zrj, Zxb, ZwR, Zvz] := nf
theorem ZVA : stepA E C B 23 Z1a Zx6 (φ, H) = some (fput φ 19 (fget φ 6), H) := nf
theorem ZQE : stepA E C B 23 Z1a Zt1 (φ, H) = some (fput φ 20 (fget φ 7), H) := nf
theorem ZQ1 : stepA E C B 23 Z1a Zrj (φ, H) = stp (some 21) φ H (aCall C (fun j => B + j * 23 + 21) true 86 [(fget φ 19), (fget φ 20)]) := nf
theorem ZZu : stepA E C B 23 Z1a Zxb (φ, H) = stp (some 22) φ H (just (aBin E.T .lss 3 (fget φ 21) (.int .i64 0))) := nf
theorem ZSs : stepA E C B 23 Z1a ZwR (φ, H) = some (fput φ 4 (fget φ 22), H) := nf
theorem Z000 : stepA E C B 23 Z1a Zvz (φ, H) = some (fput φ 5 (.int .i64 0), H) := nf
def ZBj := kR Zar
theorem Z03J : execA E C (fg 27) B 23 E0 N ZBj s = some (.ret, s) := Zk (by rfl) s
theorem Z02p : XQ 27 23 Zar Zqb ZBj := Z0 (by rfl) _
theorem Z09U : XQ 27 23 Zit Zi2 Zar := Z0 (by rfl) _
theorem Z09y : XQ 27 23 Zi1 Zzs Zit := Z0 (by rfl) _
theorem Z09O : XQ 27 23 ZaT ZyO Zi1 := Z0 (by rfl) _
theorem Z0b6 : fInfo E 27 = some ⟨23, #[.tmp 4, .tmp 5], ZaT⟩ := nf
theorem b_27 (args : List AV) : bodyA E C fg N 27 args H B = bodyX E [.tmp 4, .tmp 5] (execA E C (fg 27) B 23 H N ZaT (Z5 args 0 [], H)) := Zo Z0b6 args H
abbrev F_27 := And.intro (And.intro (And.intro (And.intro (And.intro @Z08V @ZQO) (And.intro @ZPd (And.intro @ZQ5 @Z0ao))) (And.intro (And.intro @ZOI (And.intro @ZOo @ZYy)) (And.intro @ZZ4 (And.intro @ZR7 @ZYp)))) (And.intro (And.intro (And.intro @Z003 @ZVt) (And.intro @ZUo (And.intro @ZOM @ZT3))) (And.intro (And.intro @Z09H (And.intro @ZVY @ZUl)) (And.intro @Z00g (And.intro @Z0aq @ZOm))))) (And.intro (And.intro (And.intro (And.intro @ZQi @ZRh) (And.intro @ZQf (And.intro @Z03U @Z0an))) (And.intro (And.intro @Z02q (And.intro @Z09Z @Z07m)) (And.intro @Z02a (And.intro @ZTA @ZVA)))) (And.intro (And.intro (And.intro @ZQE @ZQ1) (And.intro @ZZu (And.intro @ZSs @Z000))) (And.intro (And.intro @Z03J (And.intro @Z02p @Z09U)) (And.intro @Z09y (And.intro @Z09O @b_27)))))
end Go.AM.Ytfmnoohhhokicaa
end
noncomputable section
namespace Go.AM.Rub
def ps (f : Nat → Int) : Nat → Int
 | 0 => 0
 | k + 1 => ps f k + f k
theorem Z0q {f g : Nat → Int} : ∀ n, (∀ i, i < n → f i = g i) → ps f n = ps g n
 | 0, _ => rfl
 | n + 1, h => by simp only [ps]; rw [Z0q n fun i hi => h i (by omega), h n (by omega)]
def ap (a b : Nat → Int) (n : Nat) : Int := ps (fun i => max (a i - b i) 0) n
def DescF (a : Nat → Int) (n : Nat) : Prop := ∀ i, i + 1 < n → a (i + 1) ≤ a i
theorem Zsm {a : Nat → Int} {n : Nat} (h : DescF a n) : ∀ m i, i + m < n → a (i + m) ≤ a i
 | 0, i, _ => Int.le_refl _
 | m + 1, i, hi => by
   have := Zsm h m i (by omega)
   have := h (i + m) (by omega)
   rw [show i + (m + 1) = i + m + 1 by omega]; omega
theorem Z0M {a : Nat → Int} {n : Nat} (h : DescF a n) {i j : Nat} (hij : i ≤ j) (hj : j < n) : a j ≤ a i := by
 have := Zsm h (j - i) i (by omega)
 rwa [show i + (j - i) = j by omega] at this
structure Maj (a b : Nat → Int) (n : Nat) : Prop where
 eq : ps a n = ps b n
 le : ∀ k, k ≤ n → ps b k ≤ ps a k
theorem Maj.refl (a : Nat → Int) (n : Nat) : Maj a a n := ⟨rfl, fun _ _ => Int.le_refl _⟩
theorem Maj.trans {a b c : Nat → Int} {n : Nat} (h1 : Maj a b n) (h2 : Maj b c n) : Maj a c n :=
 ⟨h1.eq.trans h2.eq, fun k hk => Int.le_trans (h2.le k hk) (h1.le k hk)⟩
def mvF (a : Nat → Int) (i j : Nat) (m : Nat) : Int := if m = i then a m - 1 else if m = j then a m + 1 else a m
theorem ZaB {a : Nat → Int} {i j : Nat} (hij : i < j) : ∀ k, ps (mvF a i j) k = ps a k - (if i < k ∧ k ≤ j then 1 else 0)
 | 0 => by simp [ps]
 | k + 1 => by
   simp only [ps, ZaB hij k, mvF]
   by_cases h1 : k = i
   · subst h1
     rw [if_pos rfl, if_neg (by omega), if_pos (by omega)]; omega
   · rw [if_neg h1]
     by_cases h2 : k = j
     · subst h2
       rw [if_pos rfl, if_pos (by omega), if_neg (by omega)]; omega
     · rw [if_neg h2]
       by_cases h3 : i < k ∧ k ≤ j
       · rw [if_pos h3, if_pos (by omega)]; omega
       · rw [if_neg h3, if_neg (by omega)]; omega
theorem Z05g {a : Nat → Int} {i j n : Nat} (hij : i < j) (hj : j < n) : Maj a (mvF a i j) n := by
 refine ⟨?_, fun k _ => ?_⟩
 · rw [ZaB hij, if_neg (by omega)]; omega
 · rw [ZaB hij]; split <;> omega
theorem Z7Y {a b : Nat → Int} {i j : Nat} (hij : i < j) : ∀ n, ap a b n - 1 ≤ ap (mvF a i j) b n ∧ (n ≤ j → ap (mvF a i j) b n ≤ ap a b n) ∧ ap (mvF a i j) b n ≤ ap a b n + 1
 | 0 => by simp [ap, ps]
 | n + 1 => by
   obtain ⟨h1, h2, h3⟩ := Z7Y (a := a) (b := b) hij n
   simp only [ap, ps] at *
   have key : (n ≤ i → ps (fun i_1 => max (mvF a i j i_1 - b i_1) 0) n = ps (fun i => max (a i - b i) 0) n) := fun hn => Z0q n fun m hm => by
     simp only [mvF]; rw [if_neg (by omega), if_neg (by omega)]
   have e : mvF a i j n = (if n = i then a n - 1 else if n = j then a n + 1 else a n) := rfl
   rw [e]
   by_cases hi : n = i
   · have := key (by omega)
     rw [if_pos hi]; omega
   · rw [if_neg hi]
     by_cases hj : n = j
     · have := h2 (by omega)
       rw [if_pos hj]; omega
     · rw [if_neg hj]; omega
theorem ZiO {P : Nat → Prop} [DecidablePred P] : ∀ n, (∃ k, k < n ∧ P k) → ∃ k, k < n ∧ P k ∧ ∀ m, m < k → ¬ P m
 | 0, h => by obtain ⟨k, hk, _⟩ := h; omega
 | n + 1, h => by
   by_cases hx : ∃ k, k < n ∧ P k
   · obtain ⟨k, h1, h2, h3⟩ := ZiO n hx
     exact ⟨k, by omega, h2, h3⟩
   · obtain ⟨k, hk, hp⟩ := h
     have : k = n := by
       by_cases e : k = n
       · exact e
       · exact absurd ⟨k, by omega, hp⟩ hx
     subst this
     exact ⟨k, by omega, hp, fun m hm hpm => hx ⟨m, hm, hpm⟩⟩
theorem ZsA {P : Nat → Prop} [DecidablePred P] : ∀ n, (∃ k, k < n ∧ P k) → ∃ k, k < n ∧ P k ∧ ∀ m, k < m → m < n → ¬ P m
 | 0, h => by obtain ⟨k, hk, _⟩ := h; omega
 | n + 1, h => by
   by_cases hp : P n
   · exact ⟨n, by omega, hp, fun m h1 h2 => by omega⟩
   · obtain ⟨k, hk, hpk⟩ := h
     have hkn : k ≠ n := fun e => hp (e ▸ hpk)
     obtain ⟨k', h1, h2, h3⟩ := ZsA n ⟨k, by omega, hpk⟩
     refine ⟨k', by omega, h2, fun m hm1 hm2 => ?_⟩
     by_cases e : m = n
     · subst e; exact hp
     · exact h3 m hm1 (by omega)
theorem Zz4 {a b : Nat → Int} : ∀ n, (∀ i, i < n → b i ≤ a i) → ps b n ≤ ps a n
 | 0, _ => by simp [ps]
 | n + 1, h => by
   have := Zz4 n fun i hi => h i (by omega)
   have := h n (by omega)
   simp only [ps]; omega
theorem Z4P {a b : Nat → Int} {i : Nat} : ∀ n, i < n → (∀ m, m < n → b m ≤ a m) → ps b n + (a i - b i) ≤ ps a n
 | 0, hi, _ => by omega
 | n + 1, hi, h => by
   simp only [ps]
   by_cases e : i = n
   · subst e
     have := Zz4 i fun m hm => h m (by omega)
     omega
   · have := Z4P (i := i) n (by omega) fun m hm => h m (by omega)
     have := h n (by omega)
     omega
theorem ZGC {a b : Nat → Int} {n : Nat} (ha : DescF a n) (hb : DescF b n) (h : Maj a b n) (hne : ∃ k, k < n ∧ a k ≠ b k) :
   ∃ i j, i < j ∧ j < n ∧ a i - a j ≥ 2 ∧ DescF (mvF a i j) n ∧ Maj (mvF a i j) b n ∧ ap (mvF a i j) b n = ap a b n - 1 ∧ (∀ m, i < m → m < n → a m < a i) ∧ (∀ m, m < j → a j < a m) := by
 have hlt : ∃ k, k < n ∧ a k < b k := by
   by_cases hx : ∃ k, k < n ∧ a k < b k
   · exact hx
   · have hge : ∀ m, m < n → b m ≤ a m := fun m hm => by
       by_cases e : a m < b m
       · exact absurd ⟨m, hm, e⟩ hx
       · omega
     obtain ⟨k, hk, hk2⟩ := hne
     have := Z4P (i := k) n hk hge
     have := hge k hk
     have := h.eq
     omega
 obtain ⟨j, hj, hjl, hjf⟩ := ZiO n hlt
 have hgt : ∃ k, k < j ∧ b k < a k := by
   by_cases hx : ∃ k, k < j ∧ b k < a k
   · exact hx
   · have hle : ∀ m, m < j → a m ≤ b m := fun m hm => by
       by_cases e : b m < a m
       · exact absurd ⟨m, hm, e⟩ hx
       · omega
     have := Zz4 (a := b) (b := a) j hle
     have := h.le (j + 1) (by omega)
     simp only [ps] at this
     omega
 obtain ⟨i, hi, hig, hil⟩ := ZsA j hgt
 have mid : ∀ m, i < m → m < j → a m = b m := fun m h1 h2 => by
   have := hil m h1 h2
   have := hjf m h2
   omega
 have before : ∀ m, m < j → b m ≤ a m := fun m hm => by have := hjf m hm; omega
 have bij : b j ≤ b i := Z0M hb (by omega) hj
 have h2 : a i - a j ≥ 2 := by omega
 have li : ∀ m, i < m → m < n → a m < a i := fun m h1 hm => by
   by_cases e : m < j
   · have := mid m h1 e
     have := Z0M hb (show i ≤ m by omega) hm
     omega
   · have := Z0M ha (show j ≤ m by omega) hm
     omega
 have fj : ∀ m, m < j → a j < a m := fun m hm => by
   by_cases e : i < m
   · have := mid m e hm
     have := Z0M hb (show m ≤ j by omega) hj
     omega
   · have := Z0M ha (show m ≤ i by omega) (by omega)
     omega
 refine ⟨i, j, hi, hj, h2, ?_, ?_, ?_, li, fj⟩
 · intro m hm
   have d := ha m hm
   simp only [mvF]
   by_cases e1 : m + 1 = i
   · rw [if_pos e1, if_neg (by omega), if_neg (by omega)]; omega
   · rw [if_neg e1]
     by_cases e2 : m + 1 = j
     · rw [if_pos e2]
       have := fj m (by omega)
       subst e2
       by_cases e3 : m = i
       · subst e3; rw [if_pos rfl]; omega
       · rw [if_neg e3, if_neg (by omega)]; omega
     · rw [if_neg e2]
       by_cases e3 : m = i
       · subst e3; rw [if_pos rfl]
         have := li (m + 1) (by omega) hm
         omega
       · rw [if_neg e3]
         by_cases e4 : m = j
         · rw [if_pos e4]; omega
         · rw [if_neg e4]; exact d
 · refine ⟨?_, fun k hk => ?_⟩
   · rw [ZaB hi, if_neg (by omega)]; have := h.eq; omega
   · rw [ZaB hi]
     have := h.le k hk
     split
     · rename_i hc
       have := Z4P (a := a) (b := b) (i := i) k (by omega) fun m hm => before m (by omega)
       omega
     · omega
 · have key : ∀ k, k ≤ n → ap (mvF a i j) b k = ap a b k - (if i < k then 1 else 0) := by
     intro k
     induction k with
     | zero => intro _; simp [ap, ps]
     | succ k ih =>
       intro hk
       have ih := ih (by omega)
       simp only [ap, ps] at ih ⊢
       rw [ih]
       have e : mvF a i j k = (if k = i then a k - 1 else if k = j then a k + 1 else a k) := rfl
       rw [e]
       by_cases e1 : k = i
       · subst e1; rw [if_pos rfl, if_neg (by omega), if_pos (by omega)]; omega
       · rw [if_neg e1]
         by_cases e2 : k = j
         · subst e2; rw [if_pos rfl, if_pos (by omega), if_pos (by omega)]; omega
         · rw [if_neg e2]
           by_cases e3 : i < k
           · rw [if_pos e3, if_pos (by omega)]; omega
           · rw [if_neg e3, if_neg (by omega)]; omega
   have := key n (Nat.le_refl _)
   rwa [if_pos (by omega)] at this
theorem Z5p (a b : Nat → Int) : ∀ n, 0 ≤ ap a b n
 | 0 => by simp [ap, ps]
 | n + 1 => by
   have := Z5p a b n
   simp only [ap, ps] at *; omega
theorem Z1o {a b : Nat → Int} : ∀ n, ap a b n = 0 ↔ ∀ k, k < n → a k ≤ b k
 | 0 => by simp [ap, ps]
 | n + 1 => by
   have ih := Z1o (a := a) (b := b) n
   have := Z5p a b n
   simp only [ap, ps] at *
   constructor
   · intro h k hk
     by_cases e : k = n
     · subst e; omega
     · exact ih.1 (by omega) k (by omega)
   · intro h
     have := ih.2 fun k hk => h k (by omega)
     have := h n (by omega)
     omega
theorem Z7W {a b : Nat → Int} {n : Nat} (h : ∀ k, k < n → a k ≤ b k) (he : ps a n = ps b n) : ∀ k, k < n → a k = b k := fun k hk => by
 have := Z4P (a := b) (b := a) (i := k) n hk h
 have := h k hk
 omega
end Go.AM.Rub
end
noncomputable section
namespace Go.AM.Rub
def IsRow : Int → List Int → Prop
 | _, [] => True
 | m, x :: l => 0 ≤ x ∧ x ≤ m ∧ IsRow x l
def totL : List Int → Int
 | [] => 0
 | x :: l => x + totL l
def dnN : Nat → List Int
 | 0 => [0]
 | n + 1 => ((n + 1 : Nat) : Int) :: dnN n
def dn (k : Int) : List Int := if k < 0 then [] else dnN k.toNat
theorem Zvq : ∀ (n : Nat) (x : Int), x ∈ dnN n ↔ 0 ≤ x ∧ x ≤ n
 | 0, x => by simp [dnN]; omega
 | n + 1, x => by
   simp only [dnN, List.mem_cons, Zvq n x]
   omega
theorem ZCJ (k x : Int) : x ∈ dn k ↔ 0 ≤ x ∧ x ≤ k := by
 unfold dn
 split
 · simp; omega
 · rw [Zvq]; omega
theorem Zc0 : ∀ n, (dnN n).length = n + 1
 | 0 => rfl
 | n + 1 => by simp [dnN, Zc0 n]
def rowsL : Nat → Int → Int → List (List Int)
 | 0, s, _ => if s = 0 then [[]] else []
 | n + 1, s, m => (dn (min m s)).flatMap fun t => (rowsL n (s - t) t).map (t :: ·)
theorem Z7P : ∀ {m : Int} {l : List Int}, IsRow m l → 0 ≤ totL l
 | _, [], _ => by simp [totL]
 | m, x :: l, ⟨h1, h2, h3⟩ => by have := Z7P h3; simp only [totL]; omega
theorem Z5f : ∀ (n : Nat) (s m : Int) (l : List Int), l ∈ rowsL n s m ↔ l.length = n ∧ totL l = s ∧ IsRow m l
 | 0, s, m, l => by
   simp only [rowsL]
   constructor
   · intro h
     split at h
     · rename_i hs
       have h : l = [] := by simpa using h
       subst h; exact ⟨rfl, by simp [totL, hs], trivial⟩
     · simp at h
   · rintro ⟨h1, h2, h3⟩
     obtain rfl := List.length_eq_zero_iff.1 h1
     simp only [totL] at h2
     rw [if_pos h2.symm]; simp
 | n + 1, s, m, l => by
   simp only [rowsL, List.mem_flatMap, List.mem_map, ZCJ]
   constructor
   · rintro ⟨t, ⟨t0, t1⟩, r, hr, rfl⟩
     obtain ⟨h1, h2, h3⟩ := (Z5f n (s - t) t r).1 hr
     exact ⟨by simp [h1], by simp only [totL]; omega, t0, by omega, h3⟩
   · rintro ⟨h1, h2, h3⟩
     match l, h1, h2, h3 with
     | x :: r, h1, h2, ⟨a, b, c⟩ =>
       have := Z7P c
       simp only [totL] at h2
       exact ⟨x, ⟨a, by omega⟩, r, (Z5f n (s - x) x r).2 ⟨by simpa using h1, by omega, c⟩, rfl⟩
theorem Zpk {β : Type} {f : Int → List β} {M : Nat} : ∀ {ts : List Int}, (∀ t ∈ ts, (f t).length ≤ M) → (ts.flatMap f).length ≤ ts.length * M
 | [], _ => by simp
 | t :: ts, h => by
   have := Zpk (f := f) (M := M) (ts := ts) fun u hu => h u (by simp [hu])
   have := h t (by simp)
   simp only [List.flatMap_cons, List.length_append, List.length_cons, Nat.add_mul, Nat.one_mul]
   omega
theorem Zfe : ∀ (n : Nat) (s m : Int), m ≤ 8 → (rowsL n s m).length ≤ 9 ^ n
 | 0, s, m, _ => by simp only [rowsL]; split <;> simp
 | n + 1, s, m, hm => by
   simp only [rowsL]
   refine Nat.le_trans (Zpk (M := 9 ^ n) fun t ht => ?_) ?_
   · rw [List.length_map]
     have := (ZCJ _ _).1 ht
     exact Zfe n (s - t) t (by omega)
   · rw [Nat.pow_succ, Nat.mul_comm (9 ^ n)]
     refine Nat.mul_le_mul_right _ ?_
     unfold dn
     split
     · simp
     · rw [Zc0]; omega
def rowF (l : List Int) (i : Nat) : Int := l.getD i 0
theorem Zrg (x : Int) (l : List Int) : ∀ k, ps (rowF (x :: l)) (k + 1) = x + ps (rowF l) k
 | 0 => by simp [ps, rowF]
 | k + 1 => by rw [ps, Zrg x l k, ps]; simp [rowF]; omega
theorem Z0W : ∀ l : List Int, ps (rowF l) l.length = totL l
 | [] => rfl
 | x :: l => by rw [List.length_cons, Zrg, Z0W l]; rfl
theorem Z0r : ∀ {m : Int} {l : List Int}, IsRow m l → DescF (rowF l) l.length
 | _, [], _ => fun i hi => by simp at hi
 | m, x :: l, ⟨h1, h2, h3⟩ => fun i hi => by
   cases i with
   | zero =>
     cases l with
     | nil => simp at hi
     | cons y l => simp only [rowF]; simp; exact h3.2.1
   | succ i =>
     have := Z0r h3 i (by simpa using hi)
     simpa [rowF] using this
end Go.AM.Rub
end
noncomputable section
namespace Go.AM.Rub
noncomputable section
variable {α : Type}
def addN [DecidableEq α] (all : List α) : List α → List α
 | [] => all
 | l :: ls => if l ∈ all then addN all ls else addN (all ++ [l]) ls
theorem Z2T [DecidableEq α] : ∀ (ls all : List α), ∃ new, addN all ls = all ++ new ∧ (∀ l ∈ new, l ∈ ls ∧ l ∉ all) ∧ (all.Nodup → (all ++ new).Nodup) ∧ ∀ l ∈ ls, l ∈ all ++ new
 | [], all => ⟨[], by simp [addN], by simp, by simp, by simp⟩
 | l :: ls, all => by
   by_cases h : l ∈ all
   · obtain ⟨new, e, a, b, c⟩ := Z2T ls all
     refine ⟨new, by rw [addN, if_pos h, e], fun x hx => ⟨by simp [(a x hx).1], (a x hx).2⟩, b, fun x hx => ?_⟩
     rcases List.mem_cons.1 hx with rfl | hx
     · simp [h]
     · exact c x hx
   · obtain ⟨new, e, a, b, c⟩ := Z2T ls (all ++ [l])
     refine ⟨l :: new, by rw [addN, if_neg h, e]; simp, fun x hx => ?_, fun hn => ?_, fun x hx => ?_⟩
     · rcases List.mem_cons.1 hx with rfl | hx
       · exact ⟨by simp, h⟩
       · obtain ⟨p, q⟩ := a x hx
         exact ⟨by simp [p], fun hm => q (by simp [hm])⟩
     · have : (all ++ [l]).Nodup := by
         rw [List.nodup_append]
         refine ⟨hn, by simp, fun x hx y hy => ?_⟩
         intro e
         simp at hy
         rw [e, hy] at hx
         exact h hx
       have := b this
       simpa using this
     · rcases List.mem_cons.1 hx with rfl | hx
       · simp
       · have := c x hx; simpa using this
structure Lev (S : α → Prop) (nb : α → List α) (D : α → Nat) (row : α) : Prop where
 s0 : S row
 d0 : D row = 0
 one : ∀ y, S y → D y = 0 → y = row
 fw : ∀ x, S x → ∀ y ∈ nb x, S y ∧ D y ≤ D x + 1
 bw : ∀ y, S y → ∀ d, D y = d + 1 → ∃ x, S x ∧ D x = d ∧ y ∈ nb x
structure BInv (S : α → Prop) (nb : α → List α) (D : α → Nat) (row : α) (all : List α) (i : Nat) : Prop where
 nd : all.Nodup
 sub : ∀ x ∈ all, S x
 hd : all[0]? = some row
 srt : ∀ (k m : Nat) (x y : α), k ≤ m → all[k]? = some x → all[m]? = some y → D x ≤ D y
 pr : ∀ (k : Nat) (x : α), k < i → all[k]? = some x → ∀ y ∈ nb x, y ∈ all
 cmp : ∀ x : α, all[i]? = some x → (∀ y, S y → D y ≤ D x → y ∈ all) ∧ ∀ y ∈ all, D y ≤ D x + 1
 le : i ≤ all.length
variable {S : α → Prop} {nb : α → List α} {D : α → Nat} {row : α}
theorem ZA5 (h : Lev S nb D row) : BInv S nb D row [row] 0 := by
 refine ⟨by simp, fun x hx => by simp at hx; subst hx; exact h.s0, rfl, fun k m x y hkm hx hy => ?_, fun k x hk => by omega, fun x hx => ?_, by simp⟩
 · have : m = 0 := by have := (List.getElem?_eq_some_iff.1 hy).1; simp at this; omega
   have : k = 0 := by omega
   subst_vars
   rw [hx] at hy; simp at hy; subst hy; exact Nat.le_refl _
 · simp at hx; subst hx
   refine ⟨fun y hy hd => ?_, fun y hy => ?_⟩
   · have := h.one y hy (by have := h.d0; omega)
     simp [this]
   · simp at hy; subst hy; omega
theorem ZkB [DecidableEq α] (h : Lev S nb D row) {all : List α} {i : Nat} (hi : BInv S nb D row all i) {x : α} (hx : all[i]? = some x) :
   BInv S nb D row (addN all (nb x)) (i + 1) ∧ ∀ new, addN all (nb x) = all ++ new → ∀ l ∈ new, D l = D x + 1 := by
 obtain ⟨nd, sub, hd, srt, pr, cmp, le⟩ := hi
 obtain ⟨c1, c2⟩ := cmp x hx
 obtain ⟨new, e, a, b, c⟩ := Z2T (nb x) all
 have sx := sub x (List.mem_of_getElem? hx)
 have hnew : ∀ l ∈ new, D l = D x + 1 := by
   intro l hl
   obtain ⟨p, q⟩ := a l hl
   obtain ⟨s1, s2⟩ := h.fw x sx l p
   by_cases e : D l ≤ D x
   · exact absurd (c1 l s1 e) q
   · omega
 refine ⟨?_, fun new' e' => ?_⟩
 · rw [e]
   have hlt := (List.getElem?_eq_some_iff.1 hx).1
   have old : ∀ (k : Nat) (y : α), k < all.length → (all ++ new)[k]? = some y → all[k]? = some y := fun k y hk hy => by rwa [List.getElem?_append_left hk] at hy
   have new' : ∀ (k : Nat) (y : α), all.length ≤ k → (all ++ new)[k]? = some y → y ∈ new := fun k y hk hy => by
     rw [List.getElem?_append_right hk] at hy; exact List.mem_of_getElem? hy
   have hsub : ∀ y ∈ all ++ new, S y := fun y hy => by
     rcases List.mem_append.1 hy with hy | hy
     · exact sub y hy
     · exact (h.fw x sx y (a y hy).1).1
   have hsrt : ∀ (k m : Nat) (y z : α), k ≤ m → (all ++ new)[k]? = some y → (all ++ new)[m]? = some z → D y ≤ D z := by
     intro k m y z hkm hy hz
     by_cases h1 : m < all.length
     · exact srt k m y z hkm (old k y (by omega) hy) (old m z h1 hz)
     · have dz := hnew z (new' m z (by omega) hz)
       by_cases h2 : k < all.length
       · have := c2 y (List.mem_of_getElem? (old k y h2 hy)); omega
       · have := hnew y (new' k y (by omega) hy); omega
   have hpr : ∀ (k : Nat) (y : α), k < i + 1 → (all ++ new)[k]? = some y → ∀ z ∈ nb y, z ∈ all ++ new := by
     intro k y hk hy z hz
     by_cases e : k = i
     · subst e
       have := old k y hlt hy
       rw [hx] at this; obtain rfl := Option.some.inj this
       exact c z hz
     · exact List.mem_append.2 (.inl (pr k y (by omega) (old k y (by omega) hy) z hz))
   refine ⟨b nd, hsub, by rw [List.getElem?_append_left (by omega)]; exact hd, hsrt, hpr, fun y hy => ?_, by simp; omega⟩
   have hxx : (all ++ new)[i]? = some x := by rw [List.getElem?_append_left hlt]; exact hx
   have dxy := hsrt i (i + 1) x y (by omega) hxx hy
   have dy : D y = D x ∨ D y = D x + 1 := by
     by_cases h1 : i + 1 < all.length
     · have := c2 y (List.mem_of_getElem? (old _ y h1 hy)); omega
     · have := hnew y (new' _ y (by omega) hy); omega
   refine ⟨fun z hz hdz => ?_, fun z hz => ?_⟩
   · by_cases h1 : D z ≤ D x
     · exact List.mem_append.2 (.inl (c1 z hz h1))
     · -- one level on: the step before it has been seen
       obtain ⟨w, sw, dw, hw⟩ := h.bw z hz (D x) (by omega)
       have hwm := c1 w sw (by omega)
       obtain ⟨k, hk⟩ := List.mem_iff_getElem?.1 hwm
       by_cases h2 : k < i + 1
       · exact hpr k w h2 (by rw [List.getElem?_append_left (List.getElem?_eq_some_iff.1 hk).1]; exact hk) z hw
       · have h3 := hsrt (i + 1) k y w (by omega) hy (by rw [List.getElem?_append_left (List.getElem?_eq_some_iff.1 hk).1]; exact hk)
         omega
   · rcases List.mem_append.1 hz with hz | hz
     · have := c2 z hz; omega
     · have := hnew z hz; omega
 · have : new' = new := List.append_cancel_left (e'.symm.trans e)
   subst this; exact hnew
theorem ZZN (h : Lev S nb D row) {all : List α} (hi : BInv S nb D row all all.length) : ∀ d y, S y → D y = d → y ∈ all := by
 intro d
 induction d with
 | zero => intro y hy hd; rw [h.one y hy hd]; exact List.mem_of_getElem? hi.hd
 | succ d ih =>
   intro y hy hd
   obtain ⟨x, sx, dx, hx⟩ := h.bw y hy d hd
   obtain ⟨k, hk⟩ := List.mem_iff_getElem?.1 (ih x sx dx)
   exact hi.pr k x (List.getElem?_eq_some_iff.1 hk).1 hk y hx
theorem ZQ6 (h : Lev S nb D row) {all : List α} (hi : BInv S nb D row all all.length) (y : α) : y ∈ all ↔ S y := ⟨hi.sub y, fun hy => ZZN h hi _ y hy rfl⟩
theorem ZfE [DecidableEq α] : ∀ (l u : List α), l.Nodup → (∀ x ∈ l, x ∈ u) → l.length ≤ u.length
 | [], u, _, _ => by simp
 | x :: l, u, hn, hs => by
   have hx := hs x (by simp)
   have hn' := List.nodup_cons.1 hn
   have : l.length ≤ (u.erase x).length := ZfE l (u.erase x) hn'.2 fun y hy => by
     have hne : y ≠ x := fun e => hn'.1 (e ▸ hy)
     rw [List.mem_erase_of_ne hne]
     exact hs y (by simp [hy])
   have hl := List.length_erase_of_mem hx
   have : 0 < u.length := List.length_pos_of_mem hx
   simp only [List.length_cons]
   omega
end
end Go.AM.Rub
end
noncomputable section
namespace Go.AM.Rub
theorem Z4N : ∀ {m : Int} {l : List Int}, (∀ i, i < l.length → 0 ≤ rowF l i) → (0 < l.length → rowF l 0 ≤ m) → DescF (rowF l) l.length → IsRow m l
 | _, [], _, _, _ => trivial
 | m, x :: l, h1, h2, h3 => by
   refine ⟨h1 0 (by simp), h2 (by simp), Z4N (fun i hi => ?_) (fun hl => ?_) (fun i hi => ?_)⟩
   · have := h1 (i + 1) (by simpa using hi); simpa [rowF] using this
   · have := h3 0 (by simpa using hl); simpa [rowF] using this
   · have := h3 (i + 1) (by simpa using hi); simpa [rowF] using this
theorem ZV : ∀ {m : Int} {l : List Int}, IsRow m l → ∀ i, i < l.length → 0 ≤ rowF l i ∧ rowF l i ≤ m
 | _, [], _, i, hi => by simp at hi
 | m, x :: l, ⟨h1, h2, h3⟩, i, hi => by
   cases i with
   | zero => simp only [rowF]; simp; exact ⟨h1, h2⟩
   | succ i =>
     have := ZV h3 i (by simpa using hi)
     have e : rowF (x :: l) (i + 1) = rowF l i := by simp [rowF]
     rw [e]; omega
theorem Z3k {a b : List Int} (hl : a.length = b.length) (h : ∀ i, i < a.length → rowF a i = rowF b i) : a = b := by
 apply List.ext_getElem hl
 intro i h1 h2
 have := h i h1
 simpa [rowF, h1, h2] using this
def mvL (l : List Int) (i j : Nat) : List Int := (l.set i (rowF l i - 1)).set j (rowF l j + 1)
theorem ZE (l : List Int) (i j : Nat) : (mvL l i j).length = l.length := by simp [mvL]
theorem Z0L {l : List Int} {i j : Nat} (hij : i < j) (hj : j < l.length) (m : Nat) : rowF (mvL l i j) m = mvF (rowF l) i j m := by
 simp only [mvL, mvF]
 have e : ∀ (l : List Int) (k m : Nat) (v : Int), k < l.length → rowF (l.set k v) m = if m = k then v else rowF l m := by
   intro l k m v hk
   simp only [rowF, List.getD_eq_getElem?_getD, List.getElem?_set]
   by_cases h : k = m
   · subst h; simp [hk]
   · rw [if_neg h, if_neg (by omega)]
 rw [e _ _ _ _ (by simp; omega), e _ _ _ _ (by omega)]
 by_cases h1 : m = j
 · rw [if_pos h1, if_neg (by omega), if_pos h1, h1]
 · rw [if_neg h1, if_neg h1]
   by_cases h2 : m = i
   · rw [if_pos h2, if_pos h2, h2]
   · rw [if_neg h2, if_neg h2]
def lastEq (l : List Int) : Nat → Nat → Nat
 | i, 0 => i
 | i, m + 1 => if i + 1 < l.length ∧ rowF l (i + 1) = rowF l i then lastEq l (i + 1) m else i
def firstEq (l : List Int) : Nat → Nat
 | 0 => 0
 | j + 1 => if rowF l j = rowF l (j + 1) then firstEq l j else j + 1
theorem Z2t {l : List Int} (hd : DescF (rowF l) l.length) : ∀ (m i : Nat), i + m + 1 ≥ l.length → i < l.length → i ≤ lastEq l i m ∧ lastEq l i m < l.length ∧ rowF l (lastEq l i m) = rowF l i ∧ ∀ k, lastEq l i m < k → k < l.length → rowF l k < rowF l i
 | 0, i, h1, h2 => ⟨Nat.le_refl _, h2, rfl, fun k hk hk2 => by simp only [lastEq] at hk; omega⟩
 | m + 1, i, h1, h2 => by
   simp only [lastEq]
   by_cases h : i + 1 < l.length ∧ rowF l (i + 1) = rowF l i
   · rw [if_pos h]
     obtain ⟨a, b, c, d⟩ := Z2t hd m (i + 1) (by omega) h.1
     exact ⟨by omega, b, by rw [c, h.2], fun k hk hk2 => by rw [← h.2]; exact d k hk hk2⟩
   · rw [if_neg h]
     refine ⟨Nat.le_refl _, h2, rfl, fun k hk hk2 => ?_⟩
     have h3 : ¬ rowF l (i + 1) = rowF l i := fun e => h ⟨by omega, e⟩
     have h4 := hd i (by omega)
     have h5 := Z0M hd (show i + 1 ≤ k by omega) hk2
     omega
theorem Z22 {l : List Int} (hd : DescF (rowF l) l.length) : ∀ j, j < l.length → firstEq l j ≤ j ∧ rowF l (firstEq l j) = rowF l j ∧ ∀ k, k < firstEq l j → rowF l j < rowF l k
 | 0, _ => ⟨Nat.le_refl _, rfl, fun k hk => by simp only [firstEq] at hk; omega⟩
 | j + 1, hj => by
   simp only [firstEq]
   by_cases h : rowF l j = rowF l (j + 1)
   · rw [if_pos h]
     obtain ⟨a, b, c⟩ := Z22 hd j (by omega)
     exact ⟨by omega, by rw [b, h], fun k hk => by rw [← h]; exact c k hk⟩
   · rw [if_neg h]
     refine ⟨Nat.le_refl _, rfl, fun k hk => ?_⟩
     have h4 := hd j hj
     have h5 := Z0M hd (show k ≤ j by omega) (by omega)
     omega
def rubL (l : List Int) (i j : Nat) : List Int := mvL l (lastEq l i l.length) (firstEq l j)
structure Rw (n : Nat) (l : List Int) : Prop where
 len : l.length = n
 row : IsRow 8 l
theorem ZCX {n : Nat} {l : List Int} (h : Rw n l) {i j : Nat} (hij : i < j) (hj : j < n) (h2 : rowF l i - rowF l j ≥ 2) (hd : DescF (mvF (rowF l) i j) n) : Rw n (mvL l i j) := by
 have hl := h.len
 refine ⟨by rw [ZE, hl], Z4N (fun k hk => ?_) (fun hk => ?_) (fun k hk => ?_)⟩
 · rw [ZE] at hk
   rw [Z0L hij (by omega)]
   have a := ZV h.row k hk
   have b := ZV h.row j (by omega)
   simp only [mvF]
   by_cases e1 : k = i
   · rw [if_pos e1, e1]; omega
   · rw [if_neg e1]; split <;> omega
 · rw [Z0L hij (by omega)]
   have a := ZV h.row 0 (by omega)
   have b := ZV h.row i (by omega)
   simp only [mvF]
   by_cases e1 : 0 = i
   · rw [if_pos e1]; omega
   · rw [if_neg e1, if_neg (by omega)]; omega
 · rw [ZE, hl] at hk
   rw [Z0L hij (by omega), Z0L hij (by omega)]
   exact hd k hk
structure Rb (n : Nat) (l : List Int) (i j : Nat) : Prop where
 lt : i < j
 lj : j < n
 df : rowF l i - rowF l j ≥ 2
theorem Z4V {n : Nat} {l : List Int} (h : Rw n l) {i j : Nat} (r : Rb n l i j) : Rb n l (lastEq l i l.length) (firstEq l j) ∧ DescF (mvF (rowF l) (lastEq l i l.length) (firstEq l j)) n := by
 have hl := h.len
 have hd := Z0r h.row
 obtain ⟨a1, a2, a3, a4⟩ := Z2t hd l.length i (by omega) (by have := r.lt; have := r.lj; omega)
 obtain ⟨b1, b2, b3⟩ := Z22 hd j (by have := r.lj; omega)
 have rd := r.df
 have rj := r.lj
 have hij : lastEq l i l.length < firstEq l j := by
   by_cases e : lastEq l i l.length < firstEq l j
   · exact e
   · have := Z0M hd (show firstEq l j ≤ lastEq l i l.length by omega) a2
     omega
 refine ⟨⟨hij, by omega, by omega⟩, fun m hm => ?_⟩
 have dm := hd m (by omega)
 simp only [mvF]
 generalize lastEq l i l.length = i' at *
 generalize firstEq l j = j' at *
 by_cases e1 : m + 1 = i'
 · rw [if_pos e1, if_neg (by omega), if_neg (by omega)]; omega
 · rw [if_neg e1]
   by_cases e2 : m + 1 = j'
   · rw [if_pos e2]
     have := b3 m (by omega)
     by_cases e3 : m = i'
     · rw [if_pos e3, e2, e3]; omega
     · rw [if_neg e3, if_neg (by omega), e2]; omega
   · rw [if_neg e2]
     by_cases e3 : m = i'
     · rw [if_pos e3]
       have := a4 (m + 1) (by omega) (by omega)
       rw [e3] at this ⊢; omega
     · rw [if_neg e3]
       by_cases e4 : m = j'
       · rw [if_pos e4]; omega
       · rw [if_neg e4]; exact dm
theorem Z3l {n : Nat} {l : List Int} (h : Rw n l) {i j : Nat} (r : Rb n l i j) : Rw n (rubL l i j) ∧ ∃ i' j', Rb n l i' j' ∧ rubL l i j = mvL l i' j' := by
 obtain ⟨a, b⟩ := Z4V h r
 exact ⟨ZCX h a.lt a.lj a.df b, _, _, a, rfl⟩
theorem Zds {a b : Nat → Int} : ∀ n, ap a b n - ap b a n = ps a n - ps b n
 | 0 => by simp [ap, ps]
 | n + 1 => by
   have := Zds (a := a) (b := b) n
   simp only [ap, ps] at *; omega
theorem Zg4 {a a' b b' : Nat → Int} {n : Nat} (ha : ∀ i, i < n → a i = a' i) (hb : ∀ i, i < n → b i = b' i) (h : Maj a b n) : Maj a' b' n := by
 refine ⟨?_, fun k hk => ?_⟩
 · rw [← Z0q n ha, ← Z0q n hb]; exact h.eq
 · rw [← Z0q k fun i hi => ha i (by omega), ← Z0q k fun i hi => hb i (by omega)]; exact h.le k hk
theorem Z8g {a a' b b' : Nat → Int} {n : Nat} (ha : ∀ i, i < n → a i = a' i) (hb : ∀ i, i < n → b i = b' i) : ap a b n = ap a' b' n :=
 Z0q n fun i hi => by rw [ha i hi, hb i hi]
def MajL (a b : List Int) : Prop := Maj (rowF a) (rowF b) a.length
def apL (a b : List Int) : Nat := (ap (rowF a) (rowF b) a.length).toNat
theorem Z0D (a b : List Int) : (apL a b : Int) = ap (rowF a) (rowF b) a.length := by
 have := Z5p (rowF a) (rowF b) a.length
 unfold apL; omega
theorem Z4O {a b c : List Int} (hl : a.length = b.length) (h1 : MajL a b) (h2 : MajL b c) : MajL a c := by
 unfold MajL at *
 rw [← hl] at h2
 exact h1.trans h2
theorem Z7B {n : Nat} {l : List Int} (h : Rw n l) {i j : Nat} (r : Rb n l i j) : MajL l (mvL l i j) := by
 have hl := h.len
 exact Zg4 (fun _ _ => rfl) (fun k _ => (Z0L r.lt (by have := r.lj; omega) k).symm) (Z05g r.lt (by have := r.lj; omega))
theorem Zym {n : Nat} {a l : List Int} (ha : a.length = n) (h : Rw n l) (hm : MajL a l) {i j : Nat} (r : Rb n l i j) : apL a (mvL l i j) ≤ apL a l + 1 ∧ apL a l ≤ apL a (mvL l i j) + 1 := by
 have hl := h.len
 have hj : j < l.length := by have := r.lj; omega
 have c1 := Z0D a l
 have c2 := Z0D a (mvL l i j)
 have m2 := Z4O (by omega) hm (Z7B h r)
 have s1 := Zds (a := rowF a) (b := rowF l) a.length
 have s2 := Zds (a := rowF a) (b := rowF (mvL l i j)) a.length
 have e1 := hm.eq
 have e2 := m2.eq
 have e3 : ap (rowF (mvL l i j)) (rowF a) a.length = ap (mvF (rowF l) i j) (rowF a) a.length := Z8g (fun k _ => Z0L r.lt hj k) (fun _ _ => rfl)
 obtain ⟨x1, _, x2⟩ := Z7Y (a := rowF l) (b := rowF a) r.lt a.length
 omega
theorem Z43 {n : Nat} {a b : List Int} (ha : Rw n a) (hb : Rw n b) (h : MajL a b) (hne : a ≠ b) :
   ∃ i j, Rb n a i j ∧ Rw n (mvL a i j) ∧ MajL (mvL a i j) b ∧ apL a b = apL (mvL a i j) b + 1 ∧ rubL a i j = mvL a i j := by
 have la := ha.len
 have lb := hb.len
 have hx : ∃ k, k < n ∧ rowF a k ≠ rowF b k := by
   by_cases e : ∃ k, k < n ∧ rowF a k ≠ rowF b k
   · exact e
   · refine absurd (Z3k (by omega) fun i hi => ?_) hne
     by_cases e2 : rowF a i = rowF b i
     · exact e2
     · exact absurd ⟨i, by omega, e2⟩ e
 have da := Z0r ha.row
 have db := Z0r hb.row
 unfold MajL at h
 rw [la] at da h
 rw [lb] at db
 obtain ⟨i, j, h1, h2, h3, h4, h5, h6, h7, h8⟩ := ZGC da db h hx
 have r : Rb n a i j := ⟨h1, h2, h3⟩
 have hj : j < a.length := by omega
 refine ⟨i, j, r, ZCX ha h1 h2 h3 h4, ?_, ?_, ?_⟩
 · unfold MajL
   rw [ZE, la]
   exact Zg4 (fun k _ => (Z0L h1 hj k).symm) (fun _ _ => rfl) h5
 · have c1 := Z0D a b
   have c2 := Z0D (mvL a i j) b
   rw [ZE] at c2
   have e : ap (rowF (mvL a i j)) (rowF b) a.length = ap (mvF (rowF a) i j) (rowF b) n := by rw [la]; exact Z8g (fun k _ => Z0L h1 hj k) (fun _ _ => rfl)
   rw [la] at c1 c2 e
   omega
 · obtain ⟨a1, a2, a3, a4⟩ := Z2t (Z0r ha.row) a.length i (by omega) (by omega)
   obtain ⟨b1, b2, b3⟩ := Z22 (Z0r ha.row) j (by omega)
   have e1 : lastEq a i a.length = i := by
     by_cases e : lastEq a i a.length = i
     · exact e
     · have := h7 (lastEq a i a.length) (by omega) (by omega); omega
   have e2 : firstEq a j = j := by
     by_cases e : firstEq a j = j
     · exact e
     · have := h8 (firstEq a j) (by omega); omega
   rw [rubL, e1, e2]
theorem ZFq {n : Nat} {b : List Int} (hb : Rw n b) : ∀ (d : Nat) (a : List Int), Rw n a → MajL a b → apL a b = d + 1 → ∃ x, Rw n x ∧ MajL a x ∧ apL a x = d ∧ ∃ i j, Rb n x i j ∧ rubL x i j = b := by
 intro d
 induction d with
 | zero =>
   intro a ha h hd
   have hne : a ≠ b := fun e => by
     subst e
     have := (Z1o (a := rowF a) (b := rowF a) a.length).2 fun k _ => Int.le_refl _
     unfold apL at hd; omega
   obtain ⟨i, j, r, h1, h2, h3, h4⟩ := Z43 ha hb h hne
   refine ⟨a, ha, Maj.refl _ _, ?_, i, j, r, ?_⟩
   · have := (Z1o (a := rowF a) (b := rowF a) a.length).2 fun k _ => Int.le_refl _
     unfold apL; omega
   · rw [h4]
     have c := Z0D (mvL a i j) b
     have z := (Z1o (a := rowF (mvL a i j)) (b := rowF b) (mvL a i j).length).1 (by omega)
     exact Z3k (by rw [h1.len, hb.len]) (Z7W z h2.eq)
 | succ d ih =>
   intro a ha h hd
   have hne : a ≠ b := fun e => by
     subst e
     have := (Z1o (a := rowF a) (b := rowF a) a.length).2 fun k _ => Int.le_refl _
     unfold apL at hd; omega
   obtain ⟨i, j, r, h1, h2, h3, h4⟩ := Z43 ha hb h hne
   obtain ⟨x, x1, x2, x3, i', j', x4, x5⟩ := ih (mvL a i j) h1 h2 (by omega)
   have ax := Z4O (by rw [ZE]) (Z7B ha r) x2
   refine ⟨x, x1, ax, ?_, i', j', x4, x5⟩
   have la := ha.len
   have up : apL a x ≤ apL (mvL a i j) x + 1 := by
     have c1 := Z0D a x
     have c2 := Z0D (mvL a i j) x
     rw [ZE] at c2
     have e : ap (rowF (mvL a i j)) (rowF x) a.length = ap (mvF (rowF a) i j) (rowF x) a.length := Z8g (fun k _ => Z0L r.lt (by have := r.lj; omega) k) (fun _ _ => rfl)
     obtain ⟨y1, _, _⟩ := Z7Y (a := rowF a) (b := rowF x) r.lt a.length
     omega
   obtain ⟨p, q⟩ := Z4V x1 x4
   have := (Zym la x1 ax p).1
   rw [show mvL x (lastEq x i' x.length) (firstEq x j') = b from x5] at this
   omega
theorem ZRR {n : Nat} {a : List Int} (ha : Rw n a) (nb : List Int → List (List Int)) (hnb : ∀ x, Rw n x → ∀ y, y ∈ nb x ↔ ∃ i j, Rb n x i j ∧ y = rubL x i j) :
   Lev (fun b => Rw n b ∧ MajL a b) nb (apL a) a := by
 have la := ha.len
 refine ⟨⟨ha, Maj.refl _ _⟩, ?_, fun y hy h0 => ?_, fun x hx y hy => ?_, fun y hy d hd => ?_⟩
 · have := (Z1o (a := rowF a) (b := rowF a) a.length).2 fun k _ => Int.le_refl _
   unfold apL; omega
 · have c := Z0D a y
   have z := (Z1o (a := rowF a) (b := rowF y) a.length).1 (by omega)
   exact (Z3k (by rw [la, hy.1.len]) (Z7W z hy.2.eq)).symm
 · obtain ⟨i, j, r, rfl⟩ := (hnb x hx.1 y).1 hy
   obtain ⟨p, q⟩ := Z4V hx.1 r
   refine ⟨⟨(Z3l hx.1 r).1, Z4O (by rw [la, hx.1.len]) hx.2 (Z7B hx.1 p)⟩, (Zym la hx.1 hx.2 p).1⟩
 · obtain ⟨x, x1, x2, x3, i, j, r, e⟩ := ZFq hy.1 d a ha hy.2 hd
   exact ⟨x, ⟨x1, x2⟩, x3, (hnb x x1 y).2 ⟨i, j, r, e.symm⟩⟩
end Go.AM.Rub
end
noncomputable section
namespace Go.AM.Rub
def swpI (l : List Int) (j : Nat) : List Int := (l.set (j + 1) (l.getD j 0)).set j (l.getD (j + 1) 0)
def insI (l : List Int) : Nat → List Int
 | 0 => l
 | j + 1 => if l.getD (j + 1) 0 > l.getD j 0 then insI (swpI l j) j else l
def srtN (l : List Int) : Nat → List Int
 | 0 => l
 | i + 1 => insI (srtN l i) (i + 1)
def srtI (l : List Int) : List Int := srtN l (l.length - 1)
theorem Z2l (l : List Int) (j : Nat) : (swpI l j).length = l.length := by simp [swpI]
theorem Z7R : ∀ (j : Nat) (l : List Int), (insI l j).length = l.length
 | 0, l => rfl
 | j + 1, l => by
   rw [insI]
   split
   · rw [Z7R j, Z2l]
   · rfl
theorem Z2e (l : List Int) : ∀ i, (srtN l i).length = l.length
 | 0 => rfl
 | i + 1 => by rw [srtN, Z7R, Z2e l i]
theorem ZFG (x : Int) (l : List Int) (j : Nat) : swpI (x :: l) (j + 1) = x :: swpI l j := by simp [swpI]
theorem ZpX : ∀ (p : List Int) (a b : Int) (r : List Int), swpI (p ++ a :: b :: r) p.length = p ++ b :: a :: r
 | [], a, b, r => by simp [swpI]
 | x :: p, a, b, r => by rw [List.cons_append, List.length_cons, ZFG, ZpX p a b r, List.cons_append]
theorem ZfA (p : List Int) (a : Int) (r : List Int) : (p ++ a :: r).getD p.length 0 = a := by simp
theorem Z8Q : ∀ (n : Nat) (p : List Int) (x : Int) (r : List Int), p.length = n →
   ∃ a b, p = a ++ b ∧ insI (p ++ x :: r) p.length = a ++ x :: b ++ r ∧ (∀ t ∈ b, x > t) ∧ (∀ t q, a = q ++ [t] → ¬ x > t)
 | 0, p, x, r, hp => by
   obtain rfl := List.length_eq_zero_iff.1 hp
   exact ⟨[], [], rfl, by simp [insI], by simp, by simp⟩
 | n + 1, p, x, r, hp => by
   obtain ⟨q, y, rfl⟩ : ∃ q y, p = q ++ [y] := by
     rcases List.eq_nil_or_concat p with h | ⟨q, y, h⟩
     · rw [h] at hp; simp at hp
     · exact ⟨q, y, by simpa using h⟩
   have hq : q.length = n := by simpa using hp
   have e0 : (q ++ [y] ++ x :: r) = q ++ y :: x :: r := by simp
   have gx : (q ++ [y] ++ x :: r).getD (q.length + 1) 0 = x := by
     have := ZfA (q ++ [y]) x r
     rwa [show (q ++ [y]).length = q.length + 1 by simp] at this
   have gy : (q ++ [y] ++ x :: r).getD q.length 0 = y := by rw [e0]; exact ZfA q y _
   rw [show (q ++ [y]).length = q.length + 1 by simp, insI, gx, gy]
   by_cases h : x > y
   · obtain ⟨a, b, e1, e2, e3, e4⟩ := Z8Q n q x (y :: r) hq
     refine ⟨a, b ++ [y], by rw [e1]; simp, ?_, ?_, e4⟩
     · rw [if_pos h, e0, ZpX, e2]; simp
     · intro t ht
       rcases List.mem_append.1 ht with ht | ht
       · exact e3 t ht
       · obtain rfl : t = y := by simpa using ht
         exact h
   · refine ⟨q ++ [y], [], by simp, by rw [if_neg h]; simp, by simp, ?_⟩
     intro t q' e
     have := List.append_inj_right' e rfl
     obtain rfl : y = t := by simpa using this
     exact h
def DescP (l : List Int) : Prop := l.Pairwise (fun t s => s ≤ t)
theorem ZBZ {a b : List Int} {x : Int} (h : DescP (a ++ b)) (h1 : ∀ t ∈ b, x > t) (h2 : ∀ t q, a = q ++ [t] → ¬ x > t) : DescP (a ++ x :: b) := by
 obtain ⟨ha, hb, hab⟩ := List.pairwise_append.1 h
 have hax : ∀ t ∈ a, x ≤ t := by
   rcases List.eq_nil_or_concat a with e | ⟨q, y, e⟩
   · subst e; simp
   · have e : a = q ++ [y] := by simpa using e
     have hy := h2 y q e
     intro t ht
     rw [e] at ht ha
     obtain ⟨_, _, hqy⟩ := List.pairwise_append.1 ha
     rcases List.mem_append.1 ht with ht | ht
     · have := hqy t ht y (by simp); omega
     · obtain rfl : t = y := by simpa using ht
       omega
 refine List.pairwise_append.2 ⟨ha, List.pairwise_cons.2 ⟨fun t ht => ?_, hb⟩, fun t ht s hs => ?_⟩
 · have := h1 t ht; omega
 · rcases List.mem_cons.1 hs with rfl | hs
   · exact hax t ht
   · exact hab t ht s hs
theorem Z8O (l : List Int) : ∀ i, i < l.length → ∃ p, p.length = i + 1 ∧ srtN l i = p ++ l.drop (i + 1) ∧ p.Perm (l.take (i + 1)) ∧ DescP p
 | 0, h => by
   match l, h with
   | a :: l, _ => exact ⟨[a], rfl, by simp [srtN], by simp, List.pairwise_singleton ..⟩
 | i + 1, h => by
   obtain ⟨p, e1, e2, e3, e4⟩ := Z8O l i (by omega)
   have hd : l.drop (i + 1) = l[i + 1] :: l.drop (i + 1 + 1) := List.drop_eq_getElem_cons h
   obtain ⟨a, b, f1, f2, f3, f4⟩ := Z8Q p.length p l[i + 1] (l.drop (i + 1 + 1)) rfl
   refine ⟨a ++ l[i + 1] :: b, ?_, ?_, ?_, ?_⟩
   · have := congrArg List.length f1
     simp at this ⊢; omega
   · rw [e1] at f2
     rw [srtN, e2, hd, f2]
   · have ht : l.take (i + 1 + 1) = l.take (i + 1) ++ [l[i + 1]] := by rw [List.take_succ_eq_append_getElem h]
     rw [ht]
     refine List.perm_middle.trans ?_
     refine (List.Perm.cons _ (f1 ▸ e3 : (a ++ b).Perm (l.take (i + 1)))).trans ?_
     exact (List.perm_append_singleton _ _).symm
   · rw [f1] at e4
     exact ZBZ e4 f3 f4
theorem ZfB {l : List Int} (h : 0 < l.length) : (srtI l).Perm l ∧ DescP (srtI l) := by
 obtain ⟨p, e1, e2, e3, e4⟩ := Z8O l (l.length - 1) (by omega)
 have hd : l.drop (l.length - 1 + 1) = [] := List.drop_eq_nil_of_le (by omega)
 have ht : l.take (l.length - 1 + 1) = l := List.take_of_length_le (by omega)
 rw [hd, List.append_nil] at e2
 rw [ht] at e3
 unfold srtI
 rw [e2]
 exact ⟨e3, e4⟩
theorem Z7S : ∀ {a b : List Int}, DescP a → DescP b → a.Perm b → a = b
 | [], b, _, _, h => (List.Perm.nil_eq h)
 | x :: a, [], _, _, h => absurd (List.Perm.eq_nil h) (by simp)
 | x :: a, y :: b, ha, hb, h => by
   obtain ⟨ha1, ha2⟩ := List.pairwise_cons.1 ha
   obtain ⟨hb1, hb2⟩ := List.pairwise_cons.1 hb
   have hxy : x = y := by
     have h1 : x ∈ y :: b := h.mem_iff.1 (by simp)
     have h2 : y ∈ x :: a := h.mem_iff.2 (by simp)
     have l1 : x ≤ y := by
       rcases List.mem_cons.1 h1 with e | e
       · omega
       · exact hb1 x e
     have l2 : y ≤ x := by
       rcases List.mem_cons.1 h2 with e | e
       · omega
       · exact ha1 y e
     omega
   subst hxy
   rw [Z7S ha2 hb2 (List.Perm.cons_inv h)]
theorem Zh1 : ∀ {m : Int} {l : List Int}, IsRow m l → DescP l
 | _, [], _ => List.Pairwise.nil
 | m, x :: l, ⟨h1, h2, h3⟩ => List.pairwise_cons.2 ⟨fun y hy => (row_memI h3 hy), Zh1 h3⟩
where row_memI : ∀ {m : Int} {l : List Int} {y : Int}, IsRow m l → y ∈ l → y ≤ m
 | m, x :: l, y, ⟨h1, h2, h3⟩, hy => by
   rcases List.mem_cons.1 hy with rfl | hy
   · exact h2
   · have := row_memI h3 hy; omega
 | _, [], _, _, hy => by simp at hy
theorem ZfF : ∀ {m : Int} {l : List Int}, (∀ x ∈ l, 0 ≤ x ∧ x ≤ m) → DescP l → IsRow m l
 | _, [], _, _ => trivial
 | m, x :: l, h, hd => by
   obtain ⟨h1, h2⟩ := List.pairwise_cons.1 hd
   exact ⟨(h x (by simp)).1, (h x (by simp)).2, ZfF (fun y hy => ⟨(h y (by simp [hy])).1, h1 y hy⟩) h2⟩
end Go.AM.Rub
end
end
