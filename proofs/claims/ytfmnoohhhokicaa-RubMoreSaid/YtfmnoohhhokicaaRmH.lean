/- A part of the proof of rubMore_holds: HandU, AmSy, AmBk, Bas, AmF, AmFr, Cel, SyA, RubL, RubR, RubS, RubI, BasR. Own work of this project; texts printed by own programs among it. -/
import Derived.Carry
import Derived.KernelRfl
import Derived.Test.YtfmnoohhhokicaaRmG
section
namespace Go.AM
open Go Go.RowKit Go.ChangeShapes
section
variable {H : Type} {enc : TypeId × Value → H} {P : Program} {w : World} {base : Nat} {spare : Nat → Bool} {held : Bool}
theorem trod_below {t : TypeId} {v : Value} {d : DataW H} {ps : List MemPlace} (h : DataW.Trod enc P w base spare held t v d ps) : ∀ x ∈ ps, x.block < w.heap.size := by
  obtain ⟨n, h⟩ := h
  exact DataW.trod_lt n t _ _ h
theorem _root_.Go.RowKit.Below.trod' {t : TypeId} (hl : laidOutB P = true) (hr : P.readableRec t = true) (hrow : t < P.types.size) {W W' : World} {v : Value} {d : DataW H} {ps : List MemPlace} (hb : Below W.heap.size W W')
    (h : DataW.Trod enc P W 0 (fun _ => true) true t v d ps) : DataW.Trod enc P W' 0 (fun b => decide (b < W.heap.size)) true t v d ps :=
  Below.trod hl hr hrow h hb (trod_below h)
theorem cell_u8 {t : TypeId} {v : Value} {b : Nat} {r : Reach} (ht : P.underlying t = some (.int .u8)) (hv : Cell.okWide P w r b t v) : ∃ z, v = .int .u8 z ∧ 0 ≤ z ∧ z ≤ 255 := by
  simp only [Cell.okWide, ht] at hv
  unfold Cell.ok at hv
  rw [ht] at hv
  cases v <;> simp only at hv <;> try exact hv.elim
  rename_i k z
  obtain ⟨rfl, h1, h2⟩ := hv
  exact ⟨z, rfl, h1, h2⟩
theorem row_u8 {t u : TypeId} {n : Nat} {b : Nat} {r : Reach} (hu : P.underlying u = some (.int .u8)) (hc : P.cellTypes P.depth t = some (List.replicate n u)) (hn : P.cellsOf t = n) (_ : 0 < n) {cs : Array Value} (hs : cs.size = P.cellsOf t) (hr : Row.okWide P w r b t cs) :
    ∃ zs : List Int, cs.toList = zs.map (Value.int .u8) ∧ zs.length = n ∧ ∀ (i : Nat) (z : Int), zs[i]? = some z → 0 ≤ z ∧ z ≤ 255 := by
  obtain ⟨ts, h1, _, h3⟩ := hr
  rw [hc] at h1
  obtain rfl := Option.some.inj h1
  have key : ∀ i, i < n → ∃ z, cs[i]? = some (.int .u8 z) ∧ 0 ≤ z ∧ z ≤ 255 := by
    intro i hi
    have hv : cs[i]? = some cs[i] := Array.getElem?_eq_getElem (by omega)
    obtain ⟨u', hu', hcell⟩ := h3 i _ hv
    rw [List.length_replicate, Nat.mod_eq_of_lt hi, List.getElem?_replicate, if_pos hi] at hu'
    obtain rfl := Option.some.inj hu'
    obtain ⟨z, hz, hb⟩ := cell_u8 hu hcell
    exact ⟨z, by rw [hv, hz], hb⟩
  refine ⟨(List.range n).map fun i => match (cs[i]? : Option Value) with | some (Value.int _ z) => z | _ => 0, ?_, by simp, ?_⟩
  · apply List.ext_getElem?
    intro i
    by_cases hi : i < n
    · obtain ⟨z, hz, _⟩ := key i hi
      simp [hi, hz]
    · rw [List.getElem?_eq_none (by simp; omega)]
      simp [hi]
  · intro i z hz
    have hi : i < n := by have := (List.getElem?_eq_some_iff.1 hz).1; simpa using this
    obtain ⟨y, hy, hb⟩ := key i hi
    simp [hi, hy] at hz
    omega
theorem vr_u8 {fz : Nat → Prop} {rf : RFt} (zs : List Int) {cs : Array Value} (h : cs.toList = zs.map (Value.int .u8)) : VR fz w (.agg (zs.map (AV.int .u8))) rf (.agg cs) := by
  simp only [VR]
  refine ⟨cs, rfl, ?_⟩
  rw [VRo_iff, h]
  refine ⟨by simp, fun i a v h1 h2 => ?_⟩
  rw [List.getElem?_map] at h1 h2
  cases hz : zs[i]? with
  | none => rw [hz] at h1; simp at h1
  | some z =>
    rw [hz] at h1 h2
    simp only [Option.map_some, Option.some.injEq] at h1 h2
    subst h1; subst h2
    exact ⟨rfl, by simp only [VR]⟩
/-- A struct, or an array, of small integers. -/
theorem hand_struct {t u : TypeId} {n : Nat} {v : Value} {b : Nat} {r : Reach} {fs : Array Field} (ht : P.underlying t = some (.struct fs)) (hu : P.underlying u = some (.int .u8)) (hc : P.cellTypes P.depth t = some (List.replicate n u)) (hn : P.cellsOf t = n) (h0 : 0 < n) (hv : Value.okWide P w r b t v) :
    ∃ (zs : List Int) (cs : Array Value), v = .agg cs ∧ cs.toList = zs.map (Value.int .u8) ∧ zs.length = n ∧ ∀ (i : Nat) (z : Int), zs[i]? = some z → 0 ≤ z ∧ z ≤ 255 := by
  unfold Value.okWide at hv
  rw [ht] at hv
  obtain ⟨cs, h1, h2, h3⟩ := hv
  obtain ⟨zs, a, b, c⟩ := row_u8 hu hc hn h0 h2 h3
  exact ⟨zs, cs, h1, a, b, c⟩
end
end Go.AM
end

section
namespace Go.AM
/-- So that simp doesn't leave a step to the kernel. -/
theorem nrfl {α : Type} {a b : α} (h : a = b) : a = b := h
def kL : Code → Code
  | .seq a _ => a
  | c => c
def kR : Code → Code
  | .seq _ b => b
  | c => c
def kT : Code → Code
  | .cond _ t _ => t
  | c => c
def kE : Code → Code
  | .cond _ _ e => e
  | c => c
def kB : Code → Code
  | .block _ b => b
  | .loop b => b
  | .scope b => b
  | c => c
def kO : Code → Array Oper
  | .region _ ops _ => ops
  | _ => #[]
def kBody (f : Func) : Code := f.body.getD .skip
def opN (ops : Array Oper) (i : Nat) : Oper := ops.toList.getD i ⟨none, .move (.tmp 0), 0, "", #[], none⟩
abbrev XR := Option (Ex × St)
def seqX (r : XR) (k : St → XR) : XR :=
  match r with
  | some (.normal, s) => k s
  | r => r
def bindR (r : Option St) (k : St → Option St) : Option St :=
  match r with
  | some s => k s
  | none => none
def regX (r : Option St) (k : St → St) : XR :=
  match r with
  | some s => some (.normal, k s)
  | none => none
def condX (v : AV) (t e : XR) : XR :=
  match v with
  | .bool true => t
  | .bool false => e
  | _ => none
def blockX (id : Nat) (k : St → St) (r : XR) : XR :=
  match r with
  | some (.exit i, s) => match Nat.beq i id with
    | true => some (.normal, k s)
    | false => some (.exit i, s)
  | some (.normal, s) => some (.normal, k s)
  | r => r
def fset : AFr → Nat → AV → AFr
  | [], _, _ => []
  | (k, a) :: t, i, b => if k = i then (k, b) :: t else (k, a) :: fset t i b
/-- Behind a guard it is known what the guard told. -/
noncomputable def gd (φ : AFr) (k : Nat) (want : Bool) (no yes : AFr → Option St) : Option St :=
  match fget φ k with
  | .bool b => if b = want then yes (fset φ k (.bool want)) else no (fset φ k (.bool !want))
  | .tup _ => no φ
  | _ => none
noncomputable def putD (d : Option Nat) (φ : AFr) (v : AV) : AFr :=
  match d with
  | some d => fput φ d v
  | none => φ
noncomputable def stp (d : Option Nat) (φ : AFr) (H : AHeap) (r : Rd (AV × Ups)) : Option St :=
  match r.run H with
  | some (v, us) => some (putD d φ v, upds H us)
  | none => none
/-- A call that is handed the heap. -/
noncomputable def mutX (d : Option Nat) (φ : AFr) (r : Option (AV × AHeap)) : Option St :=
  match r with
  | some (v, H) => some (putD d φ v, H)
  | none => none
/-- A call of a function value. -/
noncomputable def callV (E : Env) (C : Callee) (Bn : Nat) (d : Option Nat) (site : Nat → Nat) (φ : AFr) (H : AHeap) (f : AV) (args : List AV) (keep : Bool) : Option St :=
  match mutV E f args with
  | some (g, asx) => mutX d φ (C g asx H Bn)
  | none => stp d φ H (opCallV E C site keep f args)
noncomputable def bodyX (E : Env) (rs : List ResultVar) (r : XR) : Option (AV × AHeap) :=
  match r with
  | some (.normal, s) => match resA E s rs with
    | some v => some (v, s.2)
    | none => none
  | some (.ret, s) => match resA E s rs with
    | some v => some (v, s.2)
    | none => none
  | _ => none
section
variable {E : Env} {C : Callee} {fg : Nat → List Nat} {B n N : Nat} {E0 : AHeap}
theorem x_seq {c a b : Code} (h : c = .seq a b) (s : St) : execA E C fg B n E0 N c s = seqX (execA E C fg B n E0 N a s) (execA E C fg B n E0 N b) := by
  subst h; simp only [execA, seqX]; rfl
theorem x_skip {c : Code} (h : c = .skip) (s : St) : execA E C fg B n E0 N c s = some (.normal, s) := by subst h; simp only [execA]
theorem x_ret {c : Code} (h : c = .ret) (s : St) : execA E C fg B n E0 N c s = some (.ret, s) := by subst h; simp only [execA]
theorem x_exit {c : Code} {id} (h : c = .exit id) (s : St) : execA E C fg B n E0 N c s = some (.exit id, s) := by subst h; simp only [execA]
theorem x_reg {c : Code} {id ops} {l : List Nat} (h : c = .region id ops false) (hl : fg id = l) (s : St) : execA E C fg B n E0 N c s = regX (runA E C B n ops ops.toList s) (fun s => gcM E0 l (forget s.1 l, s.2)) := by
  subst h; subst hl; simp only [execA, regA, regX]
  split <;> rename_i h <;> simp only [h]
theorem x_draw {c : Code} {id ops} {l : List Nat} (h : c = .region id ops true) (hl : fg id = l) (s : St) : execA E C fg B n E0 N c s = regX (drawA E C B n ops s) (fun s => gcM E0 l (forget s.1 l, s.2)) := by
  subst h; subst hl; simp only [execA, regA, regX]
  split <;> rename_i h <;> simp only [h]
theorem x_cond {c : Code} {x t e} (h : c = .cond x t e) (s : St) : execA E C fg B n E0 N c s = condX (evO E s.1 x) (execA E C fg B n E0 N t s) (execA E C fg B n E0 N e s) := by
  subst h; simp only [execA, condX]; rfl
theorem x_block {c : Code} {id b} {l : List Nat} (h : c = .block id b) (hl : fg (id + 1000000) = l) (s : St) : execA E C fg B n E0 N c s = blockX id (fun s => (forget s.1 l, s.2)) (execA E C fg B n E0 N b s) := by
  subst h; subst hl; simp only [execA, blockX]; rfl
theorem x_loop {c : Code} {b} (h : c = .loop b) (s : St) : execA E C fg B n E0 N c s = iterA (execA E C fg B n E0 N b) (headA E0) N s := by
  subst h; simp only [execA]
theorem fset_get : ∀ (φ : AFr) (i : Nat), fset φ i (fget φ i) = φ
  | [], _ => rfl
  | (k, a) :: t, i => by
    simp only [fset, fget_c]
    cases h : Nat.beq k i
    · rw [if_neg (Nat.ne_of_beq_eq_false h)]
      simp only [cond_false]
      rw [fset_get t i]
    · rw [if_pos (Nat.eq_of_beq_eq_true h)]; rfl
theorem s_gd {ops : Array Oper} {o oj : Oper} {j dj : Nat} {want : Bool} {φ : AFr} {H : AHeap} {no yes : AFr → Option St} (hg : o.guard = some (j, want)) (hj : ops[j]? = some oj) (hd : oj.dst = some dj) (hn : ∀ φ, fin n o φ (.tup []) H = no φ) (hy : ∀ φ, goA E C B n o (φ, H) = yes φ) :
    stepA E C B n ops o (φ, H) = gd φ dj want no yes := by
  simp only [stepA, hg, wantA, hj, hd, gd]
  have hs := fset_get φ dj
  cases h : fget φ dj <;> simp only [hn, hy]
  rename_i b
  rw [h] at hs
  cases b <;> cases want <;> simp [hs]
theorem run_nil (ops : Array Oper) (s : St) : runA E C B n ops [] s = some s := rfl
theorem run_cons (ops : Array Oper) (o : Oper) (os : List Oper) (s : St) : runA E C B n ops (o :: os) s = bindR (stepA E C B n ops o s) (runA E C B n ops os) := by
  simp only [runA, bindR]; rfl
theorem bodyA_eq {fgf : FuncId → Nat → List Nat} {f : FuncId} {nt : Nat} {rs : Array ResultVar} {c : Code} (h : fInfo E f = some ⟨nt, rs, c⟩) (args : List AV) (H : AHeap) :
    bodyA E C fgf N f args H B = bodyX E rs.toList (execA E C (fgf f) B nt H N c (frame0 args 0 [], H)) := by
  simp only [bodyA, h, bodyX]; rfl
@[simp] theorem seqX_normal (s : St) (k) : seqX (some (.normal, s)) k = k s := rfl
@[simp] theorem seqX_ret (s : St) (k) : seqX (some (.ret, s)) k = some (.ret, s) := rfl
@[simp] theorem seqX_exit (i) (s : St) (k) : seqX (some (.exit i, s)) k = some (.exit i, s) := rfl
@[simp] theorem seqX_none (k) : seqX none k = none := rfl
@[simp] theorem seqX_ite (p : Prop) [Decidable p] (a b : XR) (k) : seqX (if p then a else b) k = if p then seqX a k else seqX b k := by split <;> rfl
@[simp] theorem bindR_none (k) : bindR none k = none := rfl
@[simp] theorem bindR_ite (p : Prop) [Decidable p] (a b) (k) : bindR (if p then a else b) k = if p then bindR a k else bindR b k := by split <;> rfl
@[simp] theorem regX_none (k) : regX none k = none := rfl
@[simp] theorem regX_ite (p : Prop) [Decidable p] (a b) (k) : regX (if p then a else b) k = if p then regX a k else regX b k := by split <;> rfl
@[simp] theorem condX_bool (b : Bool) (t e : XR) : condX (.bool b) t e = if b = true then t else e := by cases b <;> rfl
@[simp] theorem blockX_exit (id : Nat) (k) (i : Nat) (s : St) : blockX id k (some (.exit i, s)) = if i = id then some (.normal, k s) else some (.exit i, s) := by
  simp only [blockX]
  split <;> rename_i h
  · rw [if_pos (Nat.eq_of_beq_eq_true h)]
  · rw [if_neg (Nat.ne_of_beq_eq_false h)]
@[simp] theorem blockX_normal (id : Nat) (k) (s : St) : blockX id k (some (.normal, s)) = some (.normal, k s) := rfl
@[simp] theorem blockX_ret (id : Nat) (k) (s : St) : blockX id k (some (.ret, s)) = some (.ret, s) := rfl
@[simp] theorem blockX_none (id : Nat) (k) : blockX id k none = none := rfl
@[simp] theorem blockX_ite (id : Nat) (k) (p : Prop) [Decidable p] (a b) : blockX id k (if p then a else b) = if p then blockX id k a else blockX id k b := by split <;> rfl
theorem fset_nil (i : Nat) (b : AV) : fset [] i b = [] := rfl
theorem fset_cons (k : Nat) (a : AV) (t : AFr) (i : Nat) (b : AV) : fset ((k, a) :: t) i b = if k = i then (k, b) :: t else (k, a) :: fset t i b := rfl
@[simp] theorem bodyX_ite (rs) (p : Prop) [Decidable p] (a b) : bodyX E rs (if p then a else b) = if p then bodyX E rs a else bodyX E rs b := by split <;> rfl
theorem bodyX_ret (rs) (s : St) : bodyX E rs (some (.ret, s)) = (resA E s rs).map fun v => (v, s.2) := by
  simp only [bodyX]; cases resA E s rs <;> rfl
theorem bodyX_normal (rs) (s : St) : bodyX E rs (some (.normal, s)) = (resA E s rs).map fun v => (v, s.2) := by
  simp only [bodyX]; cases resA E s rs <;> rfl
theorem putD_some (d : Nat) (φ : AFr) (v : AV) : putD (some d) φ v = fput φ d v := rfl
theorem putD_none (φ : AFr) (v : AV) : putD none φ v = φ := rfl
theorem iterA_succ (f : St → XR) (hd : St → St) (k : Nat) (s : St) : iterA f hd (k + 1) s = seqX (f (hd s)) (iterA f hd k) := by
  simp only [iterA, seqX]; rfl
/-- A loop: 'st k' is the state at its head (what is dropped is dropped) when k rounds are over; round n leaves it. -/
theorem iter_all {f : St → XR} {hd : St → St} (st : Nat → St) : ∀ (n F k : Nat) (s0 : St), hd s0 = st k → n < F →
    (∀ i, k ≤ i → i < k + n → ∃ s', f (st i) = some (.normal, s') ∧ hd s' = st (i + 1)) → ∀ {e : Ex} {se : St}, f (st (k + n)) = some (e, se) → e ≠ .normal → iterA f hd F s0 = some (e, se)
  | 0, F + 1, k, s0, h0, _, _, e, se, he, hn => by
    rw [iterA_succ, h0]
    rw [Nat.add_zero] at he
    rw [he]
    cases e with
    | normal => exact absurd rfl hn
    | ret => rfl
    | exit i => rfl
  | n + 1, F + 1, k, s0, h0, hF, h, e, se, he, hn => by
    obtain ⟨s', h1, h2⟩ := h k (Nat.le_refl _) (by omega)
    rw [iterA_succ, h0, h1, seqX_normal]
    refine iter_all st n F (k + 1) s' h2 (by omega) (fun i h3 h4 => h i (by omega) (by omega)) (e := e) (se := se) ?_ hn
    rw [show k + 1 + n = k + (n + 1) by omega]
    exact he
  | _, 0, _, _, _, hF, _, _, _, _, _ => absurd hF (by omega)
theorem callV_eq {f : AV} {args : List AV} (h : mutV E f args = none) (Bn : Nat) (d : Option Nat) (site) (φ H) (keep) : callV E C Bn d site φ H f args keep = stp d φ H (opCallV E C site keep f args) := by
  simp only [callV, h]
/-- A result that leads nowhere, of a call. -/
theorem aBack_plain {site : Nat → Nat} {seen : List Nat} {f : FuncId} {args : List AV} {r : AV} {H' : AHeap} (h : C f args [] 0 = some (r, H')) (ht : frzRet H' r = some (r, H')) (hi : ∀ site, imp H' site 200 r [] [] = some (r, [], [])) (hl : r.leads = false) :
    aBack site true seen (thaw C f args [] 0) = .pure (r, []) := by
  simp only [thaw, h, ht, aBack, sitesB, freeOff, allFree, aBackAt, hi, List.map_nil, AM.apart, if_true, freeAll, Rd.bind, hl]
theorem aBack_int {site : Nat → Nat} {seen : List Nat} {f : FuncId} {args : List AV} {k : IntKind} {z : Int} (h : ∃ H', C f args [] 0 = some (.int k z, H')) : aBack site true seen (thaw C f args [] 0) = .pure (.int k z, []) := by
  obtain ⟨H', h⟩ := h; exact aBack_plain h rfl (fun _ => rfl) rfl
theorem aBack_bool {site : Nat → Nat} {seen : List Nat} {f : FuncId} {args : List AV} {b : Bool} (h : ∃ H', C f args [] 0 = some (.bool b, H')) : aBack site true seen (thaw C f args [] 0) = .pure (.bool b, []) := by
  obtain ⟨H', h⟩ := h; exact aBack_plain h rfl (fun _ => rfl) rfl
theorem aBack_boolint {site : Nat → Nat} {seen : List Nat} {f : FuncId} {args : List AV} {k' : IntKind} {z : Bool} {z' : Int} (h : ∃ H', C f args [] 0 = some (.tup [.bool z, .int k' z'], H')) : aBack site true seen (thaw C f args [] 0) = .pure (.tup [.bool z, .int k' z'], []) := by
  obtain ⟨H', h⟩ := h; exact aBack_plain h rfl (fun _ => rfl) rfl
theorem wrp_id {k : IntKind} {z : Int} (h1 : kLo k ≤ z) (h2 : z ≤ kHi k) : wrp k z = z := by
  simp only [wrp, if_pos (And.intro h1 h2)]
theorem wrp64 {z : Int} (h : -9223372036854775808 ≤ z ∧ z ≤ 9223372036854775807) : wrp .i64 z = z := wrp_id h.1 h.2
theorem wrp_succ {k : Nat} (h : k < 1000000) : wrp .i64 ((k : Int) + 1) = ((k + 1 : Nat) : Int) := by
  rw [wrp64 (by omega)]; rfl
abbrev rsOf (r : Option (AV × AHeap)) : Option AV := r.map (·.1)
theorem rs_ite (p : Prop) [Decidable p] (a b : Option (AV × AHeap)) : rsOf (if p then a else b) = if p then rsOf a else rsOf b := by split <;> rfl
theorem rs_some (v : AV) (H : AHeap) : rsOf (some (v, H)) = some v := rfl
theorem m_int (p : Prop) [Decidable p] (k : IntKind) (a b : Int) : (if p then some (AV.int k a) else some (AV.int k b)) = some (AV.int k (if p then a else b)) := by split <;> rfl
theorem m_bool (p : Prop) [Decidable p] (a b : Bool) : (if p then some (AV.bool a) else some (AV.bool b)) = some (AV.bool (if p then a else b)) := by split <;> rfl
theorem m_ints (p : Prop) [Decidable p] (k l : IntKind) (a b c d : Int) : (if p then some (AV.tup [AV.int k a, AV.int l c]) else some (AV.tup [AV.int k b, AV.int l d])) = some (AV.tup [AV.int k (if p then a else b), AV.int l (if p then c else d)]) := by split <;> rfl
theorem m_boolint (p : Prop) [Decidable p] (l : IntKind) (a b : Bool) (c d : Int) : (if p then some (AV.tup [AV.bool a, AV.int l c]) else some (AV.tup [AV.bool b, AV.int l d])) = some (AV.tup [AV.bool (if p then a else b), AV.int l (if p then c else d)]) := by split <;> rfl
theorem rs_ex {r : Option (AV × AHeap)} {v : AV} (h : rsOf r = some v) : ∃ H', r = some (v, H') := by
  cases r with
  | none => exact absurd h (by simp)
  | some x => obtain ⟨a, H⟩ := x; simp at h; exact ⟨H, by rw [h]⟩
theorem gcM_n (E0 : AHeap) (s : St) : gcM E0 [] s = s := rfl
theorem gcM_c (E0 : AHeap) (a : Nat) (l : List Nat) (s : St) : gcM E0 (a :: l) s = if a = 999999 then headA E0 s else s := by
  by_cases h : a = 999999
  · subst h; rfl
  · rw [if_neg h]; unfold gcM; split
    · rename_i e; exact absurd (List.cons.inj e).1 h
    · rfl
theorem fget_nil (i : Nat) : fget [] i = .any := rfl
theorem fget_cons' (k : Nat) (a : AV) (t : AFr) (i : Nat) : fget ((k, a) :: t) i = if k = i then a else fget t i := by
  simp only [fget_c]
  cases h : Nat.beq k i
  · rw [if_neg (Nat.ne_of_beq_eq_false h)]; rfl
  · rw [if_pos (Nat.eq_of_beq_eq_true h)]; rfl
theorem fput_nil (i : Nat) (b : AV) : fput [] i b = [(i, b)] := rfl
theorem fput_cons' (k : Nat) (c : AV) (t : AFr) (i : Nat) (b : AV) : fput ((k, c) :: t) i b = if k = i then (i, b) :: t else if i ≤ k then (k, c) :: fput t i b else (i, b) :: (k, c) :: t := by
  simp only [fput_c]
  cases h : Nat.beq k i
  · rw [if_neg (Nat.ne_of_beq_eq_false h)]
    simp only [cond_false]
    cases h2 : Nat.ble i k
    · rw [if_neg (by intro h3; rw [Nat.ble_eq_true_of_le h3] at h2; exact absurd h2 (by simp))]; rfl
    · rw [if_pos (Nat.le_of_ble_eq_true h2)]; rfl
  · rw [if_pos (Nat.eq_of_beq_eq_true h)]; rfl
theorem forget_nil (l : List Nat) : forget [] l = [] := rfl
theorem forget_cons' (k : Nat) (a : AV) (t : AFr) (l : List Nat) : forget ((k, a) :: t) l = if l.elem k = true then forget t l else (k, a) :: forget t l := by
  simp only [forget_c]; cases l.elem k <;> rfl
theorem hget_nil' (i : Nat) : hget [] i = none := rfl
theorem hget_cons' (k : Nat) (b : Blk) (t : AHeap) (i : Nat) : hget ((k, b) :: t) i = if k = i then some b else hget t i := by
  simp only [hget_c]
  cases h : Nat.beq k i
  · rw [if_neg (Nat.ne_of_beq_eq_false h)]; rfl
  · rw [if_pos (Nat.eq_of_beq_eq_true h)]; rfl
theorem hset_nil' (i : Nat) (b : Blk) : hset [] i b = [(i, b)] := rfl
theorem hset_cons' (k : Nat) (c : Blk) (t : AHeap) (i : Nat) (b : Blk) : hset ((k, c) :: t) i b = if k = i then (i, b) :: t else if k ≤ i then (k, c) :: hset t i b else (i, b) :: (k, c) :: t := by
  simp only [hset_c]
  cases h : Nat.beq k i
  · rw [if_neg (Nat.ne_of_beq_eq_false h)]
    simp only [cond_false]
    cases h2 : Nat.ble k i
    · rw [if_neg (by intro h3; rw [Nat.ble_eq_true_of_le h3] at h2; exact absurd h2 (by simp))]; rfl
    · rw [if_pos (Nat.le_of_ble_eq_true h2)]; rfl
  · rw [if_pos (Nat.eq_of_beq_eq_true h)]; rfl
theorem liveBlk_eq (i gl : Nat) : Rd.liveBlk i gl = .get i fun
    | some b => if gl = b.cells.length then (match b.st with | .mp => .fail | _ => .pure b) else .fail
    | none => .fail := by
  simp only [Rd.liveBlk]
  congr 1
  funext b
  cases b with
  | none => rfl
  | some b =>
    simp only
    cases h : Nat.beq gl b.cells.length
    · rw [if_neg (Nat.ne_of_beq_eq_false h)]; rfl
    · rw [if_pos (Nat.eq_of_beq_eq_true h)]; rfl
theorem fo_step (k t o : Nat) : freeOff [k] (t + 1) o = .get (k + o) fun
    | none => .pure o
    | some _ => freeOff [k] t (o + 1048576) := by
  rw [freeOff]
  generalize freeOff [k] t (o + 1048576) = z
  simp only [List.map_cons, List.map_nil, allFree, Rd.bind]
  congr 1
  funext b
  cases b <;> rfl
theorem fo6 (k : Nat) : freeOff [k] 6 0 = .get k fun
    | none => .pure 0
    | some _ => freeOff [k] 5 1048576 := by
  have := fo_step k 5 0
  rw [Nat.add_zero, Nat.zero_add] at this
  exact this
theorem fo5 (k : Nat) : freeOff [k] 5 1048576 = .get (k + 1048576) fun
    | none => .pure 1048576
    | some _ => freeOff [k] 4 2097152 := by
  have := fo_step k 4 1048576
  simp only [Nat.reduceAdd] at this
  exact this
theorem headA_drop (φ : AFr) (H : AHeap) (h : refsF φ = []) : headA [] (φ, H) = (φ, []) := by
  have h1 : ∀ H : AHeap, keepB [] [] H = [] := by
    intro H
    induction H with
    | nil => rfl
    | cons p t ih => obtain ⟨i, b⟩ := p; simp only [keepB, hget_n, List.elem_nil, Option.isSome_none, Bool.or_false, cond_false, ih]
  simp only [headA, h, mark, h1, gcIf, closedB, allHeld, closedH, Bool.and_true]
theorem headA_nil (E0 : AHeap) (φ : AFr) : headA E0 (φ, []) = (φ, []) := by
  simp only [headA, keepB, gcIf]; split <;> rfl
noncomputable def stepT (E : Env) (C : Callee) (B n : Nat) (ops : Array Oper) (o : Oper) (s : St) : Option (St × Tr) := (stepA E C B n ops o s).map fun s' => (s', trA E C B n ops o s)
noncomputable def goT (E : Env) (C : Callee) (B n : Nat) (o : Oper) (s : St) : Option (St × Tr) := (goA E C B n o s).map fun s' => (s', trG E C B n o s)
noncomputable def trS (r : Rd (AV × Ups)) (H : AHeap) : Tr :=
  match r.run H with
  | some (_, us) => ⟨false, r.foot H, us.map (·.1)⟩
  | none => ⟨true, [], []⟩
noncomputable def stpT (d : Option Nat) (φ : AFr) (H : AHeap) (r : Rd (AV × Ups)) : Option (St × Tr) :=
  match r.run H with
  | some (v, us) => some ((putD d φ v, upds H us), ⟨false, r.foot H, us.map (·.1)⟩)
  | none => none
noncomputable def trV (E : Env) (C : Callee) (site : Nat → Nat) (H : AHeap) (f : AV) (args : List AV) (keep : Bool) : Tr :=
  match mutV E f args with
  | some _ => ⟨true, [], []⟩
  | none => trS (opCallV E C site keep f args) H
noncomputable def callVT (E : Env) (C : Callee) (Bn : Nat) (d : Option Nat) (site : Nat → Nat) (φ : AFr) (H : AHeap) (f : AV) (args : List AV) (keep : Bool) : Option (St × Tr) :=
  match mutV E f args with
  | some (g, asx) => (mutX d φ (C g asx H Bn)).map fun s => (s, ⟨true, [], []⟩)
  | none => stpT d φ H (opCallV E C site keep f args)
noncomputable def gdT (φ : AFr) (k : Nat) (want : Bool) (no yes : AFr → Option (St × Tr)) : Option (St × Tr) :=
  match fget φ k with
  | .bool b => if b = want then yes (fset φ k (.bool want)) else no (fset φ k (.bool !want))
  | .tup _ => no φ
  | _ => none
theorem goT_R {o : Oper} {φ : AFr} {H : AHeap} {d} {R : Rd (AV × Ups)} (h : goA E C B n o (φ, H) = stp d φ H R) (ht : trG E C B n o (φ, H) = trS R H) : goT E C B n o (φ, H) = stpT d φ H R := by
  simp only [goT, h, ht, stp, stpT, trS]
  cases R.run H <;> rfl
theorem goT_mv {o : Oper} {φ : AFr} {H : AHeap} {s'} (h : goA E C B n o (φ, H) = some s') (ht : trG E C B n o (φ, H) = ⟨false, [], []⟩) : goT E C B n o (φ, H) = some (s', ⟨false, [], []⟩) := by
  simp only [goT, h, ht, Option.map_some]
theorem goT_V {o : Oper} {φ : AFr} {H : AHeap} {Bn d site f args keep} (h : goA E C B n o (φ, H) = callV E C Bn d site φ H f args keep) (ht : trG E C B n o (φ, H) = trV E C site H f args keep) :
    goT E C B n o (φ, H) = callVT E C Bn d site φ H f args keep := by
  simp only [goT, h, ht, callV, callVT, trV]
  cases mutV E f args with
  | none =>
    simp only [stp, stpT, trS]
    cases (opCallV E C site keep f args).run H <;> rfl
  | some x => rfl
theorem stT_go {ops : Array Oper} {o : Oper} {s : St} {x} (hg : o.guard = none) (h : goT E C B n o s = x) : stepT E C B n ops o s = x := by
  rw [← h]; simp only [stepT, goT, stepA, trA, hg]
theorem stT_gd {ops : Array Oper} {o oj : Oper} {j dj : Nat} {want : Bool} {φ : AFr} {H : AHeap} {no : AFr → Option St} {yes : AFr → Option (St × Tr)} (hg : o.guard = some (j, want)) (hj : ops[j]? = some oj) (hd : oj.dst = some dj) (hn : ∀ φ, fin n o φ (.tup []) H = no φ) (hy : ∀ φ, goT E C B n o (φ, H) = yes φ) :
    stepT E C B n ops o (φ, H) = gdT φ dj want (fun φ => (no φ).map fun s => (s, ⟨false, [], []⟩)) yes := by
  have hs := fset_get φ dj
  simp only [stepT, stepA, trA, hg, wantA, hj, hd, gdT]
  cases h : fget φ dj with
  | bool b =>
    rw [h] at hs
    cases b <;> cases want <;> simp only [hs, beq_self_eq_true, if_true, Bool.not_true, Bool.not_false, hn, ← hy, goT] <;> rfl
  | tup l => simp only [hn]
  | _ => rfl
theorem callVT_eq {f : AV} {args : List AV} (h : mutV E f args = none) (Bn : Nat) (d : Option Nat) (site) (φ H) (keep) : callVT E C Bn d site φ H f args keep = stpT d φ H (opCallV E C site keep f args) := by
  simp only [callVT, h]
noncomputable def rtX (n i : Nat) (r : Option (St × Tr)) (k : St → Option (St × List (Nat × Tr))) : Option (St × List (Nat × Tr)) :=
  match r with
  | some (s', t) => match neat n s' with
    | true => match k s' with
      | some (s2, l) => some (s2, (i, t) :: l)
      | none => none
    | false => none
  | none => none
theorem runT_nil (ops : Array Oper) (i : Nat) (s : St) : runT E C B n ops [] i s = some (s, []) := rfl
theorem runT_cons (ops : Array Oper) (o : Oper) (os : List Oper) (i : Nat) (s : St) : runT E C B n ops (o :: os) i s = rtX n i (stepT E C B n ops o s) (runT E C B n ops os (i + 1)) := by
  simp only [runT, stepT, rtX]
  cases stepA E C B n ops o s with
  | none => rfl
  | some s' =>
    simp only [Option.map_some]
    cases neat n s' <;> rfl
def addT (i : Nat) (t : Tr) (r : Option (St × List (Nat × Tr))) : Option (St × List (Nat × Tr)) :=
  match r with
  | some (s2, l) => some (s2, (i, t) :: l)
  | none => none
theorem rtX_some (i : Nat) (s' : St) (t : Tr) (k) : rtX n i (some (s', t)) k = if neat n s' = true then addT i t (k s') else none := by
  simp only [rtX, addT]; cases neat n s' <;> rfl
theorem rtX_none (i : Nat) (k) : rtX n i none k = none := rfl
theorem rtX_ite (i : Nat) (p : Prop) [Decidable p] (a b) (k) : rtX n i (if p then a else b) k = if p then rtX n i a k else rtX n i b k := by split <;> rfl
theorem addT_some (i : Nat) (t : Tr) (s l) : addT i t (some (s, l)) = some (s, (i, t) :: l) := rfl
theorem addT_none (i : Nat) (t : Tr) : addT i t none = none := rfl
theorem addT_ite (i : Nat) (t : Tr) (p : Prop) [Decidable p] (a b) : addT i t (if p then a else b) = if p then addT i t a else addT i t b := by split <;> rfl
def drX (ops : Array Oper) (r : Option (St × List (Nat × Tr))) : Option St :=
  match r with
  | some (s', l) => if dynOk ops l = true then some s' else none
  | none => none
theorem drX_some (ops : Array Oper) (s' l) : drX ops (some (s', l)) = if dynOk ops l = true then some s' else none := rfl
theorem drX_none (ops : Array Oper) : drX ops none = none := rfl
theorem drX_ite (ops : Array Oper) (p : Prop) [Decidable p] (a b) : drX ops (if p then a else b) = if p then drX ops a else drX ops b := by split <;> rfl
theorem draw_eq {ops : Array Oper} (h : statOk ops = true) (s : St) : drawA E C B n ops s = if neat n s = true then drX ops (runT E C B n ops ops.toList 0 s) else none := by
  simp only [drawA, h, drX]
  cases neat n s with
  | false => rfl
  | true =>
    simp only [if_true]
    cases runT E C B n ops ops.toList 0 s with
    | none => rfl
    | some x =>
      obtain ⟨s', l⟩ := x
      simp only
      cases dynOk ops l <;> rfl
theorem dynOk_eq {ops : Array Oper} {an : List (List Nat)} (h : ancs ops.toList [] = an) (l) : dynOk ops l = (!writing l || dynPairs an (touching l)) := by simp only [dynOk, h]
theorem neat_eq (n : Nat) (φ : AFr) (H : AHeap) : neat n (φ, H) = (descF n φ && ascH 0 H) := rfl
theorem descF_nil' (h : Nat) : descF h [] = true := rfl
theorem descF_cons' (hi k : Nat) (a : AV) (t : AFr) : descF hi ((k, a) :: t) = (decide (k + 1 ≤ hi) && descF k t) := by
  simp only [descF_c]; congr 1
  cases h : Nat.ble (k + 1) hi
  · rw [eq_comm, decide_eq_false_iff_not]; intro h2; rw [Nat.ble_eq_true_of_le h2] at h; exact absurd h (by simp)
  · rw [eq_comm, decide_eq_true_eq]; exact Nat.le_of_ble_eq_true h
theorem ascH_nil' (h : Nat) : ascH h [] = true := rfl
theorem ascH_cons' (lo k : Nat) (a : Blk) (t : AHeap) : ascH lo ((k, a) :: t) = (decide (lo ≤ k) && ascH (k + 1) t) := by
  simp only [ascH_c]; congr 1
  cases h : Nat.ble lo k
  · rw [eq_comm, decide_eq_false_iff_not]; intro h2; rw [Nat.ble_eq_true_of_le h2] at h; exact absurd h (by simp)
  · rw [eq_comm, decide_eq_true_eq]; exact Nat.le_of_ble_eq_true h
end
end Go.AM
end

section
namespace Go.AM
/-- A result that leads to one new block, at the first free place. -/
noncomputable def back1 (k : Nat) (seen : List Nat) (r : Nat → AV) (b : Blk) : Rd (AV × Ups) :=
  (freeOff [k] 6 0).bind fun off => (freeAll [k + off]).bind fun _ => (frz seen).bind fun us => .pure (r (k + off), us ++ [(k + off, b)])
theorem back1_eq (k : Nat) (seen : List Nat) (r : Nat → AV) (b : Blk) : ∃ no : Blk → Rd (AV × Ups), back1 k seen r b = .get k fun
    | none => .get k fun
      | none => (frz seen).bind fun us => .pure (r k, us ++ [(k, b)])
      | some _ => .fail
    | some b => no b := by
  refine ⟨fun _ => (freeOff [k] 5 1048576).bind fun off => (freeAll [k + off]).bind fun _ => (frz seen).bind fun us => .pure (r (k + off), us ++ [(k + off, b)]), ?_⟩
  simp only [back1, freeOff, List.map_cons, List.map_nil, allFree, Rd.bind, Nat.add_zero]
  congr 1
  funext x
  cases x with
  | none =>
    simp only [Rd.bind, freeAll, Nat.add_zero]
    congr 1
    funext y
    cases y <;> rfl
  | some _ => rfl
theorem back1_run {k : Nat} {seen : List Nat} {r : Nat → AV} {b : Blk} {H : AHeap} (h : hget H k = none) : (back1 k seen r b).run H = ((frz seen).bind fun us => .pure (r k, us ++ [(k, b)])).run H := by
  obtain ⟨no, e⟩ := back1_eq k seen r b
  rw [e]; simp only [Rd.run, h]
theorem back1_foot {k : Nat} {seen : List Nat} {r : Nat → AV} {b : Blk} {H : AHeap} (h : hget H k = none) : (back1 k seen r b).foot H = k :: k :: ((frz seen).bind fun us => .pure (r k, us ++ [(k, b)])).foot H := by
  obtain ⟨no, e⟩ := back1_eq k seen r b
  rw [e]; simp only [Rd.foot, h]
noncomputable def back1N (k : Nat) (seen : List Nat) (r : Nat → AV) (b : Blk) : Rd (AV × Ups) := back1 k seen r b
theorem back1_r {k : Nat} {seen : List Nat} {r : Nat → AV} {b : Blk} {H : AHeap} : (back1 k seen r b).run H = match hget H k with
    | none => ((frz seen).bind fun us => .pure (r k, us ++ [(k, b)])).run H
    | some _ => (back1N k seen r b).run H := by
  cases h : hget H k with
  | none => exact back1_run h
  | some _ => rfl
theorem back1_f {k : Nat} {seen : List Nat} {r : Nat → AV} {b : Blk} {H : AHeap} : (back1 k seen r b).foot H = match hget H k with
    | none => k :: k :: ((frz seen).bind fun us => .pure (r k, us ++ [(k, b)])).foot H
    | some _ => (back1N k seen r b).foot H := by
  cases h : hget H k with
  | none => exact back1_foot h
  | some _ => rfl
/-- A result that leads to two new blocks. -/
noncomputable def back2 (k0 k1 : Nat) (seen : List Nat) (r : Nat → Nat → AV) (b0 b1 : Blk) : Rd (AV × Ups) :=
  (freeOff [k1, k0] 6 0).bind fun off => (freeAll [k1 + off, k0 + off]).bind fun _ => (frz seen).bind fun us => .pure (r (k0 + off) (k1 + off), us ++ [(k1 + off, b1), (k0 + off, b0)])
noncomputable def back2N (k0 k1 : Nat) (seen : List Nat) (r : Nat → Nat → AV) (b0 b1 : Blk) : Rd (AV × Ups) := back2 k0 k1 seen r b0 b1
theorem back2_eq (k0 k1 : Nat) (seen : List Nat) (r : Nat → Nat → AV) (b0 b1 : Blk) : ∃ no no' : Blk → Rd (AV × Ups), back2 k0 k1 seen r b0 b1 = .get k1 fun
    | none => .get k0 fun
      | none => .get k1 fun
        | none => .get k0 fun
          | none => (frz seen).bind fun us => .pure (r k0 k1, us ++ [(k1, b1), (k0, b0)])
          | some _ => .fail
        | some _ => .fail
      | some b => no b
    | some b => no' b := by
  refine ⟨fun _ => (freeOff [k1, k0] 5 1048576).bind fun off => (freeAll [k1 + off, k0 + off]).bind fun _ => (frz seen).bind fun us => .pure (r (k0 + off) (k1 + off), us ++ [(k1 + off, b1), (k0 + off, b0)]),
    fun _ => (freeOff [k1, k0] 5 1048576).bind fun off => (freeAll [k1 + off, k0 + off]).bind fun _ => (frz seen).bind fun us => .pure (r (k0 + off) (k1 + off), us ++ [(k1 + off, b1), (k0 + off, b0)]), ?_⟩
  simp only [back2, freeOff, List.map_cons, List.map_nil, allFree, Rd.bind, Nat.add_zero]
  congr 1
  funext x
  cases x with
  | some _ => rfl
  | none =>
    simp only [Rd.bind]
    congr 1
    funext y
    cases y with
    | some _ => rfl
    | none =>
      simp only [Rd.bind, freeAll, Nat.add_zero]
      congr 1
      funext x
      cases x with
      | some _ => rfl
      | none =>
        simp only [Rd.bind]
        congr 1
        funext y
        cases y <;> rfl
theorem back2_r {k0 k1 : Nat} {seen : List Nat} {r : Nat → Nat → AV} {b0 b1 : Blk} {H : AHeap} : (back2 k0 k1 seen r b0 b1).run H = match hget H k1 with
    | none => match hget H k0 with
      | none => ((frz seen).bind fun us => .pure (r k0 k1, us ++ [(k1, b1), (k0, b0)])).run H
      | some _ => (back2N k0 k1 seen r b0 b1).run H
    | some _ => (back2N k0 k1 seen r b0 b1).run H := by
  cases h : hget H k1 with
  | some _ => rfl
  | none =>
    cases h2 : hget H k0 with
    | some _ => rfl
    | none =>
      obtain ⟨no, no', e⟩ := back2_eq k0 k1 seen r b0 b1
      rw [e]; simp only [Rd.run, h, h2]
theorem aBack_nilint {C : Callee} {site : Nat → Nat} {seen : List Nat} {f : FuncId} {args : List AV} {k' : IntKind} {z' : Int} (h : ∃ H', C f args [] 0 = some (.tup [.nilsl, .int k' z'], H')) : aBack site true seen (thaw C f args [] 0) = .pure (.tup [.nilsl, .int k' z'], []) := by
  obtain ⟨H', h⟩ := h; exact aBack_plain h rfl (fun _ => rfl) rfl
theorem aBack_nil {C : Callee} {site : Nat → Nat} {seen : List Nat} {f : FuncId} {args : List AV} (h : ∃ H', C f args [] 0 = some (.nilsl, H')) : aBack site true seen (thaw C f args [] 0) = .pure (.nilsl, []) := by
  obtain ⟨H', h⟩ := h; exact aBack_plain h rfl (fun _ => rfl) rfl
end Go.AM
end

section
namespace Go.AM
theorem seqN (s : St) (k) : seqX (some (.normal, s)) k = k s := nrfl rfl
theorem bindN (s : St) (k) : bindR (some s) k = k s := nrfl rfl
theorem regN (s : St) (k) : regX (some s) k = some (.normal, k s) := nrfl rfl
theorem snap_int (d : Nat) (k : IntKind) (z : Int) : snap (d + 1) (.int k z) = .pure (.int k z, []) := rfl
theorem snap_nilsl (d : Nat) : snap (d + 1) .nilsl = .pure (.nilsl, []) := rfl
theorem snap_imm (d : Nat) (c : List AV) (n : Nat) (ex : Bool) : snap (d + 1) (.imm c n ex) = .pure (.imm c n ex, []) := rfl
theorem snap_ref (d id off len cap gl sz : Nat) (ex : Bool) : snap (d + 1) (.ref id off len cap gl sz ex) = (Rd.liveBlk id gl).bind fun b =>
      if off + len * sz ≤ b.cells.length then
        match b.st with
        | .box => (snaps d ((b.cells.drop off).take (len * sz))).bind fun x =>
          .pure (.imm x.1 len (ex && decide (cap = len)), id :: x.2)
        | _ => .pure (.imm ((b.cells.drop off).take (len * sz)) len (ex && decide (cap = len)), [id])
      else .fail := rfl
theorem snap_ptr' (d id off gl : Nat) : snap (d + 1) (.ptr id off gl) = (Rd.liveBlk id gl).bind fun b =>
      match b.st with
      | .box => (snaps d b.cells).bind fun x => .pure (.iptr x.1 off, id :: x.2)
      | _ => .pure (.iptr b.cells off, [id]) := rfl
theorem snap_iptr (d : Nat) (c : List AV) (n : Nat) : snap (d + 1) (.iptr c n) = .pure (.iptr c n, []) := rfl
theorem snap_bool (d : Nat) (b : Bool) : snap (d + 1) (.bool b) = .pure (.bool b, []) := rfl
theorem snap_nilfunc (d : Nat) : snap (d + 1) .nilfunc = .pure (.nilfunc, []) := rfl
theorem snap_agg (d : Nat) (vs : List AV) : snap (d + 1) (.agg vs) = (snaps d vs).bind fun x => .pure (.agg x.1, x.2) := rfl
theorem snap_tup (d : Nat) (vs : List AV) : snap (d + 1) (.tup vs) = (snaps d vs).bind fun x => .pure (.tup x.1, x.2) := rfl
theorem snap_clo (d : Nat) (f : FuncId) (vs : List AV) : snap (d + 1) (.clo f vs) = (snaps d vs).bind fun x => .pure (.clo f x.1, x.2) := rfl
/-- A block is frozen. -/
def frzB (s : BS) (cs : List AV) (i : Nat) (r : Rd Ups) : Rd Ups :=
  match s, cs.all AV.flat with
  | .box, false => .fail
  | .mp, _ => .fail
  | .froz, _ => r
  | _, _ => r.bind fun us => .pure ((i, ⟨.froz, cs⟩) :: us)
theorem frz_nil : frz [] = .pure [] := rfl
theorem frz_eq (i : Nat) (is : List Nat) : frz (i :: is) = .get i fun
    | some b => frzB b.st b.cells i (frz is)
    | none => .fail := rfl
theorem frzB_row (cs : List AV) (i : Nat) (r : Rd Ups) : frzB .row cs i r = r.bind fun us => .pure ((i, ⟨.froz, cs⟩) :: us) := rfl
theorem frzB_froz (cs : List AV) (i : Nat) (r : Rd Ups) : frzB .froz cs i r = r := by unfold frzB; cases cs.all AV.flat <;> rfl
theorem frzB_box (cs : List AV) (i : Nat) (r : Rd Ups) : frzB .box cs i r = if cs.all AV.flat = true then r.bind fun us => .pure ((i, ⟨.froz, cs⟩) :: us) else .fail := by
  unfold frzB; cases cs.all AV.flat <;> rfl
theorem snaps_flat : ∀ (l : List AV) (d : Nat), (∀ a ∈ l, ∃ k z, a = AV.int k z) → l.length + 2 ≤ d → snaps d l = .pure (l, [])
  | [], d + 1, _, _ => by simp only [snaps]
  | a :: l, d + 1, h, hd => by
    obtain ⟨k, z, rfl⟩ := h a (List.mem_cons_self ..)
    have hd2 : l.length + 2 ≤ d := by simp only [List.length_cons] at hd; omega
    have ih := snaps_flat l d (fun a ha => h a (List.mem_cons_of_mem _ ha)) hd2
    obtain ⟨e, rfl⟩ : ∃ e, d = e + 1 := ⟨d - 1, by omega⟩
    simp only [snaps, snap, ih, Rd.bind, List.nil_append]
end Go.AM
namespace Go.AM.Ytfmnoohhhokicaa
open Go Go.AM
theorem cl0 : ((0 : Nat) : Int) = 0 := rfl
end Go.AM.Ytfmnoohhhokicaa
end

section
namespace Go.AM
set_option maxRecDepth 100000
abbrev ZF := And.intro (And.intro (And.intro (And.intro (And.intro (And.intro (And.intro @seqX_ret @seqX_exit) (And.intro @seqX_none (And.intro @seqX_ite
  @bindR_none))) (And.intro (And.intro @bindR_ite @regX_none) (And.intro @regX_ite (And.intro @condX_bool @blockX_exit)))) (And.intro (And.intro
  (And.intro @blockX_normal @blockX_ret) (And.intro @blockX_none (And.intro @blockX_ite @fset_nil))) (And.intro (And.intro @fset_cons @Bool.not_true)
  (And.intro @Bool.not_false (And.intro @bodyX_ite @bodyX_ret))))) (And.intro (And.intro (And.intro (And.intro @bodyX_normal @run_nil) (And.intro
  @run_cons (And.intro @fget_nil @fget_cons'))) (And.intro (And.intro @fput_nil @fput_cons') (And.intro @forget_nil (And.intro @forget_cons'
  @hget_nil')))) (And.intro (And.intro (And.intro @hget_cons' @hset_nil') (And.intro @hset_cons' (And.intro @headA_nil @gcM_n))) (And.intro (And.intro
  @gcM_c (And.intro @liveBlk_eq @decide_eq_true_eq)) (And.intro @decide_eq_false_iff_not (And.intro @Nat.zero_add @Nat.add_zero)))))) (And.intro
  (And.intro (And.intro (And.intro (And.intro @rs_ite @rs_some) (And.intro @m_int (And.intro @m_bool @m_ints))) (And.intro (And.intro @m_boolint
  @bne_iff_ne.{0}) (And.intro @ne_eq.{1} (And.intro @beq_iff_eq.{0} @ite_not.{1})))) (And.intro (And.intro (And.intro @headA_drop @List.nil_append.{0})
  (And.intro @List.getElem?_toArray.{0} (And.intro @rtX_some @rtX_none))) (And.intro (And.intro @rtX_ite (And.intro @addT_some @addT_none)) (And.intro
  @addT_ite (And.intro @drX_some @drX_none))))) (And.intro (And.intro (And.intro (And.intro @drX_ite @runT_nil) (And.intro @runT_cons (And.intro @neat_eq
  @descF_nil'))) (And.intro (And.intro @descF_cons' @ascH_nil') (And.intro @ascH_cons' (And.intro @List.isEmpty_nil.{0} @List.isEmpty_cons.{0}))))
  (And.intro (And.intro (And.intro @List.map_nil.{0,0} @List.map_cons.{0,0}) (And.intro @Bool.true_or (And.intro @Bool.or_true @Bool.false_or)))
  (And.intro (And.intro @Bool.or_false (And.intro @Bool.and_true @Bool.true_and)) (And.intro @Bool.and_self (And.intro @decide_true @decide_false)))))))
  (And.intro (And.intro (And.intro (And.intro (And.intro (And.intro @not_true_eq_false @not_false_eq_true) (And.intro @or_false (And.intro @false_or
  @or_true))) (And.intro (And.intro @true_or @or_self) (And.intro @fo6 (And.intro @fo5 @Bool.not_eq_true)))) (And.intro (And.intro (And.intro
  @Bool.not_eq_false @Bool.not_eq_eq_eq_not) (And.intro @putD_some (And.intro @putD_none @and_true))) (And.intro (And.intro @true_and
  @Int.natCast_nonneg) (And.intro @Int.ofNat_lt (And.intro @Int.toNat_natCast @List.append_nil.{0}))))) (And.intro (And.intro (And.intro (And.intro
  @if_true.{1} @if_false.{1}) (And.intro @Option.map_some.{0,0} (And.intro @Option.map_none.{0,0} @List.elem_cons.{0}))) (And.intro (And.intro
  @List.elem_nil.{0} @cond_true.{1}) (And.intro @cond_false.{1} (And.intro @List.length_cons.{0} @List.length_nil.{0})))) (And.intro (And.intro
  (And.intro @List.getElem?_cons_zero.{0} @List.getElem?_cons_succ.{0}) (And.intro @List.drop_zero.{0} (And.intro @List.drop_succ_cons.{0}
  @List.take_succ_cons.{0}))) (And.intro (And.intro @List.take_zero.{0} (And.intro @List.take_nil.{0} @List.set_cons_zero.{0})) (And.intro
  @List.set_cons_succ.{0} (And.intro @frz_nil @frz_eq)))))) (And.intro (And.intro (And.intro (And.intro (And.intro @frzB_row @frzB_froz) (And.intro
  @frzB_box (And.intro @seqN @bindN))) (And.intro (And.intro @regN @snap_int) (And.intro @snap_bool (And.intro @snap_nilsl @snap_nilfunc)))) (And.intro
  (And.intro (And.intro @snap_imm @snap_ref) (And.intro @snap_ptr' (And.intro @snap_iptr @snap_agg))) (And.intro (And.intro @snap_tup (And.intro
  @snap_clo @List.all_cons.{0})) (And.intro @List.all_nil.{0} (And.intro @back1_r @back1_f))))) (And.intro (And.intro (And.intro (And.intro @back2_r
  @List.cons_append.{0}) (And.intro @Nat.le_refl (And.intro @Nat.sub_zero @Nat.mul_one))) (And.intro (And.intro @Nat.zero_mul @Nat.mul_zero) (And.intro
  @List.not_mem_nil.{0} (And.intro @beq_self_eq_true.{0} @bne_self_eq_false.{0})))) (And.intro (And.intro (And.intro @Int.lt_irrefl @Nat.lt_irrefl)
  (And.intro @Bool.false_eq_true (And.intro @Bool.false_and @Option.getD_none.{0}))) (And.intro (And.intro @Option.getD_some.{0} (And.intro
  @List.contains_cons.{0} @List.contains_nil.{0})) (And.intro @List.getD_cons_zero.{0} (And.intro @List.getD_cons_succ.{0} @List.getD_nil.{0})))))))
end Go.AM
end

section
namespace Go.AM
noncomputable section NC
/-- At which place a number stands. -/
def posF : List Nat → Nat → Nat → Option Nat
  | [], _, _ => none
  | k :: ks, j, i => if k = i then some j else posF ks (j + 1) i
mutual
/-- A value whose blocks have other names. -/
def ren (ρ : Nat → Option Nat) : AV → Option AV
  | .agg vs => match renL ρ vs with
    | some xs => some (.agg xs)
    | none => none
  | .tup vs => match renL ρ vs with
    | some xs => some (.tup xs)
    | none => none
  | .clo f vs => match renL ρ vs with
    | some xs => some (.clo f xs)
    | none => none
  | .bnd f vs => match renL ρ vs with
    | some xs => some (.bnd f xs)
    | none => none
  | .ref id off len cap gl sz ex => match ρ id with
    | some j => some (.ref j off len cap gl sz ex)
    | none => none
  | .ptr id off gl => match ρ id with
    | some j => some (.ptr j off gl)
    | none => none
  | .mapv id => match ρ id with
    | some j => some (.mapv j)
    | none => none
  | a => some a
def renL (ρ : Nat → Option Nat) : List AV → Option (List AV)
  | [] => some []
  | a :: asx => match ren ρ a with
    | some x => match renL ρ asx with
      | some xs => some (x :: xs)
      | none => none
    | none => none
end
/-- Rows hold no blocks' names. -/
def renB (ρ : Nat → Option Nat) (b : Blk) : Option Blk :=
  match b.st with
  | .box => match renL ρ b.cells with
    | some cs => some ⟨.box, cs⟩
    | none => none
  | _ => some b
/-- The blocks of a list, by their places in it. -/
def foc (ρ : Nat → Option Nat) (H : AHeap) : Nat → List Nat → Option AHeap
  | _, [] => some []
  | j, i :: is => match hget H i with
    | some b => match renB ρ b with
      | some b1 => match foc ρ H (j + 1) is with
        | some t => some ((j, b1) :: t)
        | none => none
      | none => none
    | none => none
/-- What a block of the callee's heap is called in the caller's. -/
def outF (ks news : List Nat) (B n : Nat) : Option Nat :=
  if n < ks.length then ks[n]? else match posF news 0 n with
    | some j => some (B + j)
    | none => none
/-- A block that was handed over may not have come to be frozen with another length; a new one may not be frozen. -/
def goodB (H1 : AHeap) (m n : Nat) (b : Blk) : Bool :=
  b.st.open_ || (decide (n < m) && match hget H1 n with
    | some b0 => decide (b0.cells.length = b.cells.length)
    | none => false)
def unf (ρ : Nat → Option Nat) (H1 H2 : AHeap) (m : Nat) : List Nat → Option Ups
  | [] => some []
  | n :: ns => match ρ n with
    | some i => match hget H2 n with
      | some b => if goodB H1 m n b = true then
          match renB ρ b with
          | some b' => match unf ρ H1 H2 m ns with
            | some us => some ((i, b') :: us)
            | none => none
          | none => none
        else none
      | none => none
    | none => none
/-- New blocks that the result or the handed blocks lead to. -/
def newsF (H2 : AHeap) (r : AV) (m : Nat) : List Nat := (mark H2 1000 (refsOf r ++ List.range m) []).filter fun n => decide (m ≤ n)
def freeL (H : AHeap) (B : Nat) : Nat → Bool
  | 0 => true
  | n + 1 => (hget H (B + n)).isNone && freeL H B n
/-- A place where so many blocks are free. -/
def baseF (H : AHeap) (n : Nat) : Nat → Nat → Option Nat
  | 0, _ => none
  | t + 1, B => if freeL H B n = true then some B else baseF H n t (B + 64)
/-- Back in the caller's heap. -/
def backF (H H1 : AHeap) (ks : List Nat) (B : Nat) : Option (AV × AHeap) → Option (AV × AHeap)
  | some (r, H2) =>
    match baseF H (newsF H2 r ks.length).length 8 B with
    | some B => if AM.apart (newsF H2 r ks.length) = true then
        match ren (outF ks (newsF H2 r ks.length) B) r, unf (outF ks (newsF H2 r ks.length) B) H1 H2 ks.length (List.range ks.length ++ newsF H2 r ks.length) with
        | some r', some us => some (r', upds H us)
        | _, _ => none
      else none
    | none => none
  | none => none
def focus (C : Callee) (f : FuncId) (args : List AV) (H : AHeap) (B : Nat) (ks : List Nat) : Option (AV × AHeap) :=
  if AM.apart ks = true then
    match renL (posF ks 0) args, foc (posF ks 0) H 0 ks with
    | some args1, some H1 => backF H H1 ks B (C f args1 H1 64)
    | _, _ => none
  else none
/-- A callee that sees what it is handed, and no more. -/
def frC (fr : FuncId → Bool) (C : Callee) : Callee := fun f args H B =>
  match fr f with
  | true => focus C f args H B (mark H 1000 (refsL args) []).reverse
  | false => C f args H B
def callF (E : Env) (fr : FuncId → Bool) (fg : FuncId → Nat → List Nat) (N : Nat) : Nat → Callee
  | 0 => fun _ _ _ _ => none
  | d + 1 => bodyA E (frC fr (callF E fr fg N d)) fg N
end NC
/-- A value that is an address. -/
def AV.leaf : AV → Bool
  | .ref .. | .ptr .. | .mapv .. => true
  | _ => false
section
variable {P : Program} {E : Env}
mutual
theorem ren_ok {fz fz' : Nat → Prop} {w w' : World} (hf : ∀ k, fz k → fz' k ∧ w'.heap[k]? = w.heap[k]?) {rf rf' : RFt} {ρ : Nat → Option Nat}
    (hr : ∀ a a' v, a.leaf = true → ren ρ a = some a' → v.oneCell' = true → rf a v → rf' a' v) : ∀ (a a' : AV) (v : Value), ren ρ a = some a' → VR fz w a rf v → VR fz' w' a' rf' v
  | .int .., a', _, e, h => by simp only [ren, Option.some.injEq] at e; subst e; simpa only [VR] using h
  | .bool .., a', _, e, h => by simp only [ren, Option.some.injEq] at e; subst e; simpa only [VR] using h
  | .str .., a', _, e, h => by simp only [ren, Option.some.injEq] at e; subst e; simpa only [VR] using h
  | .nilsl, a', _, e, h => by simp only [ren, Option.some.injEq] at e; subst e; simpa only [VR] using h
  | .nilptr, a', _, e, h => by simp only [ren, Option.some.injEq] at e; subst e; simpa only [VR] using h
  | .nilfunc, a', _, e, h => by simp only [ren, Option.some.injEq] at e; subst e; simpa only [VR] using h
  | .nilmap, a', _, e, h => by simp only [ren, Option.some.injEq] at e; subst e; simpa only [VR] using h
  | .any, a', _, e, _ => by simp only [ren, Option.some.injEq] at e; subst e; simp only [VR]
  | .imm cells len ex, a', _, e, h => by
    simp only [ren, Option.some.injEq] at e; subst e
    simp only [VR] at h ⊢; obtain ⟨b, o, cap, e, h1, h2, h3⟩ := h
    refine ⟨b, o, cap, e, h1, h2, ?_⟩
    rcases h3 with h3 | ⟨h3, h4⟩
    · exact .inl h3
    · exact .inr ⟨(hf b h3).1, VRc.mono (K := fun _ => True) hf (fun _ _ _ h => h) cells b o (hf b h3).2 (fun _ _ => trivial) h4⟩
  | .iptr cells off, a', _, e, h => by
    simp only [ren, Option.some.injEq] at e; subst e
    simp only [VR] at h ⊢; obtain ⟨b, o, e, h3, h4⟩ := h
    exact ⟨b, o, e, (hf b h3).1, VRc.mono (K := fun _ => True) hf (fun _ _ _ h => h) cells b o (hf b h3).2 (fun _ _ => trivial) h4⟩
  | .agg vs, a', _, e, h => by
    simp only [ren] at e
    split at e
    · rename_i xs hx
      obtain rfl := Option.some.inj e
      simp only [VR] at h ⊢; obtain ⟨A, q, h⟩ := h
      exact ⟨A, q, renO_ok hf hr vs xs _ hx h⟩
    · exact absurd e (by simp)
  | .tup vs, a', _, e, h => by
    simp only [ren] at e
    split at e
    · rename_i xs hx
      obtain rfl := Option.some.inj e
      simp only [VR] at h ⊢; obtain ⟨A, q, h⟩ := h
      exact ⟨A, q, renS_ok hf hr vs xs _ hx h⟩
    · exact absurd e (by simp)
  | .clo f vs, a', _, e, h => by
    simp only [ren] at e
    split at e
    · rename_i xs hx
      obtain rfl := Option.some.inj e
      simp only [VR] at h ⊢; obtain ⟨A, q, h⟩ := h
      exact ⟨A, q, renS_ok hf hr vs xs _ hx h⟩
    · exact absurd e (by simp)
  | .bnd f vs, a', _, e, h => by
    simp only [ren] at e
    split at e
    · rename_i xs hx
      obtain rfl := Option.some.inj e
      simp only [VR] at h ⊢; obtain ⟨A, q, h⟩ := h
      exact ⟨A, q, renS_ok hf hr vs xs _ hx h⟩
    · exact absurd e (by simp)
  | .ref id off len cap gl sz ex, a', v, e, h => by
    have e0 := e
    simp only [ren] at e
    split at e
    · obtain rfl := Option.some.inj e
      simp only [VR] at h ⊢
      exact ⟨h.1, hr _ _ v rfl e0 h.1 h.2⟩
    · exact absurd e (by simp)
  | .ptr id off gl, a', v, e, h => by
    have e0 := e
    simp only [ren] at e
    split at e
    · obtain rfl := Option.some.inj e
      simp only [VR] at h ⊢
      exact ⟨h.1, hr _ _ v rfl e0 h.1 h.2⟩
    · exact absurd e (by simp)
  | .mapv id, a', v, e, h => by
    have e0 := e
    simp only [ren] at e
    split at e
    · obtain rfl := Option.some.inj e
      simp only [VR] at h ⊢
      exact ⟨h.1, hr _ _ v rfl e0 h.1 h.2⟩
    · exact absurd e (by simp)
theorem renS_ok {fz fz' : Nat → Prop} {w w' : World} (hf : ∀ k, fz k → fz' k ∧ w'.heap[k]? = w.heap[k]?) {rf rf' : RFt} {ρ : Nat → Option Nat}
    (hr : ∀ a a' v, a.leaf = true → ren ρ a = some a' → v.oneCell' = true → rf a v → rf' a' v) : ∀ (asx bs : List AV) (vs : List Value), renL ρ asx = some bs → VRs fz w asx rf vs → VRs fz' w' bs rf' vs
  | [], bs, _, e, h => by simp only [renL, Option.some.injEq] at e; subst e; simpa only [VRs] using h
  | a :: asx, bs, _, e, h => by
    simp only [renL] at e
    split at e
    · rename_i x hx
      split at e
      · rename_i xs hxs
        obtain rfl := Option.some.inj e
        simp only [VRs] at h ⊢; obtain ⟨v, t, q, h1, h2⟩ := h
        exact ⟨v, t, q, ren_ok hf hr a x v hx h1, renS_ok hf hr asx xs t hxs h2⟩
      · exact absurd e (by simp)
    · exact absurd e (by simp)
theorem renO_ok {fz fz' : Nat → Prop} {w w' : World} (hf : ∀ k, fz k → fz' k ∧ w'.heap[k]? = w.heap[k]?) {rf rf' : RFt} {ρ : Nat → Option Nat}
    (hr : ∀ a a' v, a.leaf = true → ren ρ a = some a' → v.oneCell' = true → rf a v → rf' a' v) : ∀ (asx bs : List AV) (vs : List Value), renL ρ asx = some bs → VRo fz w asx rf vs → VRo fz' w' bs rf' vs
  | [], bs, _, e, h => by simp only [renL, Option.some.injEq] at e; subst e; simpa only [VRo] using h
  | a :: asx, bs, _, e, h => by
    simp only [renL] at e
    split at e
    · rename_i x hx
      split at e
      · rename_i xs hxs
        obtain rfl := Option.some.inj e
        simp only [VRo] at h ⊢; obtain ⟨v, t, q, h0, h1, h2⟩ := h
        exact ⟨v, t, q, h0, ren_ok hf hr a x v hx h1, renO_ok hf hr asx xs t hxs h2⟩
      · exact absurd e (by simp)
    · exact absurd e (by simp)
end
theorem renC_ok {fz fz' : Nat → Prop} {w w' : World} (hf : ∀ k, fz k → fz' k ∧ w'.heap[k]? = w.heap[k]?) {rf rf' : RFt} {ρ : Nat → Option Nat}
    (hr : ∀ a a' v, a.leaf = true → ren ρ a = some a' → v.oneCell' = true → rf a v → rf' a' v) : ∀ (asx bs : List AV) (b o : Nat), w'.heap[b]? = w.heap[b]? → renL ρ asx = some bs → VRc fz w asx rf b o → VRc fz' w' bs rf' b o
  | [], bs, _, _, _, e, _ => by simp only [renL, Option.some.injEq] at e; subst e; simp only [VRc]
  | a :: asx, bs, b, o, hb, e, h => by
    simp only [renL] at e
    split at e
    · rename_i x hx
      split at e
      · rename_i xs hxs
        obtain rfl := Option.some.inj e
        simp only [VRc] at h ⊢; obtain ⟨⟨v, q, h0, h1⟩, h2⟩ := h
        exact ⟨⟨v, by rw [cell_of_heap hb]; exact q, h0, ren_ok hf hr a x v hx h1⟩, renC_ok hf hr asx xs b (o + 1) hb hxs h2⟩
      · exact absurd e (by simp)
    · exact absurd e (by simp)
mutual
theorem ren_id : ∀ a : AV, ren some a = some a
  | .int .. | .bool .. | .str .. | .nilsl | .nilptr | .nilfunc | .nilmap | .any | .imm .. | .iptr .. | .ref .. | .ptr .. | .mapv .. => by simp only [ren]
  | .agg vs => by simp only [ren, renL_id vs]
  | .tup vs => by simp only [ren, renL_id vs]
  | .clo f vs => by simp only [ren, renL_id vs]
  | .bnd f vs => by simp only [ren, renL_id vs]
theorem renL_id : ∀ l : List AV, renL some l = some l
  | [] => by simp only [renL]
  | a :: l => by simp only [renL, ren_id a, renL_id l]
end
theorem renL_length {ρ : Nat → Option Nat} : ∀ {l l' : List AV}, renL ρ l = some l' → l'.length = l.length
  | [], _, h => by simp only [renL, Option.some.injEq] at h; subst h; rfl
  | a :: l, l', h => by
    simp only [renL] at h
    split at h
    · split at h
      · rename_i xs hxs
        obtain rfl := Option.some.inj h
        rw [List.length_cons, List.length_cons, renL_length hxs]
      · exact absurd h (by simp)
    · exact absurd h (by simp)
theorem renB_st {ρ : Nat → Option Nat} {b b' : Blk} (h : renB ρ b = some b') : b'.st = b.st ∧ b'.cells.length = b.cells.length := by
  unfold renB at h
  split at h
  · rename_i hs
    split at h
    · rename_i cs hc
      obtain rfl := Option.some.inj h
      exact ⟨hs.symm, renL_length hc⟩
    · exact absurd h (by simp)
  · obtain rfl := Option.some.inj h; exact ⟨rfl, rfl⟩
/-- A block under other names lies where it lay. -/
theorem renB_lies {g g' : Gh} {ρ : Nat → Option Nat} {i j : Nat} {b b' : Blk} (hmu : g'.mu j = g.mu i) (hh : g'.w.heap[(g.mu i).1]? = g.w.heap[(g.mu i).1]?) (hf : ∀ k, g.fz k → g'.fz k ∧ g'.w.heap[k]? = g.w.heap[k]?)
    (hr : ∀ a a' v, a.leaf = true → ren ρ a = some a' → v.oneCell' = true → RF g a v → RF g' a' v) (hb : renB ρ b = some b') (h : Lies g i b) : Lies g' j b' := by
  by_cases hs : b.st = .mp
  · have : b' = b := by unfold renB at hb; rw [hs] at hb; exact (Option.some.inj hb).symm
    subst this
    obtain ⟨es, h1, h2⟩ := h.map hs
    exact lies_map hs ⟨es, by rw [hmu, hh]; exact h1, h2⟩
  · obtain ⟨cs, t, h1, h2⟩ := h.cells hs
    refine lies_of (by rw [(renB_st hb).1]; exact hs) ⟨cs, t, by rw [hmu, hh]; exact h1, ?_⟩
    rw [hmu, (renB_st hb).1]
    unfold renB at hb
    split at hb
    · rename_i hst
      split at hb
      · rename_i cs' hc
        obtain rfl := Option.some.inj hb
        rw [hst] at h2 ⊢
        exact renC_ok hf hr _ _ _ _ hh hc h2
      · exact absurd hb (by simp)
    · rename_i hst
      obtain rfl := Option.some.inj hb
      refine VRc.mono (K := fun _ => True) hf (fun a v _ h => ?_) _ _ _ hh (fun _ _ => trivial) h2
      cases hbs : b.st <;> rw [hbs] at h
      · exact absurd hbs hst
      all_goals exact h
theorem posF_spec : ∀ (ks : List Nat) (j i n : Nat), posF ks j i = some n → j ≤ n ∧ ks[n - j]? = some i
  | [], _, _, _, h => by simp [posF] at h
  | k :: ks, j, i, n, h => by
    simp only [posF] at h
    split at h
    · rename_i e
      obtain rfl := Option.some.inj h
      subst e
      exact ⟨Nat.le_refl _, by rw [Nat.sub_self]; rfl⟩
    · obtain ⟨h1, h2⟩ := posF_spec ks (j + 1) i n h
      refine ⟨by omega, ?_⟩
      rw [show n - j = (n - (j + 1)) + 1 by omega, List.getElem?_cons_succ]; exact h2
theorem posF_of : ∀ (ks : List Nat) (j i n : Nat), ks.Nodup → ks[n]? = some i → posF ks j i = some (j + n)
  | [], _, _, _, _, h => by simp at h
  | k :: ks, j, i, n, hn, h => by
    rw [List.nodup_cons] at hn
    simp only [posF]
    cases n with
    | zero => rw [if_pos (by simpa using h)]; rfl
    | succ n =>
      rw [List.getElem?_cons_succ] at h
      rw [if_neg (fun e => hn.1 (by rw [e]; exact List.mem_of_getElem? h)), posF_of ks (j + 1) i n hn.2 h]
      congr 1; omega
theorem foc_spec {ρ : Nat → Option Nat} {H : AHeap} : ∀ (ks : List Nat) (j : Nat) {H1 : AHeap}, foc ρ H j ks = some H1 →
    (∀ n b1, hget H1 n = some b1 → j ≤ n ∧ ∃ i b, ks[n - j]? = some i ∧ hget H i = some b ∧ renB ρ b = some b1) ∧ (∀ n i, ks[n]? = some i → ∃ b b1, hget H i = some b ∧ renB ρ b = some b1 ∧ hget H1 (j + n) = some b1)
  | [], j, H1, h => by
    simp only [foc, Option.some.injEq] at h; subst h
    exact ⟨fun n b1 h => by simp [hget_n] at h, fun n i h => by simp at h⟩
  | k :: ks, j, H1, h => by
    simp only [foc] at h
    split at h
    · rename_i b hb
      split at h
      · rename_i b1 hb1
        split at h
        · rename_i t ht
          obtain rfl := Option.some.inj h
          obtain ⟨h1, h2⟩ := foc_spec ks (j + 1) ht
          refine ⟨fun n c hc => ?_, fun n i hi => ?_⟩
          · rw [hget_cons] at hc
            split at hc
            · rename_i e
              subst e
              obtain rfl := Option.some.inj hc
              exact ⟨Nat.le_refl _, k, b, by rw [Nat.sub_self]; rfl, hb, hb1⟩
            · obtain ⟨q1, i, b', q2, q3, q4⟩ := h1 n c hc
              refine ⟨by omega, i, b', ?_, q3, q4⟩
              rw [show n - j = (n - (j + 1)) + 1 by omega, List.getElem?_cons_succ]; exact q2
          · cases n with
            | zero =>
              simp only [List.getElem?_cons_zero, Option.some.injEq] at hi
              subst hi
              exact ⟨b, b1, hb, hb1, by rw [hget_cons, if_pos (by omega)]⟩
            | succ n =>
              rw [List.getElem?_cons_succ] at hi
              obtain ⟨b', b1', q1, q2, q3⟩ := h2 n i hi
              exact ⟨b', b1', q1, q2, by rw [hget_cons, if_neg (by omega), show j + (n + 1) = j + 1 + n by omega]; exact q3⟩
        · exact absurd h (by simp)
      · exact absurd h (by simp)
    · exact absurd h (by simp)
theorem unf_spec {ρ : Nat → Option Nat} {H1 H2 : AHeap} {m : Nat} : ∀ (ns : List Nat) {us : Ups}, unf ρ H1 H2 m ns = some us →
    (∀ n ∈ ns, ∃ i b b', ρ n = some i ∧ hget H2 n = some b ∧ goodB H1 m n b = true ∧ renB ρ b = some b' ∧ (i, b') ∈ us) ∧ us.map (fun p => some p.1) = ns.map ρ
  | [], us, h => by simp only [unf, Option.some.injEq] at h; subst h; exact ⟨fun n h => by simp at h, rfl⟩
  | n :: ns, us, h => by
    simp only [unf] at h
    split at h
    · rename_i i hi
      split at h
      · rename_i b hb
        split at h
        · rename_i hg
          split at h
          · rename_i b' hb'
            split at h
            · rename_i us' hu
              obtain rfl := Option.some.inj h
              obtain ⟨h1, h2⟩ := unf_spec ns hu
              refine ⟨fun x hx => ?_, ?_⟩
              · rcases List.mem_cons.1 hx with rfl | hx
                · exact ⟨i, b, b', hi, hb, hg, hb', by simp⟩
                · obtain ⟨i2, b2, b3, q1, q2, q3, q4, q5⟩ := h1 x hx
                  exact ⟨i2, b2, b3, q1, q2, q3, q4, by simp [q5]⟩
              · rw [List.map_cons, List.map_cons, h2, hi]
            · exact absurd h (by simp)
          · exact absurd h (by simp)
        · exact absurd h (by simp)
      · exact absurd h (by simp)
    · exact absurd h (by simp)
theorem freeL_spec {H : AHeap} {B : Nat} : ∀ {n : Nat}, freeL H B n = true → ∀ j, j < n → hget H (B + j) = none
  | 0, _, j, hj => by omega
  | n + 1, h, j, hj => by
    simp only [freeL, Bool.and_eq_true, Option.isNone_iff_eq_none] at h
    by_cases e : j = n
    · rw [e]; exact h.1
    · exact freeL_spec h.2 j (by omega)
theorem baseF_spec {H : AHeap} {n : Nat} : ∀ {t B B' : Nat}, baseF H n t B = some B' → freeL H B' n = true
  | 0, _, _, h => by simp [baseF] at h
  | t + 1, B, B', h => by
    simp only [baseF] at h
    split at h
    · rename_i hf
      obtain rfl := Option.some.inj h
      exact hf
    · exact baseF_spec h
theorem renB_id (b : Blk) : renB some b = some b := by
  unfold renB
  split
  · rename_i hs
    rw [renL_id]
    obtain ⟨st, cs⟩ := b
    simp only at hs
    subst hs
    rfl
  · rfl
theorem focus_ok {C : Callee} (hC : CS P E C) {f : FuncId} {args : List AV} {H : AHeap} {B : Nat} {ks : List Nat} {r : AV} {H' : AHeap} (h : focus C f args H B ks = some (r, H'))
    (g : Gh) (vs : List Value) (hH : g.H = H) (hI : Inv E g) (hs : g.Rs args vs) : Calls P f vs.toArray g.w fun
      | .returned v, w' => ∃ g', g'.w = w' ∧ g'.H = H' ∧ Inv E g' ∧ Adv g g' ∧ g'.R r v
      | _, _ => False := by
  subst hH
  unfold focus at h
  split at h
  case isFalse => exact absurd h (by simp)
  rename_i hap
  split at h
  case h_2 => exact absurd h (by simp)
  rename_i args1 H1 e1 e2
  cases hc : C f args1 H1 64 with
  | none => rw [hc] at h; simp [backF] at h
  | some rH =>
  obtain ⟨r1, H2⟩ := rH
  rw [hc] at h
  simp only [backF] at h
  generalize hnw0 : newsF H2 r1 ks.length = news at h
  generalize hB0 : B = B0 at h
  split at h
  case h_2 => exact absurd h (by simp)
  rename_i B hB
  have hfr := baseF_spec hB
  split at h
  case isFalse => exact absurd h (by simp)
  rename_i hapn
  split at h
  case h_2 => exact absurd h (by simp)
  rename_i r' us e3 e4
  simp only [Option.some.injEq, Prod.mk.injEq] at h
  obtain ⟨rfl, rfl⟩ := h
  have hnd := apart_nodup hap
  have hndn := apart_nodup hapn
  have hnews : ∀ n ∈ news, ks.length ≤ n := by
    intro n hn
    rw [← hnw0] at hn
    exact of_decide_eq_true (List.mem_filter.1 hn).2
  obtain ⟨fs1, fs2⟩ := foc_spec ks 0 e2
  generalize hg1 : (⟨fun j => g.mu (ks.getD j 0), g.fz, H1, g.w⟩ : Gh) = g1
  have g1H : g1.H = H1 := by rw [← hg1]
  have g1w : g1.w = g.w := by rw [← hg1]
  have g1f : g1.fz = g.fz := by rw [← hg1]
  have hmu1 : ∀ n i, ks[n]? = some i → g1.mu n = g.mu i := by
    intro n i h
    rw [← hg1]
    simp only [List.getD_eq_getElem?_getD, h, Option.getD_some]
  have hf1 : ∀ k, g.fz k → g1.fz k ∧ g1.w.heap[k]? = g.w.heap[k]? := fun k hk => ⟨by rw [g1f]; exact hk, by rw [g1w]⟩
  have hin : ∀ a a' v, AV.leaf a = true → ren (posF ks 0) a = some a' → v.oneCell' = true → RF g a v → RF g1 a' v := by
    intro a a' v hl e _ hv
    cases a <;> simp only [AV.leaf, Bool.false_eq_true] at hl <;> simp only [ren] at e <;> split at e <;> try (simp at e; done)
    all_goals
      rename_i n hn
      obtain rfl := Option.some.inj e
      have hk := (posF_spec _ _ _ _ hn).2
      rw [Nat.sub_zero] at hk
      obtain ⟨b, b1, q1, q2, q3⟩ := fs2 n _ hk
      rw [Nat.zero_add] at q3
      simp only [RF] at hv ⊢
      obtain ⟨b0, p1, p2, p3⟩ := hv
      rw [q1] at p1
      obtain rfl := Option.some.inj p1
      obtain ⟨r1, r2⟩ := renB_st q2
      refine ⟨b1, by rw [g1H]; exact q3, ?_, ?_⟩
    · rw [r2]; exact p2
    · rw [r2, hmu1 _ _ hk, g1w]; exact p3
    · rw [r2]; exact p2
    · rw [r2, hmu1 _ _ hk]; exact p3
    · rw [r1]; exact p2
    · rw [hmu1 _ _ hk]; exact p3
  have hI1 : Inv E g1 := by
    refine ⟨fun n b1 h => ?_, fun n n' b b' h h' hne => ?_, fun n b h ho => ?_, fun n b h ho => ?_, fun k hk => ?_, fun k cells h => ?_⟩
    · rw [g1H] at h
      obtain ⟨_, i, b, q1, q2, q3⟩ := fs1 n b1 h
      rw [Nat.sub_zero] at q1
      exact renB_lies (hmu1 n i q1) (by rw [g1w]) hf1 hin q3 (hI.blk i b q2)
    · rw [g1H] at h h'
      obtain ⟨_, i, c, q1, q2, _⟩ := fs1 n b h
      obtain ⟨_, i', c', q1', q2', _⟩ := fs1 n' b' h'
      rw [Nat.sub_zero] at q1 q1'
      rw [hmu1 n i q1, hmu1 n' i' q1']
      refine hI.inj i i' c c' q2 q2' fun e => hne ?_
      subst e
      have a1 := posF_of ks 0 i n hnd q1
      rw [posF_of ks 0 i n' hnd q1'] at a1
      have := Option.some.inj a1; omega
    · rw [g1H] at h
      obtain ⟨_, i, c, q1, q2, q3⟩ := fs1 n b h
      rw [Nat.sub_zero] at q1
      rw [hmu1 n i q1, g1f]
      exact hI.opn i c q2 (by rw [← (renB_st q3).1]; exact ho)
    · rw [g1H] at h
      obtain ⟨_, i, c, q1, q2, q3⟩ := fs1 n b h
      rw [Nat.sub_zero] at q1
      rw [hmu1 n i q1, g1f]
      exact hI.frz i c q2 (by rw [← (renB_st q3).1]; exact ho)
    · rw [g1f] at hk; rw [g1w]; exact hI.lt k hk
    · rw [g1f, g1w]; exact hI.glob k cells h
  have hs1 : g1.Rs args1 vs := renS_ok hf1 hin args args1 vs e1 hs
  have hcall := hC f args1 H1 64 r1 H2 hc g1 vs g1H hI1 hs1
  rw [g1w] at hcall
  refine hcall.mono ?_
  intro e w' he
  cases e with
  | panicked => exact he.elim
  | outgrown => exact he.elim
  | returned v =>
  obtain ⟨g2, rfl, hH2, hI2, hA, hR⟩ := he
  generalize hρ : outF ks news B = ρ at e3 e4
  have hinvd : ∃ inv : Nat → Option Nat, (∀ n i, ρ n = some i → inv i = some n ∧ (n < ks.length ∨ n ∈ news)) ∧ (∀ i n, inv i = some n → ρ n = some i) ∧ (∀ n i : Nat, ks[n]? = some i → inv i = some n ∧ ρ n = some i) ∧ ∀ i n : Nat, inv i = some n → held g.H i → ks[n]? = some i := by
    refine ⟨fun i => match posF ks 0 i with
      | some n => some n
      | none => if B ≤ i then news[i - B]? else none, ?_, ?_, ?_, ?_⟩
    · intro n i h
      rw [← hρ] at h
      unfold outF at h
      split at h
      · rename_i hl
        have := posF_of ks 0 i n hnd h
        rw [Nat.zero_add] at this
        simp only [this]
        exact ⟨trivial, .inl hl⟩
      · split at h
        · rename_i j hj
          obtain rfl := Option.some.inj h
          have hjn := (posF_spec _ _ _ _ hj).2
          rw [Nat.sub_zero] at hjn
          have hno : posF ks 0 (B + j) = none := by
            cases hp : posF ks 0 (B + j) with
            | none => rfl
            | some m =>
              have := (posF_spec _ _ _ _ hp).2
              obtain ⟨b, _, q, _⟩ := fs2 _ _ this
              rw [freeL_spec hfr j (List.getElem?_eq_some_iff.1 hjn).1] at q
              exact absurd q (by simp)
          simp only [hno]
          rw [show B + j - B = j by omega, if_pos (by omega)]
          exact ⟨hjn, .inr (List.mem_of_getElem? hjn)⟩
        · exact absurd h (by simp)
    · intro i n h
      rw [← hρ]
      unfold outF
      cases hp : posF ks 0 i with
      | some m =>
        simp only [hp, Option.some.injEq] at h
        subst h
        have := (posF_spec _ _ _ _ hp).2
        rw [Nat.sub_zero] at this
        rw [if_pos (List.getElem?_eq_some_iff.1 this).1]; exact this
      | none =>
        simp only [hp] at h
        split at h
        · rename_i hb
          have := hnews _ (List.mem_of_getElem? h)
          have hq := posF_of news 0 n (i - B) hndn h
          rw [Nat.zero_add] at hq
          rw [if_neg (by omega), hq]
          show some (B + (i - B)) = some i
          congr 1; omega
        · exact absurd h (by simp)
    · intro n i h
      have := posF_of ks 0 i n hnd h
      rw [Nat.zero_add] at this
      simp only [this, true_and]
      rw [← hρ]
      unfold outF
      rw [if_pos (List.getElem?_eq_some_iff.1 h).1]; exact h
    · intro i n h hh
      cases hp : posF ks 0 i with
      | some m =>
        simp only [hp, Option.some.injEq] at h
        subst h
        have := (posF_spec _ _ _ _ hp).2
        rw [Nat.sub_zero] at this
        exact this
      | none =>
        simp only [hp] at h
        split at h
        · rename_i hb
          obtain ⟨b, hb2⟩ := hh
          have := freeL_spec hfr _ (List.getElem?_eq_some_iff.1 h).1
          rw [show B + (i - B) = i by omega, hb2] at this
          exact absurd this (by simp)
        · exact absurd h (by simp)
  obtain ⟨inv, hi1, hi2, hi3, hi4⟩ := hinvd
  obtain ⟨u1, u2⟩ := unf_spec _ e4
  have hmem : ∀ n i, ρ n = some i → n ∈ List.range ks.length ++ news := by
    intro n i h
    rcases (hi1 n i h).2 with h | h
    · exact List.mem_append_left _ (List.mem_range.2 h)
    · exact List.mem_append_right _ h
  have hnsd : (List.range ks.length ++ news).Nodup := by
    rw [List.nodup_append]
    refine ⟨List.nodup_range, hndn, fun a ha b hb e => ?_⟩
    have := List.mem_range.1 ha
    have := hnews b hb
    omega
  have hund : (us.map (·.1)).Nodup := by
    have h1 : ((List.range ks.length ++ news).map ρ).Nodup := by
      unfold List.Nodup
      rw [List.pairwise_map]
      refine hnsd.imp_of_mem fun {a b} ha hb hne e => hne ?_
      obtain ⟨i, _, _, q, _⟩ := u1 a ha
      obtain ⟨j, _, _, q', _⟩ := u1 b hb
      rw [q, q'] at e
      obtain rfl := Option.some.inj e
      have := (hi1 a i q).1
      rw [(hi1 b i q').1] at this
      exact (Option.some.inj this).symm
    rw [← u2] at h1
    unfold List.Nodup at h1 ⊢
    rw [List.pairwise_map] at h1 ⊢
    exact h1.imp fun h e => h (by rw [e])
  have hk1 : ∀ n i, ρ n = some i → ∃ b b', hget H2 n = some b ∧ goodB H1 ks.length n b = true ∧ renB ρ b = some b' ∧ hget (upds g.H us) i = some b' := by
    intro n i h
    obtain ⟨i', b, b', q1, q2, q3, q4, q5⟩ := u1 n (hmem n i h)
    rw [h] at q1
    obtain rfl := Option.some.inj q1
    exact ⟨b, b', q2, q3, q4, hget_upds_mem us g.H hund _ q5⟩
  have hk2 : ∀ i, inv i = none → hget (upds g.H us) i = hget g.H i := by
    intro i h
    refine hget_upds_not us g.H i fun hm => ?_
    obtain ⟨p, hp, rfl⟩ := List.mem_map.1 hm
    have : some p.1 ∈ us.map (fun p => some p.1) := List.mem_map.2 ⟨p, hp, rfl⟩
    rw [u2] at this
    obtain ⟨n, _, hn⟩ := List.mem_map.1 this
    rw [(hi1 n _ hn).1] at h
    exact absurd h (by simp)
  generalize hg' : (⟨fun i => match inv i with | some n => g2.mu n | none => g.mu i, g2.fz, upds g.H us, g2.w⟩ : Gh) = g'
  have gH : g'.H = upds g.H us := by rw [← hg']
  have gw : g'.w = g2.w := by rw [← hg']
  have gf : g'.fz = g2.fz := by rw [← hg']
  have gm1 : ∀ i n, inv i = some n → g'.mu i = g2.mu n := by intro i n h; rw [← hg']; simp only [h]
  have gm2 : ∀ i, inv i = none → g'.mu i = g.mu i := by intro i h; rw [← hg']; simp only [h]
  have hout : ∀ a a' v, AV.leaf a = true → ren ρ a = some a' → v.oneCell' = true → RF g2 a v → RF g' a' v := by
    intro a a' v hl e _ hv
    cases a <;> simp only [AV.leaf, Bool.false_eq_true] at hl <;> simp only [ren] at e <;> split at e <;> try (simp at e; done)
    all_goals
      rename_i i hn
      obtain rfl := Option.some.inj e
      obtain ⟨b, b', q1, _, q3, q4⟩ := hk1 _ i hn
      simp only [RF] at hv ⊢
      obtain ⟨b0, p1, p2, p3⟩ := hv
      rw [hH2, q1] at p1
      obtain rfl := Option.some.inj p1
      obtain ⟨r1, r2⟩ := renB_st q3
      have hm := gm1 i _ (hi1 _ i hn).1
      refine ⟨b', by rw [gH]; exact q4, ?_, ?_⟩
    · rw [r2]; exact p2
    · rw [r2, hm, gw]; exact p3
    · rw [r2]; exact p2
    · rw [r2, hm]; exact p3
    · rw [r1]; exact p2
    · rw [hm]; exact p3
  have wr1 : ∀ k, wr g1 k → ∃ (n i : Nat) (b : Blk), ks[n]? = some i ∧ hget g.H i = some b ∧ b.st.open_ = true ∧ (g.mu i).1 = k := by
    rintro k ⟨n, b1, h, ho, e⟩
    rw [g1H] at h
    obtain ⟨_, i, b, q1, q2, q3⟩ := fs1 n b1 h
    rw [Nat.sub_zero] at q1
    exact ⟨n, i, b, q1, q2, by rw [← (renB_st q3).1]; exact ho, by rw [← hmu1 n i q1]; exact e⟩
  have wr1g : ∀ k, wr g1 k → wr g k := fun k h => by
    obtain ⟨_, i, b, _, q2, q3, q4⟩ := wr1 k h
    exact ⟨i, b, q2, q3, q4⟩
  have hold : ∀ k, k < g.w.heap.size → ¬ wr g1 k → g2.w.heap[k]? = g.w.heap[k]? := by
    intro k h1 h2
    have := hA.old k (by rw [g1w]; exact h1) h2
    rw [g1w] at this; exact this
  have hlt : ∀ i b, hget g.H i = some b → (g.mu i).1 < g.w.heap.size := fun i b h => (hI.blk i b h).lt
  have hnw : ∀ i b, hget g.H i = some b → inv i = none → ¬ wr g1 (g.mu i).1 := by
    intro i b h hi hw
    obtain ⟨n, i2, b2, q1, q2, _, q4⟩ := wr1 _ hw
    refine hI.inj i2 i b2 b q2 h (fun e => ?_) q4
    subst e
    rw [(hi3 n i2 q1).1] at hi
    exact absurd hi (by simp)
  have hnwf : ∀ k, g.fz k → ¬ wr g1 k := by
    intro k hk hw
    obtain ⟨i, b, q1, q2, q3⟩ := wr1g k hw
    exact hI.opn i b q1 q2 (by rw [q3]; exact hk)
  have hf2 : ∀ k, g2.fz k → g.fz k ∨ wr g1 k ∨ g.w.heap.size ≤ k := by
    intro k h
    have := hA.fz2 k h
    rw [g1f, g1w] at this; exact this
  have hf : ∀ k, g.fz k → g'.fz k ∧ g'.w.heap[k]? = g.w.heap[k]? := fun k hk =>
    ⟨by rw [gf]; exact hA.fz' k (by rw [g1f]; exact hk), by rw [gw]; exact hold k (hI.lt k hk) (hnwf k hk)⟩
  have hth : ∀ a a' v, AV.leaf a = true → ren some a = some a' → v.oneCell' = true → RF g a v → RF g' a' v := by
    intro a a' v hl e hv1 hv
    rw [ren_id] at e
    obtain rfl := Option.some.inj e
    have key : ∀ i, refsOf a = [i] → held g.H i → (∀ n, inv i = some n → ∃ a1, ren (posF ks 0) a = some a1 ∧ ren ρ a1 = some a) → (∃ n, inv i = some n) → RF g' a v := by
      intro i _ _ h2 ⟨n, hn⟩
      obtain ⟨a1, e1, e2⟩ := h2 n hn
      have hl1 : a1.leaf = true := by
        cases a <;> simp only [AV.leaf, Bool.false_eq_true] at hl <;> simp only [ren] at e1 <;> split at e1 <;> try (simp at e1; done)
        all_goals (obtain rfl := Option.some.inj e1; rfl)
      have h3 := hin a a1 v hl e1 hv1 hv
      have h4 : g1.R a1 v := by
        cases a1 <;> simp only [AV.leaf, Bool.false_eq_true] at hl1 <;> simp only [Gh.R, VR] <;> exact ⟨hv1, h3⟩
      have h5 := hA.vr a1 v h4
      have h6 : RF g2 a1 v := by
        cases a1 <;> simp only [AV.leaf, Bool.false_eq_true] at hl1 <;> simp only [Gh.R, VR] at h5 <;> exact h5.2
      exact hout a1 a v hl1 e2 hv1 h6
    cases a <;> simp only [AV.leaf, Bool.false_eq_true] at hl
    · rename_i i off len cap gl sz ex
      have hv0 := hv
      simp only [RF] at hv
      obtain ⟨b, p1, p2, p3⟩ := hv
      cases hi : inv i with
      | none =>
        simp only [RF]
        refine ⟨b, by rw [gH, hk2 i hi]; exact p1, p2, fun e => ?_⟩
        have eb : bsz g'.w (g.mu i).1 = bsz g.w (g.mu i).1 := by simp only [bsz, gw, hold _ (hlt i b p1) (hnw i b p1 hi)]
        rw [gm2 i hi, eb]
        exact p3 e
      | some n =>
        refine key i (by simp [refsOf]) ⟨b, p1⟩ (fun m hm => ?_) ⟨n, hi⟩
        have hk := hi4 i m hm ⟨b, p1⟩
        have := posF_of ks 0 i m hnd hk
        rw [Nat.zero_add] at this
        exact ⟨.ref m off len cap gl sz ex, by simp only [ren, this], by simp only [ren, hi2 i m hm]⟩
    · rename_i i off gl
      have hv0 := hv
      simp only [RF] at hv
      obtain ⟨b, p1, p2, p3⟩ := hv
      cases hi : inv i with
      | none =>
        simp only [RF]
        refine ⟨b, by rw [gH, hk2 i hi]; exact p1, p2, fun e => ?_⟩
        rw [gm2 i hi]
        exact p3 e
      | some n =>
        refine key i (by simp [refsOf]) ⟨b, p1⟩ (fun m hm => ?_) ⟨n, hi⟩
        have hk := hi4 i m hm ⟨b, p1⟩
        have := posF_of ks 0 i m hnd hk
        rw [Nat.zero_add] at this
        exact ⟨.ptr m off gl, by simp only [ren, this], by simp only [ren, hi2 i m hm]⟩
    · rename_i i
      have hv0 := hv
      simp only [RF] at hv
      obtain ⟨b, p1, p2, p3⟩ := hv
      cases hi : inv i with
      | none =>
        simp only [RF]
        refine ⟨b, by rw [gH, hk2 i hi]; exact p1, p2, ?_⟩
        rw [gm2 i hi]
        exact p3
      | some n =>
        refine key i (by simp [refsOf]) ⟨b, p1⟩ (fun m hm => ?_) ⟨n, hi⟩
        have hk := hi4 i m hm ⟨b, p1⟩
        have := posF_of ks 0 i m hnd hk
        rw [Nat.zero_add] at this
        exact ⟨.mapv m, by simp only [ren, this], by simp only [ren, hi2 i m hm]⟩
  have hcase : ∀ i b, hget g'.H i = some b → (inv i = none ∧ hget g.H i = some b) ∨ ∃ n b2, inv i = some n ∧ hget g2.H n = some b2 ∧ goodB H1 ks.length n b2 = true ∧ renB ρ b2 = some b := by
    intro i b h
    rw [gH] at h
    cases hi : inv i with
    | none => rw [hk2 i hi] at h; exact .inl ⟨rfl, h⟩
    | some n =>
      obtain ⟨b2, b', q1, q2, q3, q4⟩ := hk1 n i (hi2 i n hi)
      rw [q4] at h
      obtain rfl := Option.some.inj h
      exact .inr ⟨n, b2, rfl, by rw [hH2]; exact q1, q2, q3⟩
  have hsep : ∀ i n b b2, inv i = none → hget g.H i = some b → hget g2.H n = some b2 → goodB H1 ks.length n b2 = true → (g2.mu n).1 ≠ (g.mu i).1 := by
    intro i n b b2 hi hb hb2 hgood e
    have hl := hlt i b hb
    cases ho : b2.st.open_ with
    | true =>
      rcases hA.wr' _ ⟨n, b2, hb2, ho, rfl⟩ with hw | hw
      · rw [e] at hw; exact hnw i b hb hi hw
      · rw [g1w] at hw; omega
    | false =>
      unfold goodB at hgood
      rw [ho, Bool.false_or, Bool.and_eq_true, decide_eq_true_eq] at hgood
      obtain ⟨hn, hgood⟩ := hgood
      split at hgood
      · rename_i b0 hb0
        have hlen := of_decide_eq_true hgood
        obtain ⟨_, i2, c, q1, q2, q3⟩ := fs1 n b0 hb0
        rw [Nat.sub_zero] at q1
        have hvr := hA.vr (.ptr n 0 b0.cells.length) (.pointer (some ⟨(g1.mu n).1, (g1.mu n).2 + 0, none⟩)) (ptr_R (by rw [g1H]; exact hb0) rfl)
        simp only [Gh.R, VR, RF] at hvr
        obtain ⟨_, b3, k1, _, k3⟩ := hvr
        rw [hb2] at k1
        obtain rfl := Option.some.inj k1
        have := k3 hlen
        simp only [Value.pointer.injEq, Option.some.injEq, Addr.mk.injEq] at this
        rw [← this.1, hmu1 n i2 q1] at e
        refine hI.inj i2 i c b q2 hb (fun e2 => ?_) e
        subst e2
        rw [(hi3 n i2 q1).1] at hi
        exact absurd hi (by simp)
      · exact absurd hgood (by simp)
  refine ⟨g', gw, gH, ⟨fun i b h => ?_, fun i j b b' h h' hne => ?_, fun i b h ho => ?_, fun i b h ho => ?_, fun k hk => ?_, fun k cells h => ?_⟩,
    ⟨fun a v h => ren_ok hf hth a a v (ren_id a) h, ?_, ?_, ?_, ?_, ?_, ?_, ?_, ?_⟩, ?_⟩
  · rcases hcase i b h with ⟨hi, hb⟩ | ⟨n, b2, hi, hb2, _, hr⟩
    · exact renB_lies (gm2 i hi) (by rw [gw]; exact hold _ (hlt i b hb) (hnw i b hb hi)) hf hth (renB_id b) (hI.blk i b hb)
    · exact renB_lies (gm1 i n hi) (by rw [gw]) (fun k hk => ⟨by rw [gf]; exact hk, by rw [gw]⟩) hout hr (hI2.blk n b2 hb2)
  · rcases hcase i b h with ⟨hi, hb⟩ | ⟨n, b2, hi, hb2, hgd, hr⟩ <;> rcases hcase j b' h' with ⟨hj, hb'⟩ | ⟨m, c2, hj, hc2, hgd', hr'⟩
    · rw [gm2 i hi, gm2 j hj]; exact hI.inj i j b b' hb hb' hne
    · rw [gm2 i hi, gm1 j m hj]; exact fun e => hsep i m b c2 hi hb hc2 hgd' e.symm
    · rw [gm1 i n hi, gm2 j hj]; exact hsep j n b' b2 hj hb' hb2 hgd
    · rw [gm1 i n hi, gm1 j m hj]
      refine hI2.inj n m b2 c2 hb2 hc2 fun e => hne ?_
      subst e
      have := hi2 i n hi
      rw [hi2 j n hj] at this
      exact (Option.some.inj this).symm
  · rw [gf]
    rcases hcase i b h with ⟨hi, hb⟩ | ⟨n, b2, hi, hb2, hgd, hr⟩
    · rw [gm2 i hi]
      intro hz
      rcases hf2 _ hz with q | q | q
      · exact hI.opn i b hb ho q
      · exact hnw i b hb hi q
      · have := hlt i b hb; omega
    · rw [gm1 i n hi]; exact hI2.opn n b2 hb2 (by rw [← (renB_st hr).1]; exact ho)
  · rw [gf]
    rcases hcase i b h with ⟨hi, hb⟩ | ⟨n, b2, hi, hb2, hgd, hr⟩
    · rw [gm2 i hi]; exact hA.fz' _ (by rw [g1f]; exact hI.frz i b hb ho)
    · rw [gm1 i n hi]; exact hI2.frz n b2 hb2 (by rw [← (renB_st hr).1]; exact ho)
  · rw [gf] at hk; rw [gw]; exact hI2.lt k hk
  · rw [gf, gw]; exact hI2.glob k cells h
  · rw [gw, hA.os, g1w]
  · rw [gw, hA.tape, g1w]
  · rw [gw, hA.out, g1w]
  · have := hA.size; rw [g1w] at this; rw [gw]; exact this
  · intro k hk hw; rw [gw]; exact hold k hk fun h => hw (wr1g k h)
  · rintro k ⟨i, b, h, ho, e⟩
    rcases hcase i b h with ⟨hi, hb⟩ | ⟨n, b2, hi, hb2, hgd, hr⟩
    · rw [gm2 i hi] at e; exact .inl ⟨i, b, hb, ho, e⟩
    · rw [gm1 i n hi] at e
      rcases hA.wr' k ⟨n, b2, hb2, by rw [← (renB_st hr).1]; exact ho, e⟩ with q | q
      · exact .inl (wr1g k q)
      · rw [g1w] at q; exact .inr q
  · intro k hk; exact (hf k hk).1
  · intro k hk
    rw [gf] at hk
    rcases hf2 k hk with q | q | q
    · exact .inl q
    · exact .inr (.inl (wr1g k q))
    · exact .inr (.inr q)
  · exact ren_ok (fun k hk => ⟨by rw [gf]; exact hk, by rw [gw]⟩) hout r1 r' v e3 hR
theorem frC_ok {fr : FuncId → Bool} {C : Callee} (hC : CS P E C) : CS P E (frC fr C) := by
  intro f args H B r H' h g vs hH hI hs
  unfold frC at h
  split at h
  · exact focus_ok hC h g vs hH hI hs
  · exact hC f args H B r H' h g vs hH hI hs
theorem callF_sound (hE : EnvOK P E) (hm : P.follows .mixedOrders = true) (fr : FuncId → Bool) (fg : FuncId → Nat → List Nat) (N : Nat) : ∀ d, CS P E (callF E fr fg N d)
  | 0 => fun f args H B r H' h => by simp [callF] at h
  | d + 1 => body_ok hE hm fg N (frC_ok (callF_sound hE hm fr fg N d))
end
end Go.AM
end

section
namespace Go.AM
section
variable {α : Type} {f : α → List AV} {sz : Nat}
end
/-- Integers of 64 bits. -/
def ics (l : List Int) : List AV := l.map (AV.int .i64)
theorem ics_length (l : List Int) : (ics l).length = l.length := by simp [ics]
theorem ics_at {l : List Int} {k : Nat} {z : Int} (h : l[k]? = some z) : (ics l)[k]? = some (.int .i64 z) := by simp [ics, h]
theorem ics_snoc (l : List Int) (z : Int) : ics l ++ [.int .i64 z] = ics (l ++ [z]) := by simp [ics]
theorem ics_set (l : List Int) (k : Nat) (z : Int) : (ics l).set k (.int .i64 z) = ics (l.set k z) := by simp [ics]
/-- A list that is built, at its place: nil as long as it is empty. -/
def oV (k sz n : Nat) : AV := match n with
  | 0 => .nilsl
  | n + 1 => .ref k 0 (n + 1) (n + 1) ((n + 1) * sz) sz false
def oH (k : Nat) (cells : List AV) : AHeap := match cells with
  | [] => []
  | c :: cs => [(k, ⟨.row, c :: cs⟩)]
theorem aBack_refc {C : Callee} {site : Nat → Nat} {seen : List Nat} {f : FuncId} {args : List AV} {id m c sz gl : Nat} {cells : List AV} {H' : AHeap} (h : C f args [] 0 = some (.ref id 0 m c gl sz false, H')) (hg : hget H' id = some ⟨.row, cells⟩) (hl : cells.length = gl) :
    aBack site true seen (thaw C f args [] 0) = back1 (site 0) seen (fun k => .ref k 0 m c gl sz false) ⟨.row, cells⟩ := by
  subst hl
  simp only [thaw, h, frzRet, aBack, sitesB, aBackAt, imp, hg, List.length_nil, List.not_mem_nil, not_false_eq_true, and_true, if_true, List.map_cons, List.map_nil, AM.apart, List.elem_nil, Bool.not_false, Bool.and_true, AV.leads, back1]
theorem oH_ne (k : Nat) {c : List AV} (h : 0 < c.length) : oH k c = [(k, ⟨.row, c⟩)] := by
  cases c with
  | nil => simp at h
  | cons a c => rfl
end Go.AM
end

section
namespace Go.AM.Ytfmnoohhhokicaa
open Go Go.AM
set_option maxRecDepth 100000
variable {C : Callee} {B N : Nat} {E0 : AHeap} (φ : AFr) (H : AHeap) (s : St)
theorem T_0 : E.T 0 = some ⟨.other, 1, 0, none⟩ := nrfl rfl
theorem T_1 : E.T 1 = some ⟨.other, 1, 8, (some [.nilfunc])⟩ := nrfl rfl
theorem T_2 : E.T 2 = some ⟨.int .i64, 1, 8, (some [.int .i64 0])⟩ := nrfl rfl
theorem T_3 : E.T 3 = some ⟨.int .i64, 1, 8, (some [.int .i64 0])⟩ := nrfl rfl
theorem T_4 : E.T 4 = some ⟨.bool, 1, 1, (some [.bool false])⟩ := nrfl rfl
theorem T_5 : E.T 5 = some ⟨.int .u8, 1, 1, (some [.int .u8 0])⟩ := nrfl rfl
theorem T_6 : E.T 6 = some ⟨.int .u8, 1, 1, (some [.int .u8 0])⟩ := nrfl rfl
theorem T_7 : E.T 7 = some ⟨.struct [(0, 2, 1), (1, 3, 1), (2, 4, 1), (3, 6, 1)] false, 4, 24, (some [.int .i64 0, .int .i64 0, .bool false, .int .u8 0])⟩ := nrfl rfl
theorem T_8 : E.T 8 = some ⟨.struct [(0, 2, 1), (1, 3, 1), (2, 4, 1), (3, 6, 1)] false, 4, 24, (some [.int .i64 0, .int .i64 0, .bool false, .int .u8 0])⟩ := nrfl rfl
theorem T_9 : E.T 9 = some ⟨.str, 1, 16, (some [.str ⟨#[]⟩])⟩ := nrfl rfl
theorem T_10 : E.T 10 = some ⟨.str, 1, 16, (some [.str ⟨#[]⟩])⟩ := nrfl rfl
theorem T_11 : E.T 11 = some ⟨.str, 1, 16, (some [.str ⟨#[]⟩])⟩ := nrfl rfl
theorem T_12 : E.T 12 = some ⟨.int .u64, 1, 8, (some [.int .u64 0])⟩ := nrfl rfl
theorem T_13 : E.T 13 = some ⟨.struct [(0, 9, 1), (1, 12, 1)] false, 2, 24, (some [.str ⟨#[]⟩, .int .u64 0])⟩ := nrfl rfl
theorem T_14 : E.T 14 = some ⟨.struct [(0, 9, 1), (1, 12, 1)] false, 2, 24, (some [.str ⟨#[]⟩, .int .u64 0])⟩ := nrfl rfl
theorem T_15 : E.T 15 = some ⟨.other, 1, 8, (some [.nilptr])⟩ := nrfl rfl
theorem T_16 : E.T 16 = some ⟨.other, 1, 8, (some [.nilptr])⟩ := nrfl rfl
theorem T_17 : E.T 17 = some ⟨.other, 1, 8, (some [.nilptr])⟩ := nrfl rfl
theorem T_18 : E.T 18 = some ⟨.struct [(0, 17, 1)] false, 1, 8, (some [.nilptr])⟩ := nrfl rfl
theorem T_19 : E.T 19 = some ⟨.struct [(0, 17, 1)] false, 1, 8, (some [.nilptr])⟩ := nrfl rfl
theorem T_20 : E.T 20 = some ⟨.other, 1, 16, none⟩ := nrfl rfl
theorem T_21 : E.T 21 = some ⟨.int .i32, 1, 4, (some [.int .i32 0])⟩ := nrfl rfl
theorem T_22 : E.T 22 = some ⟨.slice 3, 1, 24, (some [.nilsl])⟩ := nrfl rfl
theorem T_23 : E.T 23 = some ⟨.other, 1, 8, (some [.nilfunc])⟩ := nrfl rfl
theorem T_24 : E.T 24 = some ⟨.int .i64, 1, 8, (some [.int .i64 0])⟩ := nrfl rfl
theorem T_25 : E.T 25 = some ⟨.other, 1, 0, none⟩ := nrfl rfl
theorem T_26 : E.T 26 = some ⟨.other, 1, 8, (some [.nilfunc])⟩ := nrfl rfl
theorem T_27 : E.T 27 = some ⟨.other, 1, 8, (some [.nilfunc])⟩ := nrfl rfl
theorem T_28 : E.T 28 = some ⟨.other, 1, 8, (some [.nilfunc])⟩ := nrfl rfl
theorem T_29 : E.T 29 = some ⟨.other, 1, 8, (some [.nilfunc])⟩ := nrfl rfl
theorem T_30 : E.T 30 = some ⟨.other, 1, 8, (some [.nilfunc])⟩ := nrfl rfl
theorem T_31 : E.T 31 = some ⟨.other, 1, 0, none⟩ := nrfl rfl
theorem T_32 : E.T 32 = some ⟨.other, 1, 8, (some [.nilfunc])⟩ := nrfl rfl
theorem T_33 : E.T 33 = some ⟨.other, 1, 0, none⟩ := nrfl rfl
theorem T_34 : E.T 34 = some ⟨.other, 1, 8, (some [.nilfunc])⟩ := nrfl rfl
theorem T_35 : E.T 35 = some ⟨.other, 1, 0, none⟩ := nrfl rfl
theorem T_36 : E.T 36 = some ⟨.other, 1, 8, (some [.nilfunc])⟩ := nrfl rfl
theorem T_37 : E.T 37 = some ⟨.other, 1, 8, (some [.nilfunc])⟩ := nrfl rfl
theorem T_38 : E.T 38 = some ⟨.other, 1, 8, (some [.nilfunc])⟩ := nrfl rfl
theorem T_39 : E.T 39 = some ⟨.slice 22, 1, 24, (some [.nilsl])⟩ := nrfl rfl
theorem T_40 : E.T 40 = some ⟨.other, 1, 0, none⟩ := nrfl rfl
theorem T_41 : E.T 41 = some ⟨.other, 1, 8, (some [.nilfunc])⟩ := nrfl rfl
theorem T_42 : E.T 42 = some ⟨.other, 1, 8, (some [.nilfunc])⟩ := nrfl rfl
theorem T_43 : E.T 43 = some ⟨.other, 1, 8, (some [.nilfunc])⟩ := nrfl rfl
theorem T_44 : E.T 44 = some ⟨.other, 1, 8, (some [.nilfunc])⟩ := nrfl rfl
theorem T_45 : E.T 45 = some ⟨.other, 1, 8, (some [.nilfunc])⟩ := nrfl rfl
theorem T_46 : E.T 46 = some ⟨.other, 1, 8, (some [.nilfunc])⟩ := nrfl rfl
theorem T_47 : E.T 47 = some ⟨.arr 6 5 true, 6, 6, (some [.int .u8 0, .int .u8 0, .int .u8 0, .int .u8 0, .int .u8 0, .int .u8 0])⟩ := nrfl rfl
theorem T_48 : E.T 48 = some ⟨.struct [(0, 5, 1), (1, 5, 1), (2, 47, 6)] false, 8, 8, (some [.int .u8 0, .int .u8 0, .int .u8 0, .int .u8 0, .int .u8 0, .int .u8 0, .int .u8 0, .int .u8 0])⟩ := nrfl rfl
theorem T_49 : E.T 49 = some ⟨.struct [(0, 5, 1), (1, 5, 1), (2, 47, 6)] false, 8, 8, (some [.int .u8 0, .int .u8 0, .int .u8 0, .int .u8 0, .int .u8 0, .int .u8 0, .int .u8 0, .int .u8 0])⟩ := nrfl rfl
theorem T_50 : E.T 50 = some ⟨.other, 1, 8, (some [.nilfunc])⟩ := nrfl rfl
theorem T_51 : E.T 51 = some ⟨.other, 1, 8, (some [.nilfunc])⟩ := nrfl rfl
theorem T_52 : E.T 52 = some ⟨.other, 1, 8, (some [.nilfunc])⟩ := nrfl rfl
theorem T_53 : E.T 53 = some ⟨.other, 1, 8, (some [.nilfunc])⟩ := nrfl rfl
theorem T_54 : E.T 54 = some ⟨.other, 1, 8, (some [.nilfunc])⟩ := nrfl rfl
theorem T_55 : E.T 55 = some ⟨.other, 1, 8, (some [.nilfunc])⟩ := nrfl rfl
theorem T_56 : E.T 56 = some ⟨.other, 1, 8, (some [.nilfunc])⟩ := nrfl rfl
theorem T_57 : E.T 57 = some ⟨.other, 1, 8, (some [.nilfunc])⟩ := nrfl rfl
theorem T_58 : E.T 58 = some ⟨.other, 1, 8, (some [.nilfunc])⟩ := nrfl rfl
theorem T_59 : E.T 59 = some ⟨.other, 1, 0, none⟩ := nrfl rfl
theorem T_60 : E.T 60 = some ⟨.other, 1, 8, (some [.nilfunc])⟩ := nrfl rfl
theorem T_61 : E.T 61 = some ⟨.other, 1, 8, (some [.nilfunc])⟩ := nrfl rfl
theorem T_62 : E.T 62 = some ⟨.other, 1, 8, (some [.nilfunc])⟩ := nrfl rfl
theorem T_63 : E.T 63 = some ⟨.other, 1, 8, (some [.nilfunc])⟩ := nrfl rfl
theorem T_64 : E.T 64 = some ⟨.other, 1, 8, (some [.nilfunc])⟩ := nrfl rfl
theorem T_65 : E.T 65 = some ⟨.other, 1, 8, (some [.nilfunc])⟩ := nrfl rfl
theorem T_66 : E.T 66 = some ⟨.other, 1, 8, (some [.nilfunc])⟩ := nrfl rfl
theorem T_67 : E.T 67 = some ⟨.other, 1, 8, (some [.nilfunc])⟩ := nrfl rfl
theorem T_68 : E.T 68 = some ⟨.other, 1, 8, (some [.nilfunc])⟩ := nrfl rfl
theorem T_69 : E.T 69 = some ⟨.other, 1, 8, (some [.nilfunc])⟩ := nrfl rfl
theorem T_70 : E.T 70 = some ⟨.other, 1, 8, (some [.nilfunc])⟩ := nrfl rfl
theorem T_71 : E.T 71 = some ⟨.other, 1, 8, (some [.nilfunc])⟩ := nrfl rfl
theorem T_72 : E.T 72 = some ⟨.other, 1, 8, (some [.nilfunc])⟩ := nrfl rfl
theorem T_73 : E.T 73 = some ⟨.other, 1, 8, (some [.nilfunc])⟩ := nrfl rfl
theorem T_74 : E.T 74 = some ⟨.other, 1, 8, (some [.nilfunc])⟩ := nrfl rfl
theorem T_75 : E.T 75 = some ⟨.arr 6 3 true, 6, 48, (some [.int .i64 0, .int .i64 0, .int .i64 0, .int .i64 0, .int .i64 0, .int .i64 0])⟩ := nrfl rfl
theorem T_76 : E.T 76 = some ⟨.arr 6 3 true, 6, 48, (some [.int .i64 0, .int .i64 0, .int .i64 0, .int .i64 0, .int .i64 0, .int .i64 0])⟩ := nrfl rfl
theorem T_77 : E.T 77 = some ⟨.other, 1, 8, (some [.nilfunc])⟩ := nrfl rfl
theorem T_78 : E.T 78 = some ⟨.other, 1, 8, (some [.nilfunc])⟩ := nrfl rfl
theorem T_79 : E.T 79 = some ⟨.other, 1, 8, (some [.nilfunc])⟩ := nrfl rfl
theorem T_80 : E.T 80 = some ⟨.other, 1, 0, none⟩ := nrfl rfl
theorem T_81 : E.T 81 = some ⟨.other, 1, 8, (some [.nilfunc])⟩ := nrfl rfl
theorem T_82 : E.T 82 = some ⟨.other, 1, 8, (some [.nilfunc])⟩ := nrfl rfl
theorem T_83 : E.T 83 = some ⟨.other, 1, 8, (some [.nilfunc])⟩ := nrfl rfl
theorem T_84 : E.T 84 = some ⟨.other, 1, 8, (some [.nilfunc])⟩ := nrfl rfl
theorem T_85 : E.T 85 = some ⟨.other, 1, 8, (some [.nilfunc])⟩ := nrfl rfl
theorem T_86 : E.T 86 = some ⟨.other, 1, 8, (some [.nilfunc])⟩ := nrfl rfl
theorem T_87 : E.T 87 = some ⟨.map 76 3 (.int .i64 0), 1, 8, (some [.nilmap])⟩ := nrfl rfl
theorem T_88 : E.T 88 = some ⟨.other, 1, 0, none⟩ := nrfl rfl
theorem T_89 : E.T 89 = some ⟨.other, 1, 8, (some [.nilfunc])⟩ := nrfl rfl
theorem T_90 : E.T 90 = some ⟨.other, 1, 8, (some [.nilfunc])⟩ := nrfl rfl
theorem T_91 : E.T 91 = some ⟨.other, 1, 8, (some [.nilfunc])⟩ := nrfl rfl
theorem T_92 : E.T 92 = some ⟨.other, 1, 8, (some [.nilfunc])⟩ := nrfl rfl
theorem T_93 : E.T 93 = some ⟨.slice 5, 1, 24, (some [.nilsl])⟩ := nrfl rfl
theorem T_94 : E.T 94 = some ⟨.other, 1, 8, (some [.nilfunc])⟩ := nrfl rfl
theorem T_95 : E.T 95 = some ⟨.other, 1, 8, (some [.nilfunc])⟩ := nrfl rfl
theorem T_96 : E.T 96 = some ⟨.other, 1, 8, (some [.nilfunc])⟩ := nrfl rfl
theorem T_97 : E.T 97 = some ⟨.other, 1, 8, (some [.nilfunc])⟩ := nrfl rfl
theorem T_98 : E.T 98 = some ⟨.int .u64, 1, 8, (some [.int .u64 0])⟩ := nrfl rfl
theorem T_99 : E.T 99 = some ⟨.other, 1, 8, (some [.nilfunc])⟩ := nrfl rfl
theorem T_100 : E.T 100 = some ⟨.other, 1, 8, (some [.nilfunc])⟩ := nrfl rfl
theorem T_101 : E.T 101 = some ⟨.slice 39, 1, 24, (some [.nilsl])⟩ := nrfl rfl
theorem T_102 : E.T 102 = some ⟨.other, 1, 8, (some [.nilfunc])⟩ := nrfl rfl
theorem T_103 : E.T 103 = some ⟨.other, 1, 8, (some [.nilfunc])⟩ := nrfl rfl
theorem T_104 : E.T 104 = some ⟨.other, 1, 8, (some [.nilfunc])⟩ := nrfl rfl
theorem T_105 : E.T 105 = some ⟨.int .i64, 1, 8, (some [.int .i64 0])⟩ := nrfl rfl
theorem T_106 : E.T 106 = some ⟨.other, 1, 0, none⟩ := nrfl rfl
theorem T_107 : E.T 107 = some ⟨.other, 1, 8, (some [.nilfunc])⟩ := nrfl rfl
theorem T_108 : E.T 108 = some ⟨.other, 1, 8, (some [.nilfunc])⟩ := nrfl rfl
theorem T_109 : E.T 109 = some ⟨.other, 1, 8, (some [.nilfunc])⟩ := nrfl rfl
theorem T_110 : E.T 110 = some ⟨.other, 1, 8, (some [.nilfunc])⟩ := nrfl rfl
theorem T_111 : E.T 111 = some ⟨.other, 1, 8, (some [.nilfunc])⟩ := nrfl rfl
theorem T_112 : E.T 112 = some ⟨.int .u32, 1, 4, (some [.int .u32 0])⟩ := nrfl rfl
theorem T_113 : E.T 113 = some ⟨.other, 1, 8, (some [.nilfunc])⟩ := nrfl rfl
theorem T_114 : E.T 114 = some ⟨.int .u64, 1, 8, (some [.int .u64 0])⟩ := nrfl rfl
theorem T_115 : E.T 115 = some ⟨.other, 1, 8, (some [.nilptr])⟩ := nrfl rfl
theorem T_116 : E.T 116 = some ⟨.other, 1, 8, (some [.nilfunc])⟩ := nrfl rfl
theorem T_117 : E.T 117 = some ⟨.other, 1, 8, (some [.nilfunc])⟩ := nrfl rfl
theorem T_118 : E.T 118 = some ⟨.other, 1, 8, (some [.nilfunc])⟩ := nrfl rfl
theorem T_119 : E.T 119 = some ⟨.other, 1, 8, (some [.nilfunc])⟩ := nrfl rfl
theorem T_120 : E.T 120 = some ⟨.other, 1, 8, (some [.nilfunc])⟩ := nrfl rfl
theorem T_121 : E.T 121 = some ⟨.int .u64, 1, 8, (some [.int .u64 0])⟩ := nrfl rfl
theorem T_122 : E.T 122 = some ⟨.other, 1, 8, (some [.nilfunc])⟩ := nrfl rfl
theorem T_123 : E.T 123 = some ⟨.other, 1, 8, (some [.nilfunc])⟩ := nrfl rfl
theorem T_124 : E.T 124 = some ⟨.other, 1, 8, (some [.nilfunc])⟩ := nrfl rfl
theorem T_125 : E.T 125 = some ⟨.other, 1, 8, (some [.nilptr])⟩ := nrfl rfl
theorem T_126 : E.T 126 = some ⟨.other, 1, 8, (some [.nilfunc])⟩ := nrfl rfl
theorem T_127 : E.T 127 = some ⟨.other, 1, 8, (some [.nilfunc])⟩ := nrfl rfl
theorem T_128 : E.T 128 = some ⟨.other, 1, 8, (some [.nilfunc])⟩ := nrfl rfl
theorem T_129 : E.T 129 = some ⟨.other, 1, 8, (some [.nilptr])⟩ := nrfl rfl
theorem T_130 : E.T 130 = some ⟨.other, 1, 0, none⟩ := nrfl rfl
theorem T_131 : E.T 131 = some ⟨.other, 1, 8, (some [.nilfunc])⟩ := nrfl rfl
theorem T_132 : E.T 132 = some ⟨.other, 1, 8, (some [.nilfunc])⟩ := nrfl rfl
theorem T_133 : E.T 133 = some ⟨.other, 1, 8, (some [.nilfunc])⟩ := nrfl rfl
theorem T_134 : E.T 134 = some ⟨.struct [(0, 17, 1), (1, 17, 1), (2, 17, 1), (3, 9, 1)] false, 4, 40, (some [.nilptr, .nilptr, .nilptr, .str ⟨#[]⟩])⟩ := nrfl rfl
theorem T_135 : E.T 135 = some ⟨.struct [(0, 17, 1), (1, 17, 1), (2, 17, 1), (3, 9, 1)] false, 4, 40, (some [.nilptr, .nilptr, .nilptr, .str ⟨#[]⟩])⟩ := nrfl rfl
theorem T_136 : E.T 136 = some ⟨.arr 0 16 false, 0, 0, (some [])⟩ := nrfl rfl
theorem T_137 : E.T 137 = some ⟨.struct [(0, 136, 0)] false, 0, 0, (some [])⟩ := nrfl rfl
theorem T_138 : E.T 138 = some ⟨.struct [(0, 136, 0)] false, 0, 0, (some [])⟩ := nrfl rfl
theorem T_139 : E.T 139 = some ⟨.other, 1, 8, (some [.nilfunc])⟩ := nrfl rfl
theorem T_140 : E.T 140 = some ⟨.int .u8, 1, 1, (some [.int .u8 0])⟩ := nrfl rfl
theorem T_141 : E.T 141 = some ⟨.int .u8, 1, 1, (some [.int .u8 0])⟩ := nrfl rfl
theorem T_142 : E.T 142 = some ⟨.other, 1, 8, (some [.nilfunc])⟩ := nrfl rfl
theorem T_143 : E.T 143 = some ⟨.other, 1, 8, (some [.nilptr])⟩ := nrfl rfl
theorem T_144 : E.T 144 = some ⟨.int .i32, 1, 4, (some [.int .i32 0])⟩ := nrfl rfl
theorem T_145 : E.T 145 = some ⟨.int .i32, 1, 4, (some [.int .i32 0])⟩ := nrfl rfl
theorem T_146 : E.T 146 = some ⟨.struct [(0, 12, 1), (1, 12, 1), (2, 112, 1), (3, 140, 1), (4, 5, 1), (5, 5, 1), (6, 141, 1), (7, 142, 1), (8, 143, 1), (9, 144, 1), (10, 145, 1)] false, 11, 48, (some [.int .u64 0, .int .u64 0, .int .u32 0, .int .u8 0, .int .u8 0, .int .u8 0, .int .u8 0, .nilfunc, .nilptr, .int .i32 0, .int .i32 0])⟩ := nrfl rfl
theorem T_147 : E.T 147 = some ⟨.struct [(0, 12, 1), (1, 12, 1), (2, 112, 1), (3, 140, 1), (4, 5, 1), (5, 5, 1), (6, 141, 1), (7, 142, 1), (8, 143, 1), (9, 144, 1), (10, 145, 1)] false, 11, 48, (some [.int .u64 0, .int .u64 0, .int .u32 0, .int .u8 0, .int .u8 0, .int .u8 0, .int .u8 0, .nilfunc, .nilptr, .int .i32 0, .int .i32 0])⟩ := nrfl rfl
theorem T_148 : E.T 148 = some ⟨.other, 1, 8, (some [.nilptr])⟩ := nrfl rfl
abbrev ZT := And.intro (And.intro (And.intro (And.intro (And.intro (And.intro (And.intro @T_0 @T_1) (And.intro @T_2 @T_3)) (And.intro (And.intro @T_4 @T_5) (And.intro @T_6 (And.intro @T_7 @T_8)))) (And.intro (And.intro (And.intro @T_9 @T_10) (And.intro @T_11 @T_12)) (And.intro (And.intro @T_13 @T_14) (And.intro @T_15 (And.intro @T_16 @T_17))))) (And.intro (And.intro (And.intro (And.intro @T_18 @T_19) (And.intro @T_20 @T_21)) (And.intro (And.intro @T_22 @T_23) (And.intro @T_24 (And.intro @T_25 @T_26)))) (And.intro (And.intro (And.intro @T_27 @T_28) (And.intro @T_29 (And.intro @T_30 @T_31))) (And.intro (And.intro @T_32 @T_33) (And.intro @T_34 (And.intro @T_35 @T_36)))))) (And.intro (And.intro (And.intro (And.intro (And.intro @T_37 @T_38) (And.intro @T_39 @T_40)) (And.intro (And.intro @T_41 @T_42) (And.intro @T_43 (And.intro @T_44 @T_45)))) (And.intro (And.intro (And.intro @T_46 @T_47) (And.intro @T_48 @T_49)) (And.intro (And.intro @T_50 @T_51) (And.intro @T_52 (And.intro @T_53 @T_54))))) (And.intro (And.intro (And.intro (And.intro @T_55 @T_56) (And.intro @T_57 @T_58)) (And.intro (And.intro @T_59 @T_60) (And.intro @T_61 (And.intro @T_62 @T_63)))) (And.intro (And.intro (And.intro @T_64 @T_65) (And.intro @T_66 (And.intro @T_67 @T_68))) (And.intro (And.intro @T_69 @T_70) (And.intro @T_71 (And.intro @T_72 @T_73))))))) (And.intro (And.intro (And.intro (And.intro (And.intro (And.intro @T_74 @T_75) (And.intro @T_76 @T_77)) (And.intro (And.intro @T_78 @T_79) (And.intro @T_80 (And.intro @T_81 @T_82)))) (And.intro (And.intro (And.intro @T_83 @T_84) (And.intro @T_85 @T_86)) (And.intro (And.intro @T_87 @T_88) (And.intro @T_89 (And.intro @T_90 @T_91))))) (And.intro (And.intro (And.intro (And.intro @T_92 @T_93) (And.intro @T_94 @T_95)) (And.intro (And.intro @T_96 @T_97) (And.intro @T_98 (And.intro @T_99 @T_100)))) (And.intro (And.intro (And.intro @T_101 @T_102) (And.intro @T_103 (And.intro @T_104 @T_105))) (And.intro (And.intro @T_106 @T_107) (And.intro @T_108 (And.intro @T_109 @T_110)))))) (And.intro (And.intro (And.intro (And.intro (And.intro @T_111 @T_112) (And.intro @T_113 @T_114)) (And.intro (And.intro @T_115 @T_116) (And.intro @T_117 (And.intro @T_118 @T_119)))) (And.intro (And.intro (And.intro @T_120 @T_121) (And.intro @T_122 (And.intro @T_123 @T_124))) (And.intro (And.intro @T_125 @T_126) (And.intro @T_127 (And.intro @T_128 @T_129))))) (And.intro (And.intro (And.intro (And.intro @T_130 @T_131) (And.intro @T_132 @T_133)) (And.intro (And.intro @T_134 @T_135) (And.intro @T_136 (And.intro @T_137 @T_138)))) (And.intro (And.intro (And.intro @T_139 @T_140) (And.intro @T_141 (And.intro @T_142 @T_143))) (And.intro (And.intro @T_144 @T_145) (And.intro @T_146 (And.intro @T_147 @T_148)))))))
noncomputable def c25_0 : Code := kBody Proofs.Try.f25
noncomputable def c25_1 : Code := kL c25_0
noncomputable def r25_0 : Array Oper := kO c25_1
noncomputable def o25_0_0 : Oper := opN r25_0 0
theorem x25_1 : execA E C (fg 25) B 40 E0 N c25_1 s = regX (runA E C B 40 r25_0 r25_0.toList s) (fun s => gcM E0 [2] (forget s.1 [2], s.2)) := x_reg (ops := r25_0) (by rfl) (by rfl) s
theorem r25_0_l : r25_0.toList = [o25_0_0] := nrfl rfl
theorem s25_0_0 : stepA E C B 40 r25_0 o25_0_0 (φ, H) = some (fput φ 2 (.int .i64 0), H) := nrfl rfl
noncomputable def c25_2 : Code := kR c25_0
noncomputable def c25_3 : Code := kL c25_2
noncomputable def c25_4 : Code := kB c25_3
noncomputable def c25_5 : Code := kL c25_4
noncomputable def r25_1 : Array Oper := kO c25_5
noncomputable def o25_1_0 : Oper := opN r25_1 0
noncomputable def o25_1_1 : Oper := opN r25_1 1
noncomputable def o25_1_2 : Oper := opN r25_1 2
noncomputable def o25_1_3 : Oper := opN r25_1 3
theorem x25_5 : execA E C (fg 25) B 40 E0 N c25_5 s = regX (runA E C B 40 r25_1 r25_1.toList s) (fun s => gcM E0 [6, 7, 8] (forget s.1 [6, 7, 8], s.2)) := x_reg (ops := r25_1) (by rfl) (by rfl) s
theorem r25_1_l : r25_1.toList = [o25_1_0, o25_1_1, o25_1_2, o25_1_3] := nrfl rfl
theorem s25_1_0 : stepA E C B 40 r25_1 o25_1_0 (φ, H) = some (fput φ 6 (fget φ 0), H) := nrfl rfl
theorem s25_1_1 : stepA E C B 40 r25_1 o25_1_1 (φ, H) = stp (some 7) φ H (aBuiltin E.T (B + 7) .len #[22] [(fget φ 6)]) := nrfl rfl
theorem s25_1_2 : stepA E C B 40 r25_1 o25_1_2 (φ, H) = stp (some 8) φ H (just (aBin E.T .eql 3 (fget φ 7) (.int .i64 0))) := nrfl rfl
theorem s25_1_3 : stepA E C B 40 r25_1 o25_1_3 (φ, H) = some (fput φ 5 (fget φ 8), H) := nrfl rfl
noncomputable def c25_6 : Code := kR c25_4
noncomputable def c25_7 : Code := kT c25_6
noncomputable def c25_8 : Code := kL c25_7
noncomputable def r25_2 : Array Oper := kO c25_8
noncomputable def o25_2_0 : Oper := opN r25_2 0
theorem x25_8 : execA E C (fg 25) B 40 E0 N c25_8 s = regX (runA E C B 40 r25_2 r25_2.toList s) (fun s => gcM E0 [0, 5] (forget s.1 [0, 5], s.2)) := x_reg (ops := r25_2) (by rfl) (by rfl) s
theorem r25_2_l : r25_2.toList = [o25_2_0] := nrfl rfl
theorem s25_2_0 : stepA E C B 40 r25_2 o25_2_0 (φ, H) = some (fput φ 2 (.int .i64 4), H) := nrfl rfl
noncomputable def c25_9 : Code := kR c25_7
theorem x25_9 : execA E C (fg 25) B 40 E0 N c25_9 s = some (.ret, s) := x_ret (by rfl) s
theorem x25_7 : execA E C (fg 25) B 40 E0 N c25_7 s = seqX (execA E C (fg 25) B 40 E0 N c25_8 s) (execA E C (fg 25) B 40 E0 N c25_9) := x_seq (by rfl) s
noncomputable def c25_10 : Code := kE c25_6
noncomputable def c25_11 : Code := kL c25_10
noncomputable def r25_3 : Array Oper := kO c25_11
noncomputable def o25_3_0 : Oper := opN r25_3 0
noncomputable def o25_3_1 : Oper := opN r25_3 1
noncomputable def o25_3_2 : Oper := opN r25_3 2
noncomputable def o25_3_3 : Oper := opN r25_3 3
theorem x25_11 : execA E C (fg 25) B 40 E0 N c25_11 s = regX (runA E C B 40 r25_3 r25_3.toList s) (fun s => gcM E0 [5, 10, 11, 12] (forget s.1 [5, 10, 11, 12], s.2)) := x_reg (ops := r25_3) (by rfl) (by rfl) s
theorem r25_3_l : r25_3.toList = [o25_3_0, o25_3_1, o25_3_2, o25_3_3] := nrfl rfl
theorem s25_3_0 : stepA E C B 40 r25_3 o25_3_0 (φ, H) = some (fput φ 10 (fget φ 0), H) := nrfl rfl
theorem s25_3_1 : stepA E C B 40 r25_3 o25_3_1 (φ, H) = stp (some 11) φ H (aBuiltin E.T (B + 11) .len #[22] [(fget φ 10)]) := nrfl rfl
theorem s25_3_2 : stepA E C B 40 r25_3 o25_3_2 (φ, H) = stp (some 12) φ H (just (aBin E.T .gtr 3 (fget φ 11) (.int .i64 6))) := nrfl rfl
theorem s25_3_3 : stepA E C B 40 r25_3 o25_3_3 (φ, H) = some (fput φ 9 (fget φ 12), H) := nrfl rfl
noncomputable def c25_12 : Code := kR c25_10
noncomputable def c25_13 : Code := kT c25_12
noncomputable def c25_14 : Code := kL c25_13
noncomputable def r25_4 : Array Oper := kO c25_14
noncomputable def o25_4_0 : Oper := opN r25_4 0
theorem x25_14 : execA E C (fg 25) B 40 E0 N c25_14 s = regX (runA E C B 40 r25_4 r25_4.toList s) (fun s => gcM E0 [0, 9] (forget s.1 [0, 9], s.2)) := x_reg (ops := r25_4) (by rfl) (by rfl) s
theorem r25_4_l : r25_4.toList = [o25_4_0] := nrfl rfl
theorem s25_4_0 : stepA E C B 40 r25_4 o25_4_0 (φ, H) = some (fput φ 2 (.int .i64 3), H) := nrfl rfl
noncomputable def c25_15 : Code := kR c25_13
theorem x25_15 : execA E C (fg 25) B 40 E0 N c25_15 s = some (.ret, s) := x_ret (by rfl) s
theorem x25_13 : execA E C (fg 25) B 40 E0 N c25_13 s = seqX (execA E C (fg 25) B 40 E0 N c25_14 s) (execA E C (fg 25) B 40 E0 N c25_15) := x_seq (by rfl) s
noncomputable def c25_16 : Code := kE c25_12
theorem x25_16 : execA E C (fg 25) B 40 E0 N c25_16 s = some (.normal, s) := x_skip (by rfl) s
theorem x25_12 : execA E C (fg 25) B 40 E0 N c25_12 (φ, H) = condX (fget φ 9) (execA E C (fg 25) B 40 E0 N c25_13 (φ, H)) (execA E C (fg 25) B 40 E0 N c25_16 (φ, H)) := x_cond (by rfl) _
theorem x25_10 : execA E C (fg 25) B 40 E0 N c25_10 s = seqX (execA E C (fg 25) B 40 E0 N c25_11 s) (execA E C (fg 25) B 40 E0 N c25_12) := x_seq (by rfl) s
theorem x25_6 : execA E C (fg 25) B 40 E0 N c25_6 (φ, H) = condX (fget φ 5) (execA E C (fg 25) B 40 E0 N c25_7 (φ, H)) (execA E C (fg 25) B 40 E0 N c25_10 (φ, H)) := x_cond (by rfl) _
theorem x25_4 : execA E C (fg 25) B 40 E0 N c25_4 s = seqX (execA E C (fg 25) B 40 E0 N c25_5 s) (execA E C (fg 25) B 40 E0 N c25_6) := x_seq (by rfl) s
theorem x25_3 : execA E C (fg 25) B 40 E0 N c25_3 s = blockX 0 (fun s => (forget s.1 [9], s.2)) (execA E C (fg 25) B 40 E0 N c25_4 s) := x_block (by rfl) (by rfl) s
noncomputable def c25_17 : Code := kR c25_2
noncomputable def c25_18 : Code := kL c25_17
noncomputable def c25_19 : Code := kL c25_18
noncomputable def r25_5 : Array Oper := kO c25_19
noncomputable def o25_5_0 : Oper := opN r25_5 0
noncomputable def o25_5_1 : Oper := opN r25_5 1
noncomputable def o25_5_2 : Oper := opN r25_5 2
theorem x25_19 : execA E C (fg 25) B 40 E0 N c25_19 s = regX (runA E C B 40 r25_5 r25_5.toList s) (fun s => gcM E0 [] (forget s.1 [], s.2)) := x_reg (ops := r25_5) (by rfl) (by rfl) s
theorem r25_5_l : r25_5.toList = [o25_5_0, o25_5_1, o25_5_2] := nrfl rfl
theorem s25_5_0 : stepA E C B 40 r25_5 o25_5_0 (φ, H) = some (fput φ 13 (fget φ 0), H) := nrfl rfl
theorem s25_5_1 : stepA E C B 40 r25_5 o25_5_1 (φ, H) = stp (some 14) φ H (aBuiltin E.T (B + 14) .len #[22] [(fget φ 13)]) := nrfl rfl
theorem s25_5_2 : stepA E C B 40 r25_5 o25_5_2 (φ, H) = some (fput φ 15 (.int .i64 0), H) := nrfl rfl
noncomputable def c25_20 : Code := kR c25_18
noncomputable def c25_21 : Code := kB c25_20
noncomputable def c25_22 : Code := kB c25_21
noncomputable def c25_23 : Code := kL c25_22
noncomputable def r25_6 : Array Oper := kO c25_23
noncomputable def o25_6_0 : Oper := opN r25_6 0
theorem x25_23 : execA E C (fg 25) B 40 E0 N c25_23 s = regX (runA E C B 40 r25_6 r25_6.toList s) (fun s => gcM E0 [] (forget s.1 [], s.2)) := x_reg (ops := r25_6) (by rfl) (by rfl) s
theorem r25_6_l : r25_6.toList = [o25_6_0] := nrfl rfl
theorem s25_6_0 : stepA E C B 40 r25_6 o25_6_0 (φ, H) = stp (some 16) φ H (just (aBin E.T .lss 3 (fget φ 15) (fget φ 14))) := nrfl rfl
noncomputable def c25_24 : Code := kR c25_22
noncomputable def c25_25 : Code := kL c25_24
noncomputable def c25_26 : Code := kT c25_25
theorem x25_26 : execA E C (fg 25) B 40 E0 N c25_26 s = some (.normal, s) := x_skip (by rfl) s
noncomputable def c25_27 : Code := kE c25_25
theorem x25_27 : execA E C (fg 25) B 40 E0 N c25_27 s = some (.exit 1, s) := x_exit (by rfl) s
theorem x25_25 : execA E C (fg 25) B 40 E0 N c25_25 (φ, H) = condX (fget φ 16) (execA E C (fg 25) B 40 E0 N c25_26 (φ, H)) (execA E C (fg 25) B 40 E0 N c25_27 (φ, H)) := x_cond (by rfl) _
noncomputable def c25_28 : Code := kR c25_24
noncomputable def c25_29 : Code := kL c25_28
noncomputable def c25_30 : Code := kB c25_29
noncomputable def c25_31 : Code := kL c25_30
noncomputable def r25_7 : Array Oper := kO c25_31
noncomputable def o25_7_0 : Oper := opN r25_7 0
noncomputable def o25_7_1 : Oper := opN r25_7 1
noncomputable def o25_7_2 : Oper := opN r25_7 2
noncomputable def o25_7_3 : Oper := opN r25_7 3
noncomputable def o25_7_4 : Oper := opN r25_7 4
theorem x25_31 : execA E C (fg 25) B 40 E0 N c25_31 s = regX (runA E C B 40 r25_7 r25_7.toList s) (fun s => gcM E0 [16, 17, 18, 19] (forget s.1 [16, 17, 18, 19], s.2)) := x_reg (ops := r25_7) (by rfl) (by rfl) s
theorem r25_7_l : r25_7.toList = [o25_7_0, o25_7_1, o25_7_2, o25_7_3, o25_7_4] := nrfl rfl
theorem s25_7_0 : stepA E C B 40 r25_7 o25_7_0 (φ, H) = some (fput φ 17 (fget φ 15), H) := nrfl rfl
theorem s25_7_1 : stepA E C B 40 r25_7 o25_7_1 (φ, H) = stp (some 18) φ H (just (aIndexAddr E.T 22 (fget φ 13) (fget φ 15))) := nrfl rfl
theorem s25_7_2 : stepA E C B 40 r25_7 o25_7_2 (φ, H) = stp (some 19) φ H (just (aLoad E.T 3 (fget φ 18))) := nrfl rfl
theorem s25_7_3 : stepA E C B 40 r25_7 o25_7_3 (φ, H) = some (fput φ 3 (fget φ 17), H) := nrfl rfl
theorem s25_7_4 : stepA E C B 40 r25_7 o25_7_4 (φ, H) = some (fput φ 4 (fget φ 19), H) := nrfl rfl
noncomputable def c25_32 : Code := kR c25_30
noncomputable def c25_33 : Code := kB c25_32
noncomputable def c25_34 : Code := kL c25_33
noncomputable def r25_8 : Array Oper := kO c25_34
noncomputable def o25_8_0 : Oper := opN r25_8 0
noncomputable def o25_8_1 : Oper := opN r25_8 1
noncomputable def o25_8_2 : Oper := opN r25_8 2
noncomputable def o25_8_3 : Oper := opN r25_8 3
noncomputable def o25_8_4 : Oper := opN r25_8 4
noncomputable def o25_8_5 : Oper := opN r25_8 5
noncomputable def o25_8_6 : Oper := opN r25_8 6
theorem x25_34 : execA E C (fg 25) B 40 E0 N c25_34 s = regX (runA E C B 40 r25_8 r25_8.toList s) (fun s => gcM E0 [21, 22, 23, 24, 25, 26] (forget s.1 [21, 22, 23, 24, 25, 26], s.2)) := x_reg (ops := r25_8) (by rfl) (by rfl) s
theorem r25_8_l : r25_8.toList = [o25_8_0, o25_8_1, o25_8_2, o25_8_3, o25_8_4, o25_8_5, o25_8_6] := nrfl rfl
theorem s25_8_0 : stepA E C B 40 r25_8 o25_8_0 (φ, H) = some (fput φ 21 (fget φ 4), H) := nrfl rfl
theorem s25_8_1 : stepA E C B 40 r25_8 o25_8_1 (φ, H) = stp (some 22) φ H (just (aBin E.T .lss 3 (fget φ 21) (.int .i64 0))) := nrfl rfl
theorem s25_8_2 : stepA E C B 40 r25_8 o25_8_2 (φ, H) = some (fput φ 23 (fget φ 22), H) := nrfl rfl
theorem s25_8_3 : stepA E C B 40 r25_8 o25_8_3 (φ, H) = gd φ 23 false (fun φ => some (fput φ 24 (.tup []), H)) (fun φ => some (fput φ 24 (fget φ 4), H)) := s_gd (j := 2) (oj := o25_8_2) rfl rfl rfl (fun _ => rfl) (fun _ => rfl)
theorem s25_8_4 : stepA E C B 40 r25_8 o25_8_4 (φ, H) = gd φ 23 false (fun φ => some (fput φ 25 (.tup []), H)) (fun φ => stp (some 25) φ H (just (aBin E.T .gtr 3 (fget φ 24) (.int .i64 8)))) := s_gd (j := 2) (oj := o25_8_2) rfl rfl rfl (fun _ => rfl) (fun _ => rfl)
theorem s25_8_5 : stepA E C B 40 r25_8 o25_8_5 (φ, H) = stp (some 26) φ H (opPick (fget φ 23) (.bool true) (fget φ 25)) := nrfl rfl
theorem s25_8_6 : stepA E C B 40 r25_8 o25_8_6 (φ, H) = some (fput φ 20 (fget φ 26), H) := nrfl rfl
noncomputable def c25_35 : Code := kR c25_33
noncomputable def c25_36 : Code := kT c25_35
noncomputable def c25_37 : Code := kL c25_36
noncomputable def r25_9 : Array Oper := kO c25_37
noncomputable def o25_9_0 : Oper := opN r25_9 0
theorem x25_37 : execA E C (fg 25) B 40 E0 N c25_37 s = regX (runA E C B 40 r25_9 r25_9.toList s) (fun s => gcM E0 [0, 3, 4, 13, 14, 15, 20] (forget s.1 [0, 3, 4, 13, 14, 15, 20], s.2)) := x_reg (ops := r25_9) (by rfl) (by rfl) s
theorem r25_9_l : r25_9.toList = [o25_9_0] := nrfl rfl
theorem s25_9_0 : stepA E C B 40 r25_9 o25_9_0 (φ, H) = some (fput φ 2 (.int .i64 1), H) := nrfl rfl
noncomputable def c25_38 : Code := kR c25_36
theorem x25_38 : execA E C (fg 25) B 40 E0 N c25_38 s = some (.ret, s) := x_ret (by rfl) s
theorem x25_36 : execA E C (fg 25) B 40 E0 N c25_36 s = seqX (execA E C (fg 25) B 40 E0 N c25_37 s) (execA E C (fg 25) B 40 E0 N c25_38) := x_seq (by rfl) s
noncomputable def c25_39 : Code := kE c25_35
noncomputable def c25_40 : Code := kL c25_39
noncomputable def r25_10 : Array Oper := kO c25_40
noncomputable def o25_10_0 : Oper := opN r25_10 0
noncomputable def o25_10_1 : Oper := opN r25_10 1
noncomputable def o25_10_2 : Oper := opN r25_10 2
noncomputable def o25_10_3 : Oper := opN r25_10 3
noncomputable def o25_10_4 : Oper := opN r25_10 4
noncomputable def o25_10_5 : Oper := opN r25_10 5
noncomputable def o25_10_6 : Oper := opN r25_10 6
noncomputable def o25_10_7 : Oper := opN r25_10 7
noncomputable def o25_10_8 : Oper := opN r25_10 8
noncomputable def o25_10_9 : Oper := opN r25_10 9
noncomputable def o25_10_10 : Oper := opN r25_10 10
noncomputable def o25_10_11 : Oper := opN r25_10 11
theorem x25_40 : execA E C (fg 25) B 40 E0 N c25_40 s = regX (runA E C B 40 r25_10 r25_10.toList s) (fun s => gcM E0 [3, 4, 20, 28, 29, 30, 31, 32, 33, 34, 35, 36, 37, 38] (forget s.1 [3, 4, 20, 28, 29, 30, 31, 32, 33, 34, 35, 36, 37, 38], s.2)) := x_reg (ops := r25_10) (by rfl) (by rfl) s
theorem r25_10_l : r25_10.toList = [o25_10_0, o25_10_1, o25_10_2, o25_10_3, o25_10_4, o25_10_5, o25_10_6, o25_10_7, o25_10_8, o25_10_9, o25_10_10, o25_10_11] := nrfl rfl
theorem s25_10_0 : stepA E C B 40 r25_10 o25_10_0 (φ, H) = some (fput φ 28 (fget φ 3), H) := nrfl rfl
theorem s25_10_1 : stepA E C B 40 r25_10 o25_10_1 (φ, H) = stp (some 29) φ H (just (aBin E.T .gtr 3 (fget φ 28) (.int .i64 0))) := nrfl rfl
theorem s25_10_2 : stepA E C B 40 r25_10 o25_10_2 (φ, H) = some (fput φ 30 (fget φ 29), H) := nrfl rfl
theorem s25_10_3 : stepA E C B 40 r25_10 o25_10_3 (φ, H) = gd φ 30 true (fun φ => some (fput φ 31 (.tup []), H)) (fun φ => some (fput φ 31 (fget φ 4), H)) := s_gd (j := 2) (oj := o25_10_2) rfl rfl rfl (fun _ => rfl) (fun _ => rfl)
theorem s25_10_4 : stepA E C B 40 r25_10 o25_10_4 (φ, H) = gd φ 30 true (fun φ => some (fput φ 32 (.tup []), H)) (fun φ => some (fput φ 32 (fget φ 0), H)) := s_gd (j := 2) (oj := o25_10_2) rfl rfl rfl (fun _ => rfl) (fun _ => rfl)
theorem s25_10_5 : stepA E C B 40 r25_10 o25_10_5 (φ, H) = gd φ 30 true (fun φ => some (fput φ 33 (.tup []), H)) (fun φ => some (fput φ 33 (fget φ 3), H)) := s_gd (j := 2) (oj := o25_10_2) rfl rfl rfl (fun _ => rfl) (fun _ => rfl)
theorem s25_10_6 : stepA E C B 40 r25_10 o25_10_6 (φ, H) = gd φ 30 true (fun φ => some (fput φ 34 (.tup []), H)) (fun φ => stp (some 34) φ H (just (aBin E.T .sub 3 (fget φ 33) (.int .i64 1)))) := s_gd (j := 2) (oj := o25_10_2) rfl rfl rfl (fun _ => rfl) (fun _ => rfl)
theorem s25_10_7 : stepA E C B 40 r25_10 o25_10_7 (φ, H) = gd φ 30 true (fun φ => some (fput φ 35 (.tup []), H)) (fun φ => stp (some 35) φ H (just (aIndexAddr E.T 22 (fget φ 32) (fget φ 34)))) := s_gd (j := 2) (oj := o25_10_2) rfl rfl rfl (fun _ => rfl) (fun _ => rfl)
theorem s25_10_8 : stepA E C B 40 r25_10 o25_10_8 (φ, H) = gd φ 30 true (fun φ => some (fput φ 36 (.tup []), H)) (fun φ => stp (some 36) φ H (just (aLoad E.T 3 (fget φ 35)))) := s_gd (j := 2) (oj := o25_10_2) rfl rfl rfl (fun _ => rfl) (fun _ => rfl)
theorem s25_10_9 : stepA E C B 40 r25_10 o25_10_9 (φ, H) = gd φ 30 true (fun φ => some (fput φ 37 (.tup []), H)) (fun φ => stp (some 37) φ H (just (aBin E.T .gtr 3 (fget φ 31) (fget φ 36)))) := s_gd (j := 2) (oj := o25_10_2) rfl rfl rfl (fun _ => rfl) (fun _ => rfl)
theorem s25_10_10 : stepA E C B 40 r25_10 o25_10_10 (φ, H) = stp (some 38) φ H (opPick (fget φ 30) (fget φ 37) (.bool false)) := nrfl rfl
theorem s25_10_11 : stepA E C B 40 r25_10 o25_10_11 (φ, H) = some (fput φ 27 (fget φ 38), H) := nrfl rfl
noncomputable def c25_41 : Code := kR c25_39
noncomputable def c25_42 : Code := kT c25_41
noncomputable def c25_43 : Code := kL c25_42
noncomputable def r25_11 : Array Oper := kO c25_43
noncomputable def o25_11_0 : Oper := opN r25_11 0
theorem x25_43 : execA E C (fg 25) B 40 E0 N c25_43 s = regX (runA E C B 40 r25_11 r25_11.toList s) (fun s => gcM E0 [0, 13, 14, 15, 27] (forget s.1 [0, 13, 14, 15, 27], s.2)) := x_reg (ops := r25_11) (by rfl) (by rfl) s
theorem r25_11_l : r25_11.toList = [o25_11_0] := nrfl rfl
theorem s25_11_0 : stepA E C B 40 r25_11 o25_11_0 (φ, H) = some (fput φ 2 (.int .i64 7), H) := nrfl rfl
noncomputable def c25_44 : Code := kR c25_42
theorem x25_44 : execA E C (fg 25) B 40 E0 N c25_44 s = some (.ret, s) := x_ret (by rfl) s
theorem x25_42 : execA E C (fg 25) B 40 E0 N c25_42 s = seqX (execA E C (fg 25) B 40 E0 N c25_43 s) (execA E C (fg 25) B 40 E0 N c25_44) := x_seq (by rfl) s
noncomputable def c25_45 : Code := kE c25_41
theorem x25_45 : execA E C (fg 25) B 40 E0 N c25_45 s = some (.normal, s) := x_skip (by rfl) s
theorem x25_41 : execA E C (fg 25) B 40 E0 N c25_41 (φ, H) = condX (fget φ 27) (execA E C (fg 25) B 40 E0 N c25_42 (φ, H)) (execA E C (fg 25) B 40 E0 N c25_45 (φ, H)) := x_cond (by rfl) _
theorem x25_39 : execA E C (fg 25) B 40 E0 N c25_39 s = seqX (execA E C (fg 25) B 40 E0 N c25_40 s) (execA E C (fg 25) B 40 E0 N c25_41) := x_seq (by rfl) s
theorem x25_35 : execA E C (fg 25) B 40 E0 N c25_35 (φ, H) = condX (fget φ 20) (execA E C (fg 25) B 40 E0 N c25_36 (φ, H)) (execA E C (fg 25) B 40 E0 N c25_39 (φ, H)) := x_cond (by rfl) _
theorem x25_33 : execA E C (fg 25) B 40 E0 N c25_33 s = seqX (execA E C (fg 25) B 40 E0 N c25_34 s) (execA E C (fg 25) B 40 E0 N c25_35) := x_seq (by rfl) s
theorem x25_32 : execA E C (fg 25) B 40 E0 N c25_32 s = blockX 3 (fun s => (forget s.1 [27], s.2)) (execA E C (fg 25) B 40 E0 N c25_33 s) := x_block (by rfl) (by rfl) s
theorem x25_30 : execA E C (fg 25) B 40 E0 N c25_30 s = seqX (execA E C (fg 25) B 40 E0 N c25_31 s) (execA E C (fg 25) B 40 E0 N c25_32) := x_seq (by rfl) s
theorem x25_29 : execA E C (fg 25) B 40 E0 N c25_29 s = blockX 2 (fun s => (forget s.1 [], s.2)) (execA E C (fg 25) B 40 E0 N c25_30 s) := x_block (by rfl) (by rfl) s
noncomputable def c25_46 : Code := kR c25_28
noncomputable def r25_12 : Array Oper := kO c25_46
noncomputable def o25_12_0 : Oper := opN r25_12 0
noncomputable def o25_12_1 : Oper := opN r25_12 1
theorem x25_46 : execA E C (fg 25) B 40 E0 N c25_46 s = regX (runA E C B 40 r25_12 r25_12.toList s) (fun s => gcM E0 [39] (forget s.1 [39], s.2)) := x_reg (ops := r25_12) (by rfl) (by rfl) s
theorem r25_12_l : r25_12.toList = [o25_12_0, o25_12_1] := nrfl rfl
theorem s25_12_0 : stepA E C B 40 r25_12 o25_12_0 (φ, H) = stp (some 39) φ H (just (aBin E.T .add 3 (fget φ 15) (.int .i64 1))) := nrfl rfl
theorem s25_12_1 : stepA E C B 40 r25_12 o25_12_1 (φ, H) = some (fput φ 15 (fget φ 39), H) := nrfl rfl
theorem x25_28 : execA E C (fg 25) B 40 E0 N c25_28 s = seqX (execA E C (fg 25) B 40 E0 N c25_29 s) (execA E C (fg 25) B 40 E0 N c25_46) := x_seq (by rfl) s
theorem x25_24 : execA E C (fg 25) B 40 E0 N c25_24 s = seqX (execA E C (fg 25) B 40 E0 N c25_25 s) (execA E C (fg 25) B 40 E0 N c25_28) := x_seq (by rfl) s
theorem x25_22 : execA E C (fg 25) B 40 E0 N c25_22 s = seqX (execA E C (fg 25) B 40 E0 N c25_23 s) (execA E C (fg 25) B 40 E0 N c25_24) := x_seq (by rfl) s
theorem x25_21 : execA E C (fg 25) B 40 E0 N c25_21 s = iterA (execA E C (fg 25) B 40 E0 N c25_22) (headA E0) N s := x_loop (by rfl) s
theorem x25_20 : execA E C (fg 25) B 40 E0 N c25_20 s = blockX 1 (fun s => (forget s.1 [0, 13, 14, 15, 16], s.2)) (execA E C (fg 25) B 40 E0 N c25_21 s) := x_block (by rfl) (by rfl) s
theorem x25_18 : execA E C (fg 25) B 40 E0 N c25_18 s = seqX (execA E C (fg 25) B 40 E0 N c25_19 s) (execA E C (fg 25) B 40 E0 N c25_20) := x_seq (by rfl) s
noncomputable def c25_47 : Code := kR c25_17
noncomputable def c25_48 : Code := kL c25_47
noncomputable def r25_13 : Array Oper := kO c25_48
noncomputable def o25_13_0 : Oper := opN r25_13 0
theorem x25_48 : execA E C (fg 25) B 40 E0 N c25_48 s = regX (runA E C B 40 r25_13 r25_13.toList s) (fun s => gcM E0 [] (forget s.1 [], s.2)) := x_reg (ops := r25_13) (by rfl) (by rfl) s
theorem r25_13_l : r25_13.toList = [o25_13_0] := nrfl rfl
theorem s25_13_0 : stepA E C B 40 r25_13 o25_13_0 (φ, H) = some (fput φ 2 (.int .i64 0), H) := nrfl rfl
noncomputable def c25_49 : Code := kR c25_47
theorem x25_49 : execA E C (fg 25) B 40 E0 N c25_49 s = some (.ret, s) := x_ret (by rfl) s
theorem x25_47 : execA E C (fg 25) B 40 E0 N c25_47 s = seqX (execA E C (fg 25) B 40 E0 N c25_48 s) (execA E C (fg 25) B 40 E0 N c25_49) := x_seq (by rfl) s
theorem x25_17 : execA E C (fg 25) B 40 E0 N c25_17 s = seqX (execA E C (fg 25) B 40 E0 N c25_18 s) (execA E C (fg 25) B 40 E0 N c25_47) := x_seq (by rfl) s
theorem x25_2 : execA E C (fg 25) B 40 E0 N c25_2 s = seqX (execA E C (fg 25) B 40 E0 N c25_3 s) (execA E C (fg 25) B 40 E0 N c25_17) := x_seq (by rfl) s
theorem x25_0 : execA E C (fg 25) B 40 E0 N c25_0 s = seqX (execA E C (fg 25) B 40 E0 N c25_1 s) (execA E C (fg 25) B 40 E0 N c25_2) := x_seq (by rfl) s
theorem fi_25 : fInfo E 25 = some ⟨40, #[.tmp 2], c25_0⟩ := nrfl rfl
theorem b_25 (args : List AV) : bodyA E C fg N 25 args H B = bodyX E [.tmp 2] (execA E C (fg 25) B 40 H N c25_0 (frame0 args 0 [], H)) := bodyA_eq fi_25 args H
abbrev F_25 := And.intro (And.intro (And.intro (And.intro (And.intro (And.intro @x25_1 (And.intro @r25_0_l @s25_0_0)) (And.intro @x25_5 (And.intro @r25_1_l @s25_1_0))) (And.intro (And.intro @s25_1_1 (And.intro @s25_1_2 @s25_1_3)) (And.intro (And.intro @x25_8 @r25_2_l) (And.intro @s25_2_0 @x25_9)))) (And.intro (And.intro (And.intro @x25_7 (And.intro @x25_11 @r25_3_l)) (And.intro (And.intro @s25_3_0 @s25_3_1) (And.intro @s25_3_2 @s25_3_3))) (And.intro (And.intro @x25_14 (And.intro @r25_4_l @s25_4_0)) (And.intro (And.intro @x25_15 @x25_13) (And.intro @x25_16 @x25_12))))) (And.intro (And.intro (And.intro (And.intro @x25_10 (And.intro @x25_6 @x25_4)) (And.intro @x25_3 (And.intro @x25_19 @r25_5_l))) (And.intro (And.intro @s25_5_0 (And.intro @s25_5_1 @s25_5_2)) (And.intro (And.intro @x25_23 @r25_6_l) (And.intro @s25_6_0 @x25_26)))) (And.intro (And.intro (And.intro @x25_27 (And.intro @x25_25 @x25_31)) (And.intro (And.intro @r25_7_l @s25_7_0) (And.intro @s25_7_1 @s25_7_2))) (And.intro (And.intro @s25_7_3 (And.intro @s25_7_4 @x25_34)) (And.intro (And.intro @r25_8_l @s25_8_0) (And.intro @s25_8_1 @s25_8_2)))))) (And.intro (And.intro (And.intro (And.intro (And.intro @s25_8_3 (And.intro @s25_8_4 @s25_8_5)) (And.intro @s25_8_6 (And.intro @x25_37 @r25_9_l))) (And.intro (And.intro @s25_9_0 (And.intro @x25_38 @x25_36)) (And.intro (And.intro @x25_40 @r25_10_l) (And.intro @s25_10_0 @s25_10_1)))) (And.intro (And.intro (And.intro @s25_10_2 (And.intro @s25_10_3 @s25_10_4)) (And.intro (And.intro @s25_10_5 @s25_10_6) (And.intro @s25_10_7 @s25_10_8))) (And.intro (And.intro @s25_10_9 (And.intro @s25_10_10 @s25_10_11)) (And.intro (And.intro @x25_43 @r25_11_l) (And.intro @s25_11_0 @x25_44))))) (And.intro (And.intro (And.intro (And.intro @x25_42 (And.intro @x25_45 @x25_41)) (And.intro (And.intro @x25_39 @x25_35) (And.intro @x25_33 @x25_32))) (And.intro (And.intro @x25_30 (And.intro @x25_29 @x25_46)) (And.intro (And.intro @r25_12_l @s25_12_0) (And.intro @s25_12_1 @x25_28)))) (And.intro (And.intro (And.intro @x25_24 (And.intro @x25_22 @x25_21)) (And.intro (And.intro @x25_20 @x25_18) (And.intro @x25_48 @r25_13_l))) (And.intro (And.intro @s25_13_0 (And.intro @x25_49 @x25_47)) (And.intro (And.intro @x25_17 @x25_2) (And.intro @x25_0 @b_25))))))
noncomputable def c79_0 : Code := kBody Proofs.Try.f79
noncomputable def c79_1 : Code := kL c79_0
noncomputable def r79_0 : Array Oper := kO c79_1
noncomputable def o79_0_0 : Oper := opN r79_0 0
theorem x79_1 : execA E C (fg 79) B 25 E0 N c79_1 s = regX (runA E C B 25 r79_0 r79_0.toList s) (fun s => gcM E0 [2] (forget s.1 [2], s.2)) := x_reg (ops := r79_0) (by rfl) (by rfl) s
theorem r79_0_l : r79_0.toList = [o79_0_0] := nrfl rfl
theorem s79_0_0 : stepA E C B 25 r79_0 o79_0_0 (φ, H) = some (fput φ 2 (.nilsl), H) := nrfl rfl
noncomputable def c79_2 : Code := kR c79_0
noncomputable def c79_3 : Code := kL c79_2
noncomputable def r79_1 : Array Oper := kO c79_3
noncomputable def o79_1_0 : Oper := opN r79_1 0
noncomputable def o79_1_1 : Oper := opN r79_1 1
theorem x79_3 : execA E C (fg 79) B 25 E0 N c79_3 s = regX (runA E C B 25 r79_1 r79_1.toList s) (fun s => gcM E0 [6] (forget s.1 [6], s.2)) := x_reg (ops := r79_1) (by rfl) (by rfl) s
theorem r79_1_l : r79_1.toList = [o79_1_0, o79_1_1] := nrfl rfl
theorem s79_1_0 : stepA E C B 25 r79_1 o79_1_0 (φ, H) = stp (some 6) φ H (aBuildSlice E.T (B + 6) 22 1 (evO E φ) [(0, Operand.const (Value.int .i64 0))]) := nrfl rfl
theorem s79_1_1 : stepA E C B 25 r79_1 o79_1_1 (φ, H) = some (fput φ 3 (fget φ 6), H) := nrfl rfl
noncomputable def c79_4 : Code := kR c79_2
noncomputable def c79_5 : Code := kL c79_4
noncomputable def c79_6 : Code := kL c79_5
noncomputable def r79_2 : Array Oper := kO c79_6
noncomputable def o79_2_0 : Oper := opN r79_2 0
noncomputable def o79_2_1 : Oper := opN r79_2 1
noncomputable def o79_2_2 : Oper := opN r79_2 2
theorem x79_6 : execA E C (fg 79) B 25 E0 N c79_6 s = regX (runA E C B 25 r79_2 r79_2.toList s) (fun s => gcM E0 [0] (forget s.1 [0], s.2)) := x_reg (ops := r79_2) (by rfl) (by rfl) s
theorem r79_2_l : r79_2.toList = [o79_2_0, o79_2_1, o79_2_2] := nrfl rfl
theorem s79_2_0 : stepA E C B 25 r79_2 o79_2_0 (φ, H) = some (fput φ 7 (fget φ 0), H) := nrfl rfl
theorem s79_2_1 : stepA E C B 25 r79_2 o79_2_1 (φ, H) = stp (some 8) φ H (aBuiltin E.T (B + 8) .len #[22] [(fget φ 7)]) := nrfl rfl
theorem s79_2_2 : stepA E C B 25 r79_2 o79_2_2 (φ, H) = some (fput φ 9 (.int .i64 0), H) := nrfl rfl
noncomputable def c79_7 : Code := kR c79_5
noncomputable def c79_8 : Code := kB c79_7
noncomputable def c79_9 : Code := kB c79_8
noncomputable def c79_10 : Code := kL c79_9
noncomputable def r79_3 : Array Oper := kO c79_10
noncomputable def o79_3_0 : Oper := opN r79_3 0
theorem x79_10 : execA E C (fg 79) B 25 E0 N c79_10 s = regX (runA E C B 25 r79_3 r79_3.toList s) (fun s => gcM E0 [] (forget s.1 [], s.2)) := x_reg (ops := r79_3) (by rfl) (by rfl) s
theorem r79_3_l : r79_3.toList = [o79_3_0] := nrfl rfl
theorem s79_3_0 : stepA E C B 25 r79_3 o79_3_0 (φ, H) = stp (some 10) φ H (just (aBin E.T .lss 3 (fget φ 9) (fget φ 8))) := nrfl rfl
noncomputable def c79_11 : Code := kR c79_9
noncomputable def c79_12 : Code := kL c79_11
noncomputable def c79_13 : Code := kT c79_12
theorem x79_13 : execA E C (fg 79) B 25 E0 N c79_13 s = some (.normal, s) := x_skip (by rfl) s
noncomputable def c79_14 : Code := kE c79_12
theorem x79_14 : execA E C (fg 79) B 25 E0 N c79_14 s = some (.exit 0, s) := x_exit (by rfl) s
theorem x79_12 : execA E C (fg 79) B 25 E0 N c79_12 (φ, H) = condX (fget φ 10) (execA E C (fg 79) B 25 E0 N c79_13 (φ, H)) (execA E C (fg 79) B 25 E0 N c79_14 (φ, H)) := x_cond (by rfl) _
noncomputable def c79_15 : Code := kR c79_11
noncomputable def c79_16 : Code := kL c79_15
noncomputable def c79_17 : Code := kB c79_16
noncomputable def c79_18 : Code := kL c79_17
noncomputable def r79_4 : Array Oper := kO c79_18
noncomputable def o79_4_0 : Oper := opN r79_4 0
noncomputable def o79_4_1 : Oper := opN r79_4 1
noncomputable def o79_4_2 : Oper := opN r79_4 2
noncomputable def o79_4_3 : Oper := opN r79_4 3
noncomputable def o79_4_4 : Oper := opN r79_4 4
theorem x79_18 : execA E C (fg 79) B 25 E0 N c79_18 s = regX (runA E C B 25 r79_4 r79_4.toList s) (fun s => gcM E0 [10, 11, 12, 13] (forget s.1 [10, 11, 12, 13], s.2)) := x_reg (ops := r79_4) (by rfl) (by rfl) s
theorem r79_4_l : r79_4.toList = [o79_4_0, o79_4_1, o79_4_2, o79_4_3, o79_4_4] := nrfl rfl
theorem s79_4_0 : stepA E C B 25 r79_4 o79_4_0 (φ, H) = some (fput φ 11 (fget φ 9), H) := nrfl rfl
theorem s79_4_1 : stepA E C B 25 r79_4 o79_4_1 (φ, H) = stp (some 12) φ H (just (aIndexAddr E.T 22 (fget φ 7) (fget φ 9))) := nrfl rfl
theorem s79_4_2 : stepA E C B 25 r79_4 o79_4_2 (φ, H) = stp (some 13) φ H (just (aLoad E.T 3 (fget φ 12))) := nrfl rfl
theorem s79_4_3 : stepA E C B 25 r79_4 o79_4_3 (φ, H) = some (fput φ 4 (fget φ 11), H) := nrfl rfl
theorem s79_4_4 : stepA E C B 25 r79_4 o79_4_4 (φ, H) = some (fput φ 5 (fget φ 13), H) := nrfl rfl
noncomputable def c79_19 : Code := kR c79_17
noncomputable def r79_5 : Array Oper := kO c79_19
noncomputable def o79_5_0 : Oper := opN r79_5 0
noncomputable def o79_5_1 : Oper := opN r79_5 1
noncomputable def o79_5_2 : Oper := opN r79_5 2
noncomputable def o79_5_3 : Oper := opN r79_5 3
noncomputable def o79_5_4 : Oper := opN r79_5 4
noncomputable def o79_5_5 : Oper := opN r79_5 5
noncomputable def o79_5_6 : Oper := opN r79_5 6
noncomputable def o79_5_7 : Oper := opN r79_5 7
noncomputable def o79_5_8 : Oper := opN r79_5 8
noncomputable def o79_5_9 : Oper := opN r79_5 9
theorem x79_19 : execA E C (fg 79) B 25 E0 N c79_19 s = regX (runA E C B 25 r79_5 r79_5.toList s) (fun s => gcM E0 [4, 5, 14, 15, 16, 17, 18, 19, 20, 21, 22] (forget s.1 [4, 5, 14, 15, 16, 17, 18, 19, 20, 21, 22], s.2)) := x_reg (ops := r79_5) (by rfl) (by rfl) s
theorem r79_5_l : r79_5.toList = [o79_5_0, o79_5_1, o79_5_2, o79_5_3, o79_5_4, o79_5_5, o79_5_6, o79_5_7, o79_5_8, o79_5_9] := nrfl rfl
theorem s79_5_0 : stepA E C B 25 r79_5 o79_5_0 (φ, H) = some (fput φ 14 (fget φ 3), H) := nrfl rfl
theorem s79_5_1 : stepA E C B 25 r79_5 o79_5_1 (φ, H) = some (fput φ 15 (fget φ 3), H) := nrfl rfl
theorem s79_5_2 : stepA E C B 25 r79_5 o79_5_2 (φ, H) = some (fput φ 16 (fget φ 4), H) := nrfl rfl
theorem s79_5_3 : stepA E C B 25 r79_5 o79_5_3 (φ, H) = stp (some 17) φ H (just (aIndexAddr E.T 22 (fget φ 15) (fget φ 16))) := nrfl rfl
theorem s79_5_4 : stepA E C B 25 r79_5 o79_5_4 (φ, H) = stp (some 18) φ H (just (aLoad E.T 3 (fget φ 17))) := nrfl rfl
theorem s79_5_5 : stepA E C B 25 r79_5 o79_5_5 (φ, H) = some (fput φ 19 (fget φ 5), H) := nrfl rfl
theorem s79_5_6 : stepA E C B 25 r79_5 o79_5_6 (φ, H) = stp (some 20) φ H (just (aBin E.T .add 3 (fget φ 18) (fget φ 19))) := nrfl rfl
theorem s79_5_7 : stepA E C B 25 r79_5 o79_5_7 (φ, H) = stp (some 21) φ H (aBuildSlice E.T (B + 21) 22 1 (evO E φ) [(0, Operand.tmp 20)]) := nrfl rfl
theorem s79_5_8 : stepA E C B 25 r79_5 o79_5_8 (φ, H) = stp (some 22) φ H (aBuiltin E.T (B + 22) .append #[22, 22] [(fget φ 14), (fget φ 21)]) := nrfl rfl
theorem s79_5_9 : stepA E C B 25 r79_5 o79_5_9 (φ, H) = some (fput φ 3 (fget φ 22), H) := nrfl rfl
theorem x79_17 : execA E C (fg 79) B 25 E0 N c79_17 s = seqX (execA E C (fg 79) B 25 E0 N c79_18 s) (execA E C (fg 79) B 25 E0 N c79_19) := x_seq (by rfl) s
theorem x79_16 : execA E C (fg 79) B 25 E0 N c79_16 s = blockX 1 (fun s => (forget s.1 [], s.2)) (execA E C (fg 79) B 25 E0 N c79_17 s) := x_block (by rfl) (by rfl) s
noncomputable def c79_20 : Code := kR c79_15
noncomputable def r79_6 : Array Oper := kO c79_20
noncomputable def o79_6_0 : Oper := opN r79_6 0
noncomputable def o79_6_1 : Oper := opN r79_6 1
theorem x79_20 : execA E C (fg 79) B 25 E0 N c79_20 s = regX (runA E C B 25 r79_6 r79_6.toList s) (fun s => gcM E0 [23] (forget s.1 [23], s.2)) := x_reg (ops := r79_6) (by rfl) (by rfl) s
theorem r79_6_l : r79_6.toList = [o79_6_0, o79_6_1] := nrfl rfl
theorem s79_6_0 : stepA E C B 25 r79_6 o79_6_0 (φ, H) = stp (some 23) φ H (just (aBin E.T .add 3 (fget φ 9) (.int .i64 1))) := nrfl rfl
theorem s79_6_1 : stepA E C B 25 r79_6 o79_6_1 (φ, H) = some (fput φ 9 (fget φ 23), H) := nrfl rfl
theorem x79_15 : execA E C (fg 79) B 25 E0 N c79_15 s = seqX (execA E C (fg 79) B 25 E0 N c79_16 s) (execA E C (fg 79) B 25 E0 N c79_20) := x_seq (by rfl) s
theorem x79_11 : execA E C (fg 79) B 25 E0 N c79_11 s = seqX (execA E C (fg 79) B 25 E0 N c79_12 s) (execA E C (fg 79) B 25 E0 N c79_15) := x_seq (by rfl) s
theorem x79_9 : execA E C (fg 79) B 25 E0 N c79_9 s = seqX (execA E C (fg 79) B 25 E0 N c79_10 s) (execA E C (fg 79) B 25 E0 N c79_11) := x_seq (by rfl) s
theorem x79_8 : execA E C (fg 79) B 25 E0 N c79_8 s = iterA (execA E C (fg 79) B 25 E0 N c79_9) (headA E0) N s := x_loop (by rfl) s
theorem x79_7 : execA E C (fg 79) B 25 E0 N c79_7 s = blockX 0 (fun s => (forget s.1 [7, 8, 9, 10], s.2)) (execA E C (fg 79) B 25 E0 N c79_8 s) := x_block (by rfl) (by rfl) s
theorem x79_5 : execA E C (fg 79) B 25 E0 N c79_5 s = seqX (execA E C (fg 79) B 25 E0 N c79_6 s) (execA E C (fg 79) B 25 E0 N c79_7) := x_seq (by rfl) s
noncomputable def c79_21 : Code := kR c79_4
noncomputable def c79_22 : Code := kL c79_21
noncomputable def r79_7 : Array Oper := kO c79_22
noncomputable def o79_7_0 : Oper := opN r79_7 0
noncomputable def o79_7_1 : Oper := opN r79_7 1
theorem x79_22 : execA E C (fg 79) B 25 E0 N c79_22 s = regX (runA E C B 25 r79_7 r79_7.toList s) (fun s => gcM E0 [3, 24] (forget s.1 [3, 24], s.2)) := x_reg (ops := r79_7) (by rfl) (by rfl) s
theorem r79_7_l : r79_7.toList = [o79_7_0, o79_7_1] := nrfl rfl
theorem s79_7_0 : stepA E C B 25 r79_7 o79_7_0 (φ, H) = some (fput φ 24 (fget φ 3), H) := nrfl rfl
theorem s79_7_1 : stepA E C B 25 r79_7 o79_7_1 (φ, H) = some (fput φ 2 (fget φ 24), H) := nrfl rfl
noncomputable def c79_23 : Code := kR c79_21
theorem x79_23 : execA E C (fg 79) B 25 E0 N c79_23 s = some (.ret, s) := x_ret (by rfl) s
theorem x79_21 : execA E C (fg 79) B 25 E0 N c79_21 s = seqX (execA E C (fg 79) B 25 E0 N c79_22 s) (execA E C (fg 79) B 25 E0 N c79_23) := x_seq (by rfl) s
theorem x79_4 : execA E C (fg 79) B 25 E0 N c79_4 s = seqX (execA E C (fg 79) B 25 E0 N c79_5 s) (execA E C (fg 79) B 25 E0 N c79_21) := x_seq (by rfl) s
theorem x79_2 : execA E C (fg 79) B 25 E0 N c79_2 s = seqX (execA E C (fg 79) B 25 E0 N c79_3 s) (execA E C (fg 79) B 25 E0 N c79_4) := x_seq (by rfl) s
theorem x79_0 : execA E C (fg 79) B 25 E0 N c79_0 s = seqX (execA E C (fg 79) B 25 E0 N c79_1 s) (execA E C (fg 79) B 25 E0 N c79_2) := x_seq (by rfl) s
theorem fi_79 : fInfo E 79 = some ⟨25, #[.tmp 2], c79_0⟩ := nrfl rfl
theorem b_79 (args : List AV) : bodyA E C fg N 79 args H B = bodyX E [.tmp 2] (execA E C (fg 79) B 25 H N c79_0 (frame0 args 0 [], H)) := bodyA_eq fi_79 args H
abbrev F_79 := And.intro (And.intro (And.intro (And.intro (And.intro @x79_1 (And.intro @r79_0_l @s79_0_0)) (And.intro (And.intro @x79_3 @r79_1_l) (And.intro @s79_1_0 @s79_1_1))) (And.intro (And.intro @x79_6 (And.intro @r79_2_l @s79_2_0)) (And.intro (And.intro @s79_2_1 @s79_2_2) (And.intro @x79_10 @r79_3_l)))) (And.intro (And.intro (And.intro @s79_3_0 (And.intro @x79_13 @x79_14)) (And.intro (And.intro @x79_12 @x79_18) (And.intro @r79_4_l @s79_4_0))) (And.intro (And.intro (And.intro @s79_4_1 @s79_4_2) (And.intro @s79_4_3 @s79_4_4)) (And.intro (And.intro @x79_19 @r79_5_l) (And.intro @s79_5_0 @s79_5_1))))) (And.intro (And.intro (And.intro (And.intro @s79_5_2 (And.intro @s79_5_3 @s79_5_4)) (And.intro (And.intro @s79_5_5 @s79_5_6) (And.intro @s79_5_7 @s79_5_8))) (And.intro (And.intro (And.intro @s79_5_9 @x79_17) (And.intro @x79_16 @x79_20)) (And.intro (And.intro @r79_6_l @s79_6_0) (And.intro @s79_6_1 @x79_15)))) (And.intro (And.intro (And.intro @x79_11 (And.intro @x79_9 @x79_8)) (And.intro (And.intro @x79_7 @x79_5) (And.intro @x79_22 @r79_7_l))) (And.intro (And.intro (And.intro @s79_7_0 @s79_7_1) (And.intro @x79_23 @x79_21)) (And.intro (And.intro @x79_4 @x79_2) (And.intro @x79_0 @b_79)))))
noncomputable def c85_0 : Code := kBody Proofs.Try.f85
noncomputable def c85_1 : Code := kL c85_0
noncomputable def r85_0 : Array Oper := kO c85_1
noncomputable def o85_0_0 : Oper := opN r85_0 0
noncomputable def o85_0_1 : Oper := opN r85_0 1
noncomputable def o85_0_2 : Oper := opN r85_0 2
theorem x85_1 : execA E C (fg 85) B 43 E0 N c85_1 s = regX (runA E C B 43 r85_0 r85_0.toList s) (fun s => gcM E0 [4, 5, 6] (forget s.1 [4, 5, 6], s.2)) := x_reg (ops := r85_0) (by rfl) (by rfl) s
theorem r85_0_l : r85_0.toList = [o85_0_0, o85_0_1, o85_0_2] := nrfl rfl
theorem s85_0_0 : stepA E C B 43 r85_0 o85_0_0 (φ, H) = some (fput φ 4 (.nilsl), H) := nrfl rfl
theorem s85_0_1 : stepA E C B 43 r85_0 o85_0_1 (φ, H) = some (fput φ 5 (.nilsl), H) := nrfl rfl
theorem s85_0_2 : stepA E C B 43 r85_0 o85_0_2 (φ, H) = some (fput φ 6 (.int .i64 0), H) := nrfl rfl
noncomputable def c85_2 : Code := kR c85_0
noncomputable def c85_3 : Code := kL c85_2
noncomputable def c85_4 : Code := kL c85_3
noncomputable def r85_1 : Array Oper := kO c85_4
noncomputable def o85_1_0 : Oper := opN r85_1 0
noncomputable def o85_1_1 : Oper := opN r85_1 1
noncomputable def o85_1_2 : Oper := opN r85_1 2
theorem x85_4 : execA E C (fg 85) B 43 E0 N c85_4 s = regX (runA E C B 43 r85_1 r85_1.toList s) (fun s => gcM E0 [9, 10] (forget s.1 [9, 10], s.2)) := x_reg (ops := r85_1) (by rfl) (by rfl) s
theorem r85_1_l : r85_1.toList = [o85_1_0, o85_1_1, o85_1_2] := nrfl rfl
theorem s85_1_0 : stepA E C B 43 r85_1 o85_1_0 (φ, H) = some (fput φ 9 (fget φ 0), H) := nrfl rfl
theorem s85_1_1 : stepA E C B 43 r85_1 o85_1_1 (φ, H) = stp (some 10) φ H (aCall C (fun j => B + j * 43 + 10) true 25 [(fget φ 9)]) := nrfl rfl
theorem s85_1_2 : stepA E C B 43 r85_1 o85_1_2 (φ, H) = some (fput φ 7 (fget φ 10), H) := nrfl rfl
noncomputable def c85_5 : Code := kR c85_3
noncomputable def c85_6 : Code := kL c85_5
noncomputable def r85_2 : Array Oper := kO c85_6
noncomputable def o85_2_0 : Oper := opN r85_2 0
noncomputable def o85_2_1 : Oper := opN r85_2 1
theorem x85_6 : execA E C (fg 85) B 43 E0 N c85_6 s = regX (runA E C B 43 r85_2 r85_2.toList s) (fun s => gcM E0 [11] (forget s.1 [11], s.2)) := x_reg (ops := r85_2) (by rfl) (by rfl) s
theorem r85_2_l : r85_2.toList = [o85_2_0, o85_2_1] := nrfl rfl
theorem s85_2_0 : stepA E C B 43 r85_2 o85_2_0 (φ, H) = some (fput φ 11 (fget φ 7), H) := nrfl rfl
theorem s85_2_1 : stepA E C B 43 r85_2 o85_2_1 (φ, H) = stp (some 12) φ H (just (aBin E.T .neq 24 (fget φ 11) (.int .i64 0))) := nrfl rfl
noncomputable def c85_7 : Code := kR c85_5
noncomputable def c85_8 : Code := kT c85_7
noncomputable def c85_9 : Code := kL c85_8
noncomputable def r85_3 : Array Oper := kO c85_9
noncomputable def o85_3_0 : Oper := opN r85_3 0
noncomputable def o85_3_1 : Oper := opN r85_3 1
noncomputable def o85_3_2 : Oper := opN r85_3 2
noncomputable def o85_3_3 : Oper := opN r85_3 3
theorem x85_9 : execA E C (fg 85) B 43 E0 N c85_9 s = regX (runA E C B 43 r85_3 r85_3.toList s) (fun s => gcM E0 [0, 1, 7, 12, 13] (forget s.1 [0, 1, 7, 12, 13], s.2)) := x_reg (ops := r85_3) (by rfl) (by rfl) s
theorem r85_3_l : r85_3.toList = [o85_3_0, o85_3_1, o85_3_2, o85_3_3] := nrfl rfl
theorem s85_3_0 : stepA E C B 43 r85_3 o85_3_0 (φ, H) = some (fput φ 13 (fget φ 7), H) := nrfl rfl
theorem s85_3_1 : stepA E C B 43 r85_3 o85_3_1 (φ, H) = some (fput φ 4 (.nilsl), H) := nrfl rfl
theorem s85_3_2 : stepA E C B 43 r85_3 o85_3_2 (φ, H) = some (fput φ 5 (.nilsl), H) := nrfl rfl
theorem s85_3_3 : stepA E C B 43 r85_3 o85_3_3 (φ, H) = some (fput φ 6 (fget φ 13), H) := nrfl rfl
noncomputable def c85_10 : Code := kR c85_8
theorem x85_10 : execA E C (fg 85) B 43 E0 N c85_10 s = some (.ret, s) := x_ret (by rfl) s
theorem x85_8 : execA E C (fg 85) B 43 E0 N c85_8 s = seqX (execA E C (fg 85) B 43 E0 N c85_9 s) (execA E C (fg 85) B 43 E0 N c85_10) := x_seq (by rfl) s
noncomputable def c85_11 : Code := kE c85_7
theorem x85_11 : execA E C (fg 85) B 43 E0 N c85_11 s = some (.normal, s) := x_skip (by rfl) s
theorem x85_7 : execA E C (fg 85) B 43 E0 N c85_7 (φ, H) = condX (fget φ 12) (execA E C (fg 85) B 43 E0 N c85_8 (φ, H)) (execA E C (fg 85) B 43 E0 N c85_11 (φ, H)) := x_cond (by rfl) _
theorem x85_5 : execA E C (fg 85) B 43 E0 N c85_5 s = seqX (execA E C (fg 85) B 43 E0 N c85_6 s) (execA E C (fg 85) B 43 E0 N c85_7) := x_seq (by rfl) s
theorem x85_3 : execA E C (fg 85) B 43 E0 N c85_3 s = seqX (execA E C (fg 85) B 43 E0 N c85_4 s) (execA E C (fg 85) B 43 E0 N c85_5) := x_seq (by rfl) s
noncomputable def c85_12 : Code := kR c85_2
noncomputable def c85_13 : Code := kL c85_12
noncomputable def c85_14 : Code := kL c85_13
noncomputable def r85_4 : Array Oper := kO c85_14
noncomputable def o85_4_0 : Oper := opN r85_4 0
noncomputable def o85_4_1 : Oper := opN r85_4 1
noncomputable def o85_4_2 : Oper := opN r85_4 2
theorem x85_14 : execA E C (fg 85) B 43 E0 N c85_14 s = regX (runA E C B 43 r85_4 r85_4.toList s) (fun s => gcM E0 [7, 12, 14, 15] (forget s.1 [7, 12, 14, 15], s.2)) := x_reg (ops := r85_4) (by rfl) (by rfl) s
theorem r85_4_l : r85_4.toList = [o85_4_0, o85_4_1, o85_4_2] := nrfl rfl
theorem s85_4_0 : stepA E C B 43 r85_4 o85_4_0 (φ, H) = some (fput φ 14 (fget φ 1), H) := nrfl rfl
theorem s85_4_1 : stepA E C B 43 r85_4 o85_4_1 (φ, H) = stp (some 15) φ H (aCall C (fun j => B + j * 43 + 15) true 25 [(fget φ 14)]) := nrfl rfl
theorem s85_4_2 : stepA E C B 43 r85_4 o85_4_2 (φ, H) = some (fput φ 8 (fget φ 15), H) := nrfl rfl
noncomputable def c85_15 : Code := kR c85_13
noncomputable def c85_16 : Code := kL c85_15
noncomputable def r85_5 : Array Oper := kO c85_16
noncomputable def o85_5_0 : Oper := opN r85_5 0
noncomputable def o85_5_1 : Oper := opN r85_5 1
theorem x85_16 : execA E C (fg 85) B 43 E0 N c85_16 s = regX (runA E C B 43 r85_5 r85_5.toList s) (fun s => gcM E0 [16] (forget s.1 [16], s.2)) := x_reg (ops := r85_5) (by rfl) (by rfl) s
theorem r85_5_l : r85_5.toList = [o85_5_0, o85_5_1] := nrfl rfl
theorem s85_5_0 : stepA E C B 43 r85_5 o85_5_0 (φ, H) = some (fput φ 16 (fget φ 8), H) := nrfl rfl
theorem s85_5_1 : stepA E C B 43 r85_5 o85_5_1 (φ, H) = stp (some 17) φ H (just (aBin E.T .neq 24 (fget φ 16) (.int .i64 0))) := nrfl rfl
noncomputable def c85_17 : Code := kR c85_15
noncomputable def c85_18 : Code := kT c85_17
noncomputable def c85_19 : Code := kL c85_18
noncomputable def r85_6 : Array Oper := kO c85_19
noncomputable def o85_6_0 : Oper := opN r85_6 0
noncomputable def o85_6_1 : Oper := opN r85_6 1
noncomputable def o85_6_2 : Oper := opN r85_6 2
noncomputable def o85_6_3 : Oper := opN r85_6 3
theorem x85_19 : execA E C (fg 85) B 43 E0 N c85_19 s = regX (runA E C B 43 r85_6 r85_6.toList s) (fun s => gcM E0 [0, 1, 8, 17, 18] (forget s.1 [0, 1, 8, 17, 18], s.2)) := x_reg (ops := r85_6) (by rfl) (by rfl) s
theorem r85_6_l : r85_6.toList = [o85_6_0, o85_6_1, o85_6_2, o85_6_3] := nrfl rfl
theorem s85_6_0 : stepA E C B 43 r85_6 o85_6_0 (φ, H) = some (fput φ 18 (fget φ 8), H) := nrfl rfl
theorem s85_6_1 : stepA E C B 43 r85_6 o85_6_1 (φ, H) = some (fput φ 4 (.nilsl), H) := nrfl rfl
theorem s85_6_2 : stepA E C B 43 r85_6 o85_6_2 (φ, H) = some (fput φ 5 (.nilsl), H) := nrfl rfl
theorem s85_6_3 : stepA E C B 43 r85_6 o85_6_3 (φ, H) = some (fput φ 6 (fget φ 18), H) := nrfl rfl
noncomputable def c85_20 : Code := kR c85_18
theorem x85_20 : execA E C (fg 85) B 43 E0 N c85_20 s = some (.ret, s) := x_ret (by rfl) s
theorem x85_18 : execA E C (fg 85) B 43 E0 N c85_18 s = seqX (execA E C (fg 85) B 43 E0 N c85_19 s) (execA E C (fg 85) B 43 E0 N c85_20) := x_seq (by rfl) s
noncomputable def c85_21 : Code := kE c85_17
theorem x85_21 : execA E C (fg 85) B 43 E0 N c85_21 s = some (.normal, s) := x_skip (by rfl) s
theorem x85_17 : execA E C (fg 85) B 43 E0 N c85_17 (φ, H) = condX (fget φ 17) (execA E C (fg 85) B 43 E0 N c85_18 (φ, H)) (execA E C (fg 85) B 43 E0 N c85_21 (φ, H)) := x_cond (by rfl) _
theorem x85_15 : execA E C (fg 85) B 43 E0 N c85_15 s = seqX (execA E C (fg 85) B 43 E0 N c85_16 s) (execA E C (fg 85) B 43 E0 N c85_17) := x_seq (by rfl) s
theorem x85_13 : execA E C (fg 85) B 43 E0 N c85_13 s = seqX (execA E C (fg 85) B 43 E0 N c85_14 s) (execA E C (fg 85) B 43 E0 N c85_15) := x_seq (by rfl) s
noncomputable def c85_22 : Code := kR c85_12
noncomputable def c85_23 : Code := kL c85_22
noncomputable def r85_7 : Array Oper := kO c85_23
noncomputable def o85_7_0 : Oper := opN r85_7 0
noncomputable def o85_7_1 : Oper := opN r85_7 1
noncomputable def o85_7_2 : Oper := opN r85_7 2
noncomputable def o85_7_3 : Oper := opN r85_7 3
noncomputable def o85_7_4 : Oper := opN r85_7 4
noncomputable def o85_7_5 : Oper := opN r85_7 5
theorem x85_23 : execA E C (fg 85) B 43 E0 N c85_23 s = regX (runA E C B 43 r85_7 r85_7.toList s) (fun s => gcM E0 [8, 17, 19, 20, 21, 22] (forget s.1 [8, 17, 19, 20, 21, 22], s.2)) := x_reg (ops := r85_7) (by rfl) (by rfl) s
theorem r85_7_l : r85_7.toList = [o85_7_0, o85_7_1, o85_7_2, o85_7_3, o85_7_4, o85_7_5] := nrfl rfl
theorem s85_7_0 : stepA E C B 43 r85_7 o85_7_0 (φ, H) = some (fput φ 19 (fget φ 0), H) := nrfl rfl
theorem s85_7_1 : stepA E C B 43 r85_7 o85_7_1 (φ, H) = stp (some 20) φ H (aCall C (fun j => B + j * 43 + 20) true 79 [(fget φ 19)]) := nrfl rfl
theorem s85_7_2 : stepA E C B 43 r85_7 o85_7_2 (φ, H) = some (fput φ 21 (fget φ 1), H) := nrfl rfl
theorem s85_7_3 : stepA E C B 43 r85_7 o85_7_3 (φ, H) = stp (some 22) φ H (aCall C (fun j => B + j * 43 + 22) true 79 [(fget φ 21)]) := nrfl rfl
theorem s85_7_4 : stepA E C B 43 r85_7 o85_7_4 (φ, H) = some (fput φ 4 (fget φ 20), H) := nrfl rfl
theorem s85_7_5 : stepA E C B 43 r85_7 o85_7_5 (φ, H) = some (fput φ 5 (fget φ 22), H) := nrfl rfl
noncomputable def c85_24 : Code := kR c85_22
noncomputable def c85_25 : Code := kL c85_24
noncomputable def c85_26 : Code := kB c85_25
noncomputable def c85_27 : Code := kL c85_26
noncomputable def r85_8 : Array Oper := kO c85_27
noncomputable def o85_8_0 : Oper := opN r85_8 0
noncomputable def o85_8_1 : Oper := opN r85_8 1
noncomputable def o85_8_2 : Oper := opN r85_8 2
noncomputable def o85_8_3 : Oper := opN r85_8 3
noncomputable def o85_8_4 : Oper := opN r85_8 4
noncomputable def o85_8_5 : Oper := opN r85_8 5
theorem x85_27 : execA E C (fg 85) B 43 E0 N c85_27 s = regX (runA E C B 43 r85_8 r85_8.toList s) (fun s => gcM E0 [24, 25, 26, 27, 28] (forget s.1 [24, 25, 26, 27, 28], s.2)) := x_reg (ops := r85_8) (by rfl) (by rfl) s
theorem r85_8_l : r85_8.toList = [o85_8_0, o85_8_1, o85_8_2, o85_8_3, o85_8_4, o85_8_5] := nrfl rfl
theorem s85_8_0 : stepA E C B 43 r85_8 o85_8_0 (φ, H) = some (fput φ 24 (fget φ 0), H) := nrfl rfl
theorem s85_8_1 : stepA E C B 43 r85_8 o85_8_1 (φ, H) = stp (some 25) φ H (aBuiltin E.T (B + 25) .len #[22] [(fget φ 24)]) := nrfl rfl
theorem s85_8_2 : stepA E C B 43 r85_8 o85_8_2 (φ, H) = some (fput φ 26 (fget φ 1), H) := nrfl rfl
theorem s85_8_3 : stepA E C B 43 r85_8 o85_8_3 (φ, H) = stp (some 27) φ H (aBuiltin E.T (B + 27) .len #[22] [(fget φ 26)]) := nrfl rfl
theorem s85_8_4 : stepA E C B 43 r85_8 o85_8_4 (φ, H) = stp (some 28) φ H (just (aBin E.T .neq 3 (fget φ 25) (fget φ 27))) := nrfl rfl
theorem s85_8_5 : stepA E C B 43 r85_8 o85_8_5 (φ, H) = some (fput φ 23 (fget φ 28), H) := nrfl rfl
noncomputable def c85_28 : Code := kR c85_26
noncomputable def c85_29 : Code := kT c85_28
noncomputable def c85_30 : Code := kL c85_29
noncomputable def r85_9 : Array Oper := kO c85_30
noncomputable def o85_9_0 : Oper := opN r85_9 0
noncomputable def o85_9_1 : Oper := opN r85_9 1
noncomputable def o85_9_2 : Oper := opN r85_9 2
theorem x85_30 : execA E C (fg 85) B 43 E0 N c85_30 s = regX (runA E C B 43 r85_9 r85_9.toList s) (fun s => gcM E0 [0, 1, 23] (forget s.1 [0, 1, 23], s.2)) := x_reg (ops := r85_9) (by rfl) (by rfl) s
theorem r85_9_l : r85_9.toList = [o85_9_0, o85_9_1, o85_9_2] := nrfl rfl
theorem s85_9_0 : stepA E C B 43 r85_9 o85_9_0 (φ, H) = some (fput φ 4 (.nilsl), H) := nrfl rfl
theorem s85_9_1 : stepA E C B 43 r85_9 o85_9_1 (φ, H) = some (fput φ 5 (.nilsl), H) := nrfl rfl
theorem s85_9_2 : stepA E C B 43 r85_9 o85_9_2 (φ, H) = some (fput φ 6 (.int .i64 5), H) := nrfl rfl
noncomputable def c85_31 : Code := kR c85_29
theorem x85_31 : execA E C (fg 85) B 43 E0 N c85_31 s = some (.ret, s) := x_ret (by rfl) s
theorem x85_29 : execA E C (fg 85) B 43 E0 N c85_29 s = seqX (execA E C (fg 85) B 43 E0 N c85_30 s) (execA E C (fg 85) B 43 E0 N c85_31) := x_seq (by rfl) s
noncomputable def c85_32 : Code := kE c85_28
noncomputable def c85_33 : Code := kL c85_32
noncomputable def r85_10 : Array Oper := kO c85_33
noncomputable def o85_10_0 : Oper := opN r85_10 0
noncomputable def o85_10_1 : Oper := opN r85_10 1
noncomputable def o85_10_2 : Oper := opN r85_10 2
noncomputable def o85_10_3 : Oper := opN r85_10 3
noncomputable def o85_10_4 : Oper := opN r85_10 4
noncomputable def o85_10_5 : Oper := opN r85_10 5
noncomputable def o85_10_6 : Oper := opN r85_10 6
noncomputable def o85_10_7 : Oper := opN r85_10 7
noncomputable def o85_10_8 : Oper := opN r85_10 8
noncomputable def o85_10_9 : Oper := opN r85_10 9
noncomputable def o85_10_10 : Oper := opN r85_10 10
noncomputable def o85_10_11 : Oper := opN r85_10 11
theorem x85_33 : execA E C (fg 85) B 43 E0 N c85_33 s = regX (drawA E C B 43 r85_10 s) (fun s => gcM E0 [0, 1, 23, 30, 31, 32, 33, 34, 35, 36, 37, 38, 39, 40] (forget s.1 [0, 1, 23, 30, 31, 32, 33, 34, 35, 36, 37, 38, 39, 40], s.2)) := x_draw (ops := r85_10) (by rfl) (by rfl) s
theorem r85_10_l : r85_10.toList = [o85_10_0, o85_10_1, o85_10_2, o85_10_3, o85_10_4, o85_10_5, o85_10_6, o85_10_7, o85_10_8, o85_10_9, o85_10_10, o85_10_11] := nrfl rfl
theorem r85_10_st : statOk r85_10 = true := by kernel_rfl
theorem r85_10_dr : drawA E C B 43 r85_10 s = if neat 43 s = true then drX r85_10 (runT E C B 43 r85_10 r85_10.toList 0 s) else none := draw_eq r85_10_st s
theorem r85_10_an (l : List (Nat × Tr)) : dynOk r85_10 l = (!writing l || dynPairs [[], [], [1], [0, 1, 2], [0, 1, 2, 3], [], [], [6], [5, 6, 7], [5, 6, 7, 8], [0, 1, 2, 3, 4, 5, 6, 7, 8, 9], [0, 1, 2, 3, 4, 5, 6, 7, 8, 9, 10]] (touching l)) := dynOk_eq (by kernel_rfl) l
theorem s85_10_0 : stepT E C B 43 r85_10 o85_10_0 (φ, H) = some ((fput φ 30 (fget φ 4), H), ⟨false, [], []⟩) := stT_go rfl (goT_mv rfl rfl)
theorem s85_10_1 : stepT E C B 43 r85_10 o85_10_1 (φ, H) = some ((fput φ 31 (fget φ 0), H), ⟨false, [], []⟩) := stT_go rfl (goT_mv rfl rfl)
theorem s85_10_2 : stepT E C B 43 r85_10 o85_10_2 (φ, H) = stpT (some 32) φ H (aBuiltin E.T (B + 32) .len #[22] [(fget φ 31)]) := stT_go rfl (goT_R rfl rfl)
theorem s85_10_3 : stepT E C B 43 r85_10 o85_10_3 (φ, H) = stpT (some 33) φ H (just (aIndexAddr E.T 22 (fget φ 30) (fget φ 32))) := stT_go rfl (goT_R rfl rfl)
theorem s85_10_4 : stepT E C B 43 r85_10 o85_10_4 (φ, H) = stpT (some 34) φ H (just (aLoad E.T 3 (fget φ 33))) := stT_go rfl (goT_R rfl rfl)
theorem s85_10_5 : stepT E C B 43 r85_10 o85_10_5 (φ, H) = some ((fput φ 35 (fget φ 5), H), ⟨false, [], []⟩) := stT_go rfl (goT_mv rfl rfl)
theorem s85_10_6 : stepT E C B 43 r85_10 o85_10_6 (φ, H) = some ((fput φ 36 (fget φ 1), H), ⟨false, [], []⟩) := stT_go rfl (goT_mv rfl rfl)
theorem s85_10_7 : stepT E C B 43 r85_10 o85_10_7 (φ, H) = stpT (some 37) φ H (aBuiltin E.T (B + 37) .len #[22] [(fget φ 36)]) := stT_go rfl (goT_R rfl rfl)
theorem s85_10_8 : stepT E C B 43 r85_10 o85_10_8 (φ, H) = stpT (some 38) φ H (just (aIndexAddr E.T 22 (fget φ 35) (fget φ 37))) := stT_go rfl (goT_R rfl rfl)
theorem s85_10_9 : stepT E C B 43 r85_10 o85_10_9 (φ, H) = stpT (some 39) φ H (just (aLoad E.T 3 (fget φ 38))) := stT_go rfl (goT_R rfl rfl)
theorem s85_10_10 : stepT E C B 43 r85_10 o85_10_10 (φ, H) = stpT (some 40) φ H (just (aBin E.T .neq 3 (fget φ 34) (fget φ 39))) := stT_go rfl (goT_R rfl rfl)
theorem s85_10_11 : stepT E C B 43 r85_10 o85_10_11 (φ, H) = some ((fput φ 29 (fget φ 40), H), ⟨false, [], []⟩) := stT_go rfl (goT_mv rfl rfl)
noncomputable def c85_34 : Code := kR c85_32
noncomputable def c85_35 : Code := kT c85_34
noncomputable def c85_36 : Code := kL c85_35
noncomputable def r85_11 : Array Oper := kO c85_36
noncomputable def o85_11_0 : Oper := opN r85_11 0
noncomputable def o85_11_1 : Oper := opN r85_11 1
noncomputable def o85_11_2 : Oper := opN r85_11 2
theorem x85_36 : execA E C (fg 85) B 43 E0 N c85_36 s = regX (runA E C B 43 r85_11 r85_11.toList s) (fun s => gcM E0 [29] (forget s.1 [29], s.2)) := x_reg (ops := r85_11) (by rfl) (by rfl) s
theorem r85_11_l : r85_11.toList = [o85_11_0, o85_11_1, o85_11_2] := nrfl rfl
theorem s85_11_0 : stepA E C B 43 r85_11 o85_11_0 (φ, H) = some (fput φ 4 (.nilsl), H) := nrfl rfl
theorem s85_11_1 : stepA E C B 43 r85_11 o85_11_1 (φ, H) = some (fput φ 5 (.nilsl), H) := nrfl rfl
theorem s85_11_2 : stepA E C B 43 r85_11 o85_11_2 (φ, H) = some (fput φ 6 (.int .i64 17), H) := nrfl rfl
noncomputable def c85_37 : Code := kR c85_35
theorem x85_37 : execA E C (fg 85) B 43 E0 N c85_37 s = some (.ret, s) := x_ret (by rfl) s
theorem x85_35 : execA E C (fg 85) B 43 E0 N c85_35 s = seqX (execA E C (fg 85) B 43 E0 N c85_36 s) (execA E C (fg 85) B 43 E0 N c85_37) := x_seq (by rfl) s
noncomputable def c85_38 : Code := kE c85_34
theorem x85_38 : execA E C (fg 85) B 43 E0 N c85_38 s = some (.normal, s) := x_skip (by rfl) s
theorem x85_34 : execA E C (fg 85) B 43 E0 N c85_34 (φ, H) = condX (fget φ 29) (execA E C (fg 85) B 43 E0 N c85_35 (φ, H)) (execA E C (fg 85) B 43 E0 N c85_38 (φ, H)) := x_cond (by rfl) _
theorem x85_32 : execA E C (fg 85) B 43 E0 N c85_32 s = seqX (execA E C (fg 85) B 43 E0 N c85_33 s) (execA E C (fg 85) B 43 E0 N c85_34) := x_seq (by rfl) s
theorem x85_28 : execA E C (fg 85) B 43 E0 N c85_28 (φ, H) = condX (fget φ 23) (execA E C (fg 85) B 43 E0 N c85_29 (φ, H)) (execA E C (fg 85) B 43 E0 N c85_32 (φ, H)) := x_cond (by rfl) _
theorem x85_26 : execA E C (fg 85) B 43 E0 N c85_26 s = seqX (execA E C (fg 85) B 43 E0 N c85_27 s) (execA E C (fg 85) B 43 E0 N c85_28) := x_seq (by rfl) s
theorem x85_25 : execA E C (fg 85) B 43 E0 N c85_25 s = blockX 0 (fun s => (forget s.1 [29], s.2)) (execA E C (fg 85) B 43 E0 N c85_26 s) := x_block (by rfl) (by rfl) s
noncomputable def c85_39 : Code := kR c85_24
noncomputable def c85_40 : Code := kL c85_39
noncomputable def r85_12 : Array Oper := kO c85_40
noncomputable def o85_12_0 : Oper := opN r85_12 0
noncomputable def o85_12_1 : Oper := opN r85_12 1
noncomputable def o85_12_2 : Oper := opN r85_12 2
noncomputable def o85_12_3 : Oper := opN r85_12 3
noncomputable def o85_12_4 : Oper := opN r85_12 4
theorem x85_40 : execA E C (fg 85) B 43 E0 N c85_40 s = regX (runA E C B 43 r85_12 r85_12.toList s) (fun s => gcM E0 [41, 42] (forget s.1 [41, 42], s.2)) := x_reg (ops := r85_12) (by rfl) (by rfl) s
theorem r85_12_l : r85_12.toList = [o85_12_0, o85_12_1, o85_12_2, o85_12_3, o85_12_4] := nrfl rfl
theorem s85_12_0 : stepA E C B 43 r85_12 o85_12_0 (φ, H) = some (fput φ 41 (fget φ 4), H) := nrfl rfl
theorem s85_12_1 : stepA E C B 43 r85_12 o85_12_1 (φ, H) = some (fput φ 42 (fget φ 5), H) := nrfl rfl
theorem s85_12_2 : stepA E C B 43 r85_12 o85_12_2 (φ, H) = some (fput φ 4 (fget φ 41), H) := nrfl rfl
theorem s85_12_3 : stepA E C B 43 r85_12 o85_12_3 (φ, H) = some (fput φ 5 (fget φ 42), H) := nrfl rfl
theorem s85_12_4 : stepA E C B 43 r85_12 o85_12_4 (φ, H) = some (fput φ 6 (.int .i64 0), H) := nrfl rfl
noncomputable def c85_41 : Code := kR c85_39
theorem x85_41 : execA E C (fg 85) B 43 E0 N c85_41 s = some (.ret, s) := x_ret (by rfl) s
theorem x85_39 : execA E C (fg 85) B 43 E0 N c85_39 s = seqX (execA E C (fg 85) B 43 E0 N c85_40 s) (execA E C (fg 85) B 43 E0 N c85_41) := x_seq (by rfl) s
theorem x85_24 : execA E C (fg 85) B 43 E0 N c85_24 s = seqX (execA E C (fg 85) B 43 E0 N c85_25 s) (execA E C (fg 85) B 43 E0 N c85_39) := x_seq (by rfl) s
theorem x85_22 : execA E C (fg 85) B 43 E0 N c85_22 s = seqX (execA E C (fg 85) B 43 E0 N c85_23 s) (execA E C (fg 85) B 43 E0 N c85_24) := x_seq (by rfl) s
theorem x85_12 : execA E C (fg 85) B 43 E0 N c85_12 s = seqX (execA E C (fg 85) B 43 E0 N c85_13 s) (execA E C (fg 85) B 43 E0 N c85_22) := x_seq (by rfl) s
theorem x85_2 : execA E C (fg 85) B 43 E0 N c85_2 s = seqX (execA E C (fg 85) B 43 E0 N c85_3 s) (execA E C (fg 85) B 43 E0 N c85_12) := x_seq (by rfl) s
theorem x85_0 : execA E C (fg 85) B 43 E0 N c85_0 s = seqX (execA E C (fg 85) B 43 E0 N c85_1 s) (execA E C (fg 85) B 43 E0 N c85_2) := x_seq (by rfl) s
theorem fi_85 : fInfo E 85 = some ⟨43, #[.tmp 4, .tmp 5, .tmp 6], c85_0⟩ := nrfl rfl
theorem b_85 (args : List AV) : bodyA E C fg N 85 args H B = bodyX E [.tmp 4, .tmp 5, .tmp 6] (execA E C (fg 85) B 43 H N c85_0 (frame0 args 0 [], H)) := bodyA_eq fi_85 args H
abbrev F_85 := And.intro (And.intro (And.intro (And.intro (And.intro (And.intro @x85_1 (And.intro @r85_0_l @s85_0_0)) (And.intro (And.intro @s85_0_1 @s85_0_2) (And.intro @x85_4 @r85_1_l))) (And.intro (And.intro @s85_1_0 (And.intro @s85_1_1 @s85_1_2)) (And.intro (And.intro @x85_6 @r85_2_l) (And.intro @s85_2_0 @s85_2_1)))) (And.intro (And.intro (And.intro @x85_9 (And.intro @r85_3_l @s85_3_0)) (And.intro (And.intro @s85_3_1 @s85_3_2) (And.intro @s85_3_3 @x85_10))) (And.intro (And.intro @x85_8 (And.intro @x85_11 @x85_7)) (And.intro (And.intro @x85_5 @x85_3) (And.intro @x85_14 @r85_4_l))))) (And.intro (And.intro (And.intro (And.intro @s85_4_0 (And.intro @s85_4_1 @s85_4_2)) (And.intro (And.intro @x85_16 @r85_5_l) (And.intro @s85_5_0 @s85_5_1))) (And.intro (And.intro @x85_19 (And.intro @r85_6_l @s85_6_0)) (And.intro (And.intro @s85_6_1 @s85_6_2) (And.intro @s85_6_3 @x85_20)))) (And.intro (And.intro (And.intro @x85_18 (And.intro @x85_21 @x85_17)) (And.intro (And.intro @x85_15 @x85_13) (And.intro @x85_23 @r85_7_l))) (And.intro (And.intro (And.intro @s85_7_0 @s85_7_1) (And.intro @s85_7_2 @s85_7_3)) (And.intro (And.intro @s85_7_4 @s85_7_5) (And.intro @x85_27 @r85_8_l)))))) (And.intro (And.intro (And.intro (And.intro (And.intro @s85_8_0 (And.intro @s85_8_1 @s85_8_2)) (And.intro (And.intro @s85_8_3 @s85_8_4) (And.intro @s85_8_5 @x85_30))) (And.intro (And.intro @r85_9_l (And.intro @s85_9_0 @s85_9_1)) (And.intro (And.intro @s85_9_2 @x85_31) (And.intro @x85_29 @x85_33)))) (And.intro (And.intro (And.intro @r85_10_l (And.intro @r85_10_dr @r85_10_an)) (And.intro (And.intro @s85_10_0 @s85_10_1) (And.intro @s85_10_2 @s85_10_3))) (And.intro (And.intro @s85_10_4 (And.intro @s85_10_5 @s85_10_6)) (And.intro (And.intro @s85_10_7 @s85_10_8) (And.intro @s85_10_9 @s85_10_10))))) (And.intro (And.intro (And.intro (And.intro @s85_10_11 (And.intro @x85_36 @r85_11_l)) (And.intro (And.intro @s85_11_0 @s85_11_1) (And.intro @s85_11_2 @x85_37))) (And.intro (And.intro @x85_35 (And.intro @x85_38 @x85_34)) (And.intro (And.intro @x85_32 @x85_28) (And.intro @x85_26 @x85_25)))) (And.intro (And.intro (And.intro @x85_40 (And.intro @r85_12_l @s85_12_0)) (And.intro (And.intro @s85_12_1 @s85_12_2) (And.intro @s85_12_3 @s85_12_4))) (And.intro (And.intro (And.intro @x85_41 @x85_39) (And.intro @x85_24 @x85_22)) (And.intro (And.intro @x85_12 @x85_2) (And.intro @x85_0 @b_85))))))
noncomputable def c86_0 : Code := kBody Proofs.Try.f86
noncomputable def c86_1 : Code := kL c86_0
noncomputable def r86_0 : Array Oper := kO c86_1
noncomputable def o86_0_0 : Oper := opN r86_0 0
theorem x86_1 : execA E C (fg 86) B 22 E0 N c86_1 s = regX (runA E C B 22 r86_0 r86_0.toList s) (fun s => gcM E0 [4] (forget s.1 [4], s.2)) := x_reg (ops := r86_0) (by rfl) (by rfl) s
theorem r86_0_l : r86_0.toList = [o86_0_0] := nrfl rfl
theorem s86_0_0 : stepA E C B 22 r86_0 o86_0_0 (φ, H) = some (fput φ 4 (.int .i64 0), H) := nrfl rfl
noncomputable def c86_2 : Code := kR c86_0
noncomputable def c86_3 : Code := kL c86_2
noncomputable def c86_4 : Code := kL c86_3
noncomputable def r86_1 : Array Oper := kO c86_4
noncomputable def o86_1_0 : Oper := opN r86_1 0
noncomputable def o86_1_1 : Oper := opN r86_1 1
noncomputable def o86_1_2 : Oper := opN r86_1 2
theorem x86_4 : execA E C (fg 86) B 22 E0 N c86_4 s = regX (runA E C B 22 r86_1 r86_1.toList s) (fun s => gcM E0 [6] (forget s.1 [6], s.2)) := x_reg (ops := r86_1) (by rfl) (by rfl) s
theorem r86_1_l : r86_1.toList = [o86_1_0, o86_1_1, o86_1_2] := nrfl rfl
theorem s86_1_0 : stepA E C B 22 r86_1 o86_1_0 (φ, H) = some (fput φ 6 (fget φ 0), H) := nrfl rfl
theorem s86_1_1 : stepA E C B 22 r86_1 o86_1_1 (φ, H) = stp (some 7) φ H (aBuiltin E.T (B + 7) .len #[22] [(fget φ 6)]) := nrfl rfl
theorem s86_1_2 : stepA E C B 22 r86_1 o86_1_2 (φ, H) = some (fput φ 8 (.int .i64 0), H) := nrfl rfl
noncomputable def c86_5 : Code := kR c86_3
noncomputable def c86_6 : Code := kB c86_5
noncomputable def c86_7 : Code := kB c86_6
noncomputable def c86_8 : Code := kL c86_7
noncomputable def r86_2 : Array Oper := kO c86_8
noncomputable def o86_2_0 : Oper := opN r86_2 0
theorem x86_8 : execA E C (fg 86) B 22 E0 N c86_8 s = regX (runA E C B 22 r86_2 r86_2.toList s) (fun s => gcM E0 [] (forget s.1 [], s.2)) := x_reg (ops := r86_2) (by rfl) (by rfl) s
theorem r86_2_l : r86_2.toList = [o86_2_0] := nrfl rfl
theorem s86_2_0 : stepA E C B 22 r86_2 o86_2_0 (φ, H) = stp (some 9) φ H (just (aBin E.T .lss 3 (fget φ 8) (fget φ 7))) := nrfl rfl
noncomputable def c86_9 : Code := kR c86_7
noncomputable def c86_10 : Code := kL c86_9
noncomputable def c86_11 : Code := kT c86_10
theorem x86_11 : execA E C (fg 86) B 22 E0 N c86_11 s = some (.normal, s) := x_skip (by rfl) s
noncomputable def c86_12 : Code := kE c86_10
theorem x86_12 : execA E C (fg 86) B 22 E0 N c86_12 s = some (.exit 0, s) := x_exit (by rfl) s
theorem x86_10 : execA E C (fg 86) B 22 E0 N c86_10 (φ, H) = condX (fget φ 9) (execA E C (fg 86) B 22 E0 N c86_11 (φ, H)) (execA E C (fg 86) B 22 E0 N c86_12 (φ, H)) := x_cond (by rfl) _
noncomputable def c86_13 : Code := kR c86_9
noncomputable def c86_14 : Code := kL c86_13
noncomputable def c86_15 : Code := kB c86_14
noncomputable def c86_16 : Code := kL c86_15
noncomputable def r86_3 : Array Oper := kO c86_16
noncomputable def o86_3_0 : Oper := opN r86_3 0
noncomputable def o86_3_1 : Oper := opN r86_3 1
theorem x86_16 : execA E C (fg 86) B 22 E0 N c86_16 s = regX (runA E C B 22 r86_3 r86_3.toList s) (fun s => gcM E0 [9, 10] (forget s.1 [9, 10], s.2)) := x_reg (ops := r86_3) (by rfl) (by rfl) s
theorem r86_3_l : r86_3.toList = [o86_3_0, o86_3_1] := nrfl rfl
theorem s86_3_0 : stepA E C B 22 r86_3 o86_3_0 (φ, H) = some (fput φ 10 (fget φ 8), H) := nrfl rfl
theorem s86_3_1 : stepA E C B 22 r86_3 o86_3_1 (φ, H) = some (fput φ 5 (fget φ 10), H) := nrfl rfl
noncomputable def c86_17 : Code := kR c86_15
noncomputable def c86_18 : Code := kL c86_17
noncomputable def r86_4 : Array Oper := kO c86_18
noncomputable def o86_4_0 : Oper := opN r86_4 0
noncomputable def o86_4_1 : Oper := opN r86_4 1
noncomputable def o86_4_2 : Oper := opN r86_4 2
noncomputable def o86_4_3 : Oper := opN r86_4 3
noncomputable def o86_4_4 : Oper := opN r86_4 4
noncomputable def o86_4_5 : Oper := opN r86_4 5
noncomputable def o86_4_6 : Oper := opN r86_4 6
noncomputable def o86_4_7 : Oper := opN r86_4 7
noncomputable def o86_4_8 : Oper := opN r86_4 8
theorem x86_18 : execA E C (fg 86) B 22 E0 N c86_18 s = regX (drawA E C B 22 r86_4 s) (fun s => gcM E0 [11, 12, 13, 14, 15, 16, 17, 18] (forget s.1 [11, 12, 13, 14, 15, 16, 17, 18], s.2)) := x_draw (ops := r86_4) (by rfl) (by rfl) s
theorem r86_4_l : r86_4.toList = [o86_4_0, o86_4_1, o86_4_2, o86_4_3, o86_4_4, o86_4_5, o86_4_6, o86_4_7, o86_4_8] := nrfl rfl
theorem r86_4_st : statOk r86_4 = true := by kernel_rfl
theorem r86_4_dr : drawA E C B 22 r86_4 s = if neat 22 s = true then drX r86_4 (runT E C B 22 r86_4 r86_4.toList 0 s) else none := draw_eq r86_4_st s
theorem r86_4_an (l : List (Nat × Tr)) : dynOk r86_4 l = (!writing l || dynPairs [[], [], [0, 1], [0, 1, 2], [], [], [4, 5], [4, 5, 6], [0, 1, 2, 3, 4, 5, 6, 7]] (touching l)) := dynOk_eq (by kernel_rfl) l
theorem s86_4_0 : stepT E C B 22 r86_4 o86_4_0 (φ, H) = some ((fput φ 11 (fget φ 0), H), ⟨false, [], []⟩) := stT_go rfl (goT_mv rfl rfl)
theorem s86_4_1 : stepT E C B 22 r86_4 o86_4_1 (φ, H) = some ((fput φ 12 (fget φ 5), H), ⟨false, [], []⟩) := stT_go rfl (goT_mv rfl rfl)
theorem s86_4_2 : stepT E C B 22 r86_4 o86_4_2 (φ, H) = stpT (some 13) φ H (just (aIndexAddr E.T 22 (fget φ 11) (fget φ 12))) := stT_go rfl (goT_R rfl rfl)
theorem s86_4_3 : stepT E C B 22 r86_4 o86_4_3 (φ, H) = stpT (some 14) φ H (just (aLoad E.T 3 (fget φ 13))) := stT_go rfl (goT_R rfl rfl)
theorem s86_4_4 : stepT E C B 22 r86_4 o86_4_4 (φ, H) = some ((fput φ 15 (fget φ 1), H), ⟨false, [], []⟩) := stT_go rfl (goT_mv rfl rfl)
theorem s86_4_5 : stepT E C B 22 r86_4 o86_4_5 (φ, H) = some ((fput φ 16 (fget φ 5), H), ⟨false, [], []⟩) := stT_go rfl (goT_mv rfl rfl)
theorem s86_4_6 : stepT E C B 22 r86_4 o86_4_6 (φ, H) = stpT (some 17) φ H (just (aIndexAddr E.T 22 (fget φ 15) (fget φ 16))) := stT_go rfl (goT_R rfl rfl)
theorem s86_4_7 : stepT E C B 22 r86_4 o86_4_7 (φ, H) = stpT (some 18) φ H (just (aLoad E.T 3 (fget φ 17))) := stT_go rfl (goT_R rfl rfl)
theorem s86_4_8 : stepT E C B 22 r86_4 o86_4_8 (φ, H) = stpT (some 19) φ H (just (aBin E.T .lss 3 (fget φ 14) (fget φ 18))) := stT_go rfl (goT_R rfl rfl)
noncomputable def c86_19 : Code := kR c86_17
noncomputable def c86_20 : Code := kT c86_19
noncomputable def c86_21 : Code := kL c86_20
noncomputable def r86_5 : Array Oper := kO c86_21
noncomputable def o86_5_0 : Oper := opN r86_5 0
noncomputable def o86_5_1 : Oper := opN r86_5 1
theorem x86_21 : execA E C (fg 86) B 22 E0 N c86_21 s = regX (runA E C B 22 r86_5 r86_5.toList s) (fun s => gcM E0 [0, 1, 5, 7, 8, 19, 20] (forget s.1 [0, 1, 5, 7, 8, 19, 20], s.2)) := x_reg (ops := r86_5) (by rfl) (by rfl) s
theorem r86_5_l : r86_5.toList = [o86_5_0, o86_5_1] := nrfl rfl
theorem s86_5_0 : stepA E C B 22 r86_5 o86_5_0 (φ, H) = some (fput φ 20 (fget φ 5), H) := nrfl rfl
theorem s86_5_1 : stepA E C B 22 r86_5 o86_5_1 (φ, H) = some (fput φ 4 (fget φ 20), H) := nrfl rfl
noncomputable def c86_22 : Code := kR c86_20
theorem x86_22 : execA E C (fg 86) B 22 E0 N c86_22 s = some (.ret, s) := x_ret (by rfl) s
theorem x86_20 : execA E C (fg 86) B 22 E0 N c86_20 s = seqX (execA E C (fg 86) B 22 E0 N c86_21 s) (execA E C (fg 86) B 22 E0 N c86_22) := x_seq (by rfl) s
noncomputable def c86_23 : Code := kE c86_19
theorem x86_23 : execA E C (fg 86) B 22 E0 N c86_23 s = some (.normal, s) := x_skip (by rfl) s
theorem x86_19 : execA E C (fg 86) B 22 E0 N c86_19 (φ, H) = condX (fget φ 19) (execA E C (fg 86) B 22 E0 N c86_20 (φ, H)) (execA E C (fg 86) B 22 E0 N c86_23 (φ, H)) := x_cond (by rfl) _
theorem x86_17 : execA E C (fg 86) B 22 E0 N c86_17 s = seqX (execA E C (fg 86) B 22 E0 N c86_18 s) (execA E C (fg 86) B 22 E0 N c86_19) := x_seq (by rfl) s
theorem x86_15 : execA E C (fg 86) B 22 E0 N c86_15 s = seqX (execA E C (fg 86) B 22 E0 N c86_16 s) (execA E C (fg 86) B 22 E0 N c86_17) := x_seq (by rfl) s
theorem x86_14 : execA E C (fg 86) B 22 E0 N c86_14 s = blockX 1 (fun s => (forget s.1 [5, 19], s.2)) (execA E C (fg 86) B 22 E0 N c86_15 s) := x_block (by rfl) (by rfl) s
noncomputable def c86_24 : Code := kR c86_13
noncomputable def r86_6 : Array Oper := kO c86_24
noncomputable def o86_6_0 : Oper := opN r86_6 0
noncomputable def o86_6_1 : Oper := opN r86_6 1
theorem x86_24 : execA E C (fg 86) B 22 E0 N c86_24 s = regX (runA E C B 22 r86_6 r86_6.toList s) (fun s => gcM E0 [21] (forget s.1 [21], s.2)) := x_reg (ops := r86_6) (by rfl) (by rfl) s
theorem r86_6_l : r86_6.toList = [o86_6_0, o86_6_1] := nrfl rfl
theorem s86_6_0 : stepA E C B 22 r86_6 o86_6_0 (φ, H) = stp (some 21) φ H (just (aBin E.T .add 3 (fget φ 8) (.int .i64 1))) := nrfl rfl
theorem s86_6_1 : stepA E C B 22 r86_6 o86_6_1 (φ, H) = some (fput φ 8 (fget φ 21), H) := nrfl rfl
theorem x86_13 : execA E C (fg 86) B 22 E0 N c86_13 s = seqX (execA E C (fg 86) B 22 E0 N c86_14 s) (execA E C (fg 86) B 22 E0 N c86_24) := x_seq (by rfl) s
theorem x86_9 : execA E C (fg 86) B 22 E0 N c86_9 s = seqX (execA E C (fg 86) B 22 E0 N c86_10 s) (execA E C (fg 86) B 22 E0 N c86_13) := x_seq (by rfl) s
theorem x86_7 : execA E C (fg 86) B 22 E0 N c86_7 s = seqX (execA E C (fg 86) B 22 E0 N c86_8 s) (execA E C (fg 86) B 22 E0 N c86_9) := x_seq (by rfl) s
theorem x86_6 : execA E C (fg 86) B 22 E0 N c86_6 s = iterA (execA E C (fg 86) B 22 E0 N c86_7) (headA E0) N s := x_loop (by rfl) s
theorem x86_5 : execA E C (fg 86) B 22 E0 N c86_5 s = blockX 0 (fun s => (forget s.1 [0, 1, 7, 8, 9], s.2)) (execA E C (fg 86) B 22 E0 N c86_6 s) := x_block (by rfl) (by rfl) s
theorem x86_3 : execA E C (fg 86) B 22 E0 N c86_3 s = seqX (execA E C (fg 86) B 22 E0 N c86_4 s) (execA E C (fg 86) B 22 E0 N c86_5) := x_seq (by rfl) s
noncomputable def c86_25 : Code := kR c86_2
noncomputable def c86_26 : Code := kL c86_25
noncomputable def r86_7 : Array Oper := kO c86_26
noncomputable def o86_7_0 : Oper := opN r86_7 0
theorem x86_26 : execA E C (fg 86) B 22 E0 N c86_26 s = regX (runA E C B 22 r86_7 r86_7.toList s) (fun s => gcM E0 [] (forget s.1 [], s.2)) := x_reg (ops := r86_7) (by rfl) (by rfl) s
theorem r86_7_l : r86_7.toList = [o86_7_0] := nrfl rfl
theorem s86_7_0 : stepA E C B 22 r86_7 o86_7_0 (φ, H) = some (fput φ 4 (.int .i64 (-1)), H) := nrfl rfl
noncomputable def c86_27 : Code := kR c86_25
theorem x86_27 : execA E C (fg 86) B 22 E0 N c86_27 s = some (.ret, s) := x_ret (by rfl) s
theorem x86_25 : execA E C (fg 86) B 22 E0 N c86_25 s = seqX (execA E C (fg 86) B 22 E0 N c86_26 s) (execA E C (fg 86) B 22 E0 N c86_27) := x_seq (by rfl) s
theorem x86_2 : execA E C (fg 86) B 22 E0 N c86_2 s = seqX (execA E C (fg 86) B 22 E0 N c86_3 s) (execA E C (fg 86) B 22 E0 N c86_25) := x_seq (by rfl) s
theorem x86_0 : execA E C (fg 86) B 22 E0 N c86_0 s = seqX (execA E C (fg 86) B 22 E0 N c86_1 s) (execA E C (fg 86) B 22 E0 N c86_2) := x_seq (by rfl) s
theorem fi_86 : fInfo E 86 = some ⟨22, #[.tmp 4], c86_0⟩ := nrfl rfl
theorem b_86 (args : List AV) : bodyA E C fg N 86 args H B = bodyX E [.tmp 4] (execA E C (fg 86) B 22 H N c86_0 (frame0 args 0 [], H)) := bodyA_eq fi_86 args H
abbrev F_86 := And.intro (And.intro (And.intro (And.intro (And.intro @x86_1 (And.intro @r86_0_l @s86_0_0)) (And.intro (And.intro @x86_4 @r86_1_l) (And.intro @s86_1_0 @s86_1_1))) (And.intro (And.intro (And.intro @s86_1_2 @x86_8) (And.intro @r86_2_l @s86_2_0)) (And.intro (And.intro @x86_11 @x86_12) (And.intro @x86_10 @x86_16)))) (And.intro (And.intro (And.intro @r86_3_l (And.intro @s86_3_0 @s86_3_1)) (And.intro (And.intro @x86_18 @r86_4_l) (And.intro @r86_4_dr @r86_4_an))) (And.intro (And.intro (And.intro @s86_4_0 @s86_4_1) (And.intro @s86_4_2 @s86_4_3)) (And.intro (And.intro @s86_4_4 @s86_4_5) (And.intro @s86_4_6 @s86_4_7))))) (And.intro (And.intro (And.intro (And.intro @s86_4_8 (And.intro @x86_21 @r86_5_l)) (And.intro (And.intro @s86_5_0 @s86_5_1) (And.intro @x86_22 @x86_20))) (And.intro (And.intro (And.intro @x86_23 @x86_19) (And.intro @x86_17 @x86_15)) (And.intro (And.intro @x86_14 @x86_24) (And.intro @r86_6_l @s86_6_0)))) (And.intro (And.intro (And.intro @s86_6_1 (And.intro @x86_13 @x86_9)) (And.intro (And.intro @x86_7 @x86_6) (And.intro @x86_5 @x86_3))) (And.intro (And.intro (And.intro @x86_26 @r86_7_l) (And.intro @s86_7_0 @x86_27)) (And.intro (And.intro @x86_25 @x86_2) (And.intro @x86_0 @b_86)))))
noncomputable def c27_0 : Code := kBody Proofs.Try.f27
noncomputable def c27_1 : Code := kL c27_0
noncomputable def r27_0 : Array Oper := kO c27_1
noncomputable def o27_0_0 : Oper := opN r27_0 0
noncomputable def o27_0_1 : Oper := opN r27_0 1
theorem x27_1 : execA E C (fg 27) B 23 E0 N c27_1 s = regX (runA E C B 23 r27_0 r27_0.toList s) (fun s => gcM E0 [4, 5] (forget s.1 [4, 5], s.2)) := x_reg (ops := r27_0) (by rfl) (by rfl) s
theorem r27_0_l : r27_0.toList = [o27_0_0, o27_0_1] := nrfl rfl
theorem s27_0_0 : stepA E C B 23 r27_0 o27_0_0 (φ, H) = some (fput φ 4 (.bool false), H) := nrfl rfl
theorem s27_0_1 : stepA E C B 23 r27_0 o27_0_1 (φ, H) = some (fput φ 5 (.int .i64 0), H) := nrfl rfl
noncomputable def c27_2 : Code := kR c27_0
noncomputable def c27_3 : Code := kL c27_2
noncomputable def r27_1 : Array Oper := kO c27_3
noncomputable def o27_1_0 : Oper := opN r27_1 0
noncomputable def o27_1_1 : Oper := opN r27_1 1
noncomputable def o27_1_2 : Oper := opN r27_1 2
noncomputable def o27_1_3 : Oper := opN r27_1 3
noncomputable def o27_1_4 : Oper := opN r27_1 4
noncomputable def o27_1_5 : Oper := opN r27_1 5
noncomputable def o27_1_6 : Oper := opN r27_1 6
noncomputable def o27_1_7 : Oper := opN r27_1 7
noncomputable def o27_1_8 : Oper := opN r27_1 8
noncomputable def o27_1_9 : Oper := opN r27_1 9
theorem x27_3 : execA E C (fg 27) B 23 E0 N c27_3 s = regX (runA E C B 23 r27_1 r27_1.toList s) (fun s => gcM E0 [0, 1, 9, 10, 11, 12, 13, 14, 15] (forget s.1 [0, 1, 9, 10, 11, 12, 13, 14, 15], s.2)) := x_reg (ops := r27_1) (by rfl) (by rfl) s
theorem r27_1_l : r27_1.toList = [o27_1_0, o27_1_1, o27_1_2, o27_1_3, o27_1_4, o27_1_5, o27_1_6, o27_1_7, o27_1_8, o27_1_9] := nrfl rfl
theorem s27_1_0 : stepA E C B 23 r27_1 o27_1_0 (φ, H) = some (fput φ 10 (fget φ 0), H) := nrfl rfl
theorem s27_1_1 : stepA E C B 23 r27_1 o27_1_1 (φ, H) = some (fput φ 11 (fget φ 1), H) := nrfl rfl
theorem s27_1_2 : stepA E C B 23 r27_1 o27_1_2 (φ, H) = stp (some 12) φ H (aCall C (fun j => B + j * 23 + 12) true 85 [(fget φ 10), (fget φ 11)]) := nrfl rfl
theorem s27_1_3 : stepA E C B 23 r27_1 o27_1_3 (φ, H) = some (fput φ 9 (fget φ 12), H) := nrfl rfl
theorem s27_1_4 : stepA E C B 23 r27_1 o27_1_4 (φ, H) = stp (some 13) φ H (opExtract (fget φ 9) 0) := nrfl rfl
theorem s27_1_5 : stepA E C B 23 r27_1 o27_1_5 (φ, H) = stp (some 14) φ H (opExtract (fget φ 9) 1) := nrfl rfl
theorem s27_1_6 : stepA E C B 23 r27_1 o27_1_6 (φ, H) = stp (some 15) φ H (opExtract (fget φ 9) 2) := nrfl rfl
theorem s27_1_7 : stepA E C B 23 r27_1 o27_1_7 (φ, H) = some (fput φ 6 (fget φ 13), H) := nrfl rfl
theorem s27_1_8 : stepA E C B 23 r27_1 o27_1_8 (φ, H) = some (fput φ 7 (fget φ 14), H) := nrfl rfl
theorem s27_1_9 : stepA E C B 23 r27_1 o27_1_9 (φ, H) = some (fput φ 8 (fget φ 15), H) := nrfl rfl
noncomputable def c27_4 : Code := kR c27_2
noncomputable def c27_5 : Code := kL c27_4
noncomputable def c27_6 : Code := kL c27_5
noncomputable def r27_2 : Array Oper := kO c27_6
noncomputable def o27_2_0 : Oper := opN r27_2 0
noncomputable def o27_2_1 : Oper := opN r27_2 1
theorem x27_6 : execA E C (fg 27) B 23 E0 N c27_6 s = regX (runA E C B 23 r27_2 r27_2.toList s) (fun s => gcM E0 [16] (forget s.1 [16], s.2)) := x_reg (ops := r27_2) (by rfl) (by rfl) s
theorem r27_2_l : r27_2.toList = [o27_2_0, o27_2_1] := nrfl rfl
theorem s27_2_0 : stepA E C B 23 r27_2 o27_2_0 (φ, H) = some (fput φ 16 (fget φ 8), H) := nrfl rfl
theorem s27_2_1 : stepA E C B 23 r27_2 o27_2_1 (φ, H) = stp (some 17) φ H (just (aBin E.T .neq 24 (fget φ 16) (.int .i64 0))) := nrfl rfl
noncomputable def c27_7 : Code := kR c27_5
noncomputable def c27_8 : Code := kT c27_7
noncomputable def c27_9 : Code := kL c27_8
noncomputable def r27_3 : Array Oper := kO c27_9
noncomputable def o27_3_0 : Oper := opN r27_3 0
noncomputable def o27_3_1 : Oper := opN r27_3 1
noncomputable def o27_3_2 : Oper := opN r27_3 2
theorem x27_9 : execA E C (fg 27) B 23 E0 N c27_9 s = regX (runA E C B 23 r27_3 r27_3.toList s) (fun s => gcM E0 [6, 7, 8, 17, 18] (forget s.1 [6, 7, 8, 17, 18], s.2)) := x_reg (ops := r27_3) (by rfl) (by rfl) s
theorem r27_3_l : r27_3.toList = [o27_3_0, o27_3_1, o27_3_2] := nrfl rfl
theorem s27_3_0 : stepA E C B 23 r27_3 o27_3_0 (φ, H) = some (fput φ 18 (fget φ 8), H) := nrfl rfl
theorem s27_3_1 : stepA E C B 23 r27_3 o27_3_1 (φ, H) = some (fput φ 4 (.bool false), H) := nrfl rfl
theorem s27_3_2 : stepA E C B 23 r27_3 o27_3_2 (φ, H) = some (fput φ 5 (fget φ 18), H) := nrfl rfl
noncomputable def c27_10 : Code := kR c27_8
theorem x27_10 : execA E C (fg 27) B 23 E0 N c27_10 s = some (.ret, s) := x_ret (by rfl) s
theorem x27_8 : execA E C (fg 27) B 23 E0 N c27_8 s = seqX (execA E C (fg 27) B 23 E0 N c27_9 s) (execA E C (fg 27) B 23 E0 N c27_10) := x_seq (by rfl) s
noncomputable def c27_11 : Code := kE c27_7
theorem x27_11 : execA E C (fg 27) B 23 E0 N c27_11 s = some (.normal, s) := x_skip (by rfl) s
theorem x27_7 : execA E C (fg 27) B 23 E0 N c27_7 (φ, H) = condX (fget φ 17) (execA E C (fg 27) B 23 E0 N c27_8 (φ, H)) (execA E C (fg 27) B 23 E0 N c27_11 (φ, H)) := x_cond (by rfl) _
theorem x27_5 : execA E C (fg 27) B 23 E0 N c27_5 s = seqX (execA E C (fg 27) B 23 E0 N c27_6 s) (execA E C (fg 27) B 23 E0 N c27_7) := x_seq (by rfl) s
noncomputable def c27_12 : Code := kR c27_4
noncomputable def c27_13 : Code := kL c27_12
noncomputable def r27_4 : Array Oper := kO c27_13
noncomputable def o27_4_0 : Oper := opN r27_4 0
noncomputable def o27_4_1 : Oper := opN r27_4 1
noncomputable def o27_4_2 : Oper := opN r27_4 2
noncomputable def o27_4_3 : Oper := opN r27_4 3
noncomputable def o27_4_4 : Oper := opN r27_4 4
noncomputable def o27_4_5 : Oper := opN r27_4 5
theorem x27_13 : execA E C (fg 27) B 23 E0 N c27_13 s = regX (runA E C B 23 r27_4 r27_4.toList s) (fun s => gcM E0 [6, 7, 8, 17, 19, 20, 21, 22] (forget s.1 [6, 7, 8, 17, 19, 20, 21, 22], s.2)) := x_reg (ops := r27_4) (by rfl) (by rfl) s
theorem r27_4_l : r27_4.toList = [o27_4_0, o27_4_1, o27_4_2, o27_4_3, o27_4_4, o27_4_5] := nrfl rfl
theorem s27_4_0 : stepA E C B 23 r27_4 o27_4_0 (φ, H) = some (fput φ 19 (fget φ 6), H) := nrfl rfl
theorem s27_4_1 : stepA E C B 23 r27_4 o27_4_1 (φ, H) = some (fput φ 20 (fget φ 7), H) := nrfl rfl
theorem s27_4_2 : stepA E C B 23 r27_4 o27_4_2 (φ, H) = stp (some 21) φ H (aCall C (fun j => B + j * 23 + 21) true 86 [(fget φ 19), (fget φ 20)]) := nrfl rfl
theorem s27_4_3 : stepA E C B 23 r27_4 o27_4_3 (φ, H) = stp (some 22) φ H (just (aBin E.T .lss 3 (fget φ 21) (.int .i64 0))) := nrfl rfl
theorem s27_4_4 : stepA E C B 23 r27_4 o27_4_4 (φ, H) = some (fput φ 4 (fget φ 22), H) := nrfl rfl
theorem s27_4_5 : stepA E C B 23 r27_4 o27_4_5 (φ, H) = some (fput φ 5 (.int .i64 0), H) := nrfl rfl
noncomputable def c27_14 : Code := kR c27_12
theorem x27_14 : execA E C (fg 27) B 23 E0 N c27_14 s = some (.ret, s) := x_ret (by rfl) s
theorem x27_12 : execA E C (fg 27) B 23 E0 N c27_12 s = seqX (execA E C (fg 27) B 23 E0 N c27_13 s) (execA E C (fg 27) B 23 E0 N c27_14) := x_seq (by rfl) s
theorem x27_4 : execA E C (fg 27) B 23 E0 N c27_4 s = seqX (execA E C (fg 27) B 23 E0 N c27_5 s) (execA E C (fg 27) B 23 E0 N c27_12) := x_seq (by rfl) s
theorem x27_2 : execA E C (fg 27) B 23 E0 N c27_2 s = seqX (execA E C (fg 27) B 23 E0 N c27_3 s) (execA E C (fg 27) B 23 E0 N c27_4) := x_seq (by rfl) s
theorem x27_0 : execA E C (fg 27) B 23 E0 N c27_0 s = seqX (execA E C (fg 27) B 23 E0 N c27_1 s) (execA E C (fg 27) B 23 E0 N c27_2) := x_seq (by rfl) s
theorem fi_27 : fInfo E 27 = some ⟨23, #[.tmp 4, .tmp 5], c27_0⟩ := nrfl rfl
theorem b_27 (args : List AV) : bodyA E C fg N 27 args H B = bodyX E [.tmp 4, .tmp 5] (execA E C (fg 27) B 23 H N c27_0 (frame0 args 0 [], H)) := bodyA_eq fi_27 args H
abbrev F_27 := And.intro (And.intro (And.intro (And.intro (And.intro @x27_1 @r27_0_l) (And.intro @s27_0_0 (And.intro @s27_0_1 @x27_3))) (And.intro (And.intro @r27_1_l (And.intro @s27_1_0 @s27_1_1)) (And.intro @s27_1_2 (And.intro @s27_1_3 @s27_1_4)))) (And.intro (And.intro (And.intro @s27_1_5 @s27_1_6) (And.intro @s27_1_7 (And.intro @s27_1_8 @s27_1_9))) (And.intro (And.intro @x27_6 (And.intro @r27_2_l @s27_2_0)) (And.intro @s27_2_1 (And.intro @x27_9 @r27_3_l))))) (And.intro (And.intro (And.intro (And.intro @s27_3_0 @s27_3_1) (And.intro @s27_3_2 (And.intro @x27_10 @x27_8))) (And.intro (And.intro @x27_11 (And.intro @x27_7 @x27_5)) (And.intro @x27_13 (And.intro @r27_4_l @s27_4_0)))) (And.intro (And.intro (And.intro @s27_4_1 @s27_4_2) (And.intro @s27_4_3 (And.intro @s27_4_4 @s27_4_5))) (And.intro (And.intro @x27_14 (And.intro @x27_12 @x27_4)) (And.intro @x27_2 (And.intro @x27_0 @b_27)))))
end Go.AM.Ytfmnoohhhokicaa
end

section
namespace Go.AM.Rub
set_option maxRecDepth 100000
/-- The sum of the first numbers of a row. -/
def ps (f : Nat → Int) : Nat → Int
  | 0 => 0
  | k + 1 => ps f k + f k
theorem ps_congr {f g : Nat → Int} : ∀ n, (∀ i, i < n → f i = g i) → ps f n = ps g n
  | 0, _ => rfl
  | n + 1, h => by simp only [ps]; rw [ps_congr n fun i hi => h i (by omega), h n (by omega)]
def DescF (a : Nat → Int) (n : Nat) : Prop := ∀ i, i + 1 < n → a (i + 1) ≤ a i
structure Maj (a b : Nat → Int) (n : Nat) : Prop where
  eq : ps a n = ps b n
  le : ∀ k, k ≤ n → ps b k ≤ ps a k
theorem Maj.refl (a : Nat → Int) (n : Nat) : Maj a a n := ⟨rfl, fun _ _ => Int.le_refl _⟩
theorem Maj.trans {a b c : Nat → Int} {n : Nat} (h1 : Maj a b n) (h2 : Maj b c n) : Maj a c n :=
  ⟨h1.eq.trans h2.eq, fun k hk => Int.le_trans (h2.le k hk) (h1.le k hk)⟩
end Go.AM.Rub
end

section
namespace Go.AM.Rub
set_option maxRecDepth 100000
/-- A row whose numbers are at most m. -/
def IsRow : Int → List Int → Prop
  | _, [] => True
  | m, x :: l => 0 ≤ x ∧ x ≤ m ∧ IsRow x l
def totL : List Int → Int
  | [] => 0
  | x :: l => x + totL l
def dnN : Nat → List Int
  | 0 => [0]
  | n + 1 => ((n + 1 : Nat) : Int) :: dnN n
/-- The numbers from one down to 0. -/
def dn (k : Int) : List Int := if k < 0 then [] else dnN k.toNat
theorem mem_dnN : ∀ (n : Nat) (x : Int), x ∈ dnN n ↔ 0 ≤ x ∧ x ≤ n
  | 0, x => by simp [dnN]; omega
  | n + 1, x => by
    simp only [dnN, List.mem_cons, mem_dnN n x]
    omega
theorem mem_dn (k x : Int) : x ∈ dn k ↔ 0 ≤ x ∧ x ≤ k := by
  unfold dn
  split
  · simp; omega
  · rw [mem_dnN]; omega
theorem dnN_length : ∀ n, (dnN n).length = n + 1
  | 0 => rfl
  | n + 1 => by simp [dnN, dnN_length n]
/-- All rows of so many numbers, none above m, of a sum, in descending order. -/
def rowsL : Nat → Int → Int → List (List Int)
  | 0, s, _ => if s = 0 then [[]] else []
  | n + 1, s, m => (dn (min m s)).flatMap fun t => (rowsL n (s - t) t).map (t :: ·)
theorem totL_nonneg : ∀ {m : Int} {l : List Int}, IsRow m l → 0 ≤ totL l
  | _, [], _ => by simp [totL]
  | m, x :: l, ⟨h1, h2, h3⟩ => by have := totL_nonneg h3; simp only [totL]; omega
theorem mem_rowsL : ∀ (n : Nat) (s m : Int) (l : List Int), l ∈ rowsL n s m ↔ l.length = n ∧ totL l = s ∧ IsRow m l
  | 0, s, m, l => by
    simp only [rowsL]
    constructor
    · intro h
      split at h
      · rename_i hs
        have h : l = [] := by simpa using h
        subst h; exact ⟨rfl, by simp [totL, hs], trivial⟩
      · simp at h
    · rintro ⟨h1, h2, h3⟩
      obtain rfl := List.length_eq_zero_iff.1 h1
      simp only [totL] at h2
      rw [if_pos h2.symm]; simp
  | n + 1, s, m, l => by
    simp only [rowsL, List.mem_flatMap, List.mem_map, mem_dn]
    constructor
    · rintro ⟨t, ⟨t0, t1⟩, r, hr, rfl⟩
      obtain ⟨h1, h2, h3⟩ := (mem_rowsL n (s - t) t r).1 hr
      exact ⟨by simp [h1], by simp only [totL]; omega, t0, by omega, h3⟩
    · rintro ⟨h1, h2, h3⟩
      match l, h1, h2, h3 with
      | x :: r, h1, h2, ⟨a, b, c⟩ =>
        have := totL_nonneg c
        simp only [totL] at h2
        exact ⟨x, ⟨a, by omega⟩, r, (mem_rowsL n (s - x) x r).2 ⟨by simpa using h1, by omega, c⟩, rfl⟩
theorem flat_len {β : Type} {f : Int → List β} {M : Nat} : ∀ {ts : List Int}, (∀ t ∈ ts, (f t).length ≤ M) → (ts.flatMap f).length ≤ ts.length * M
  | [], _ => by simp
  | t :: ts, h => by
    have := flat_len (f := f) (M := M) (ts := ts) fun u hu => h u (by simp [hu])
    have := h t (by simp)
    simp only [List.flatMap_cons, List.length_append, List.length_cons, Nat.add_mul, Nat.one_mul]
    omega
theorem rowsL_len : ∀ (n : Nat) (s m : Int), m ≤ 8 → (rowsL n s m).length ≤ 9 ^ n
  | 0, s, m, _ => by simp only [rowsL]; split <;> simp
  | n + 1, s, m, hm => by
    simp only [rowsL]
    refine Nat.le_trans (flat_len (M := 9 ^ n) fun t ht => ?_) ?_
    · rw [List.length_map]
      have := (mem_dn _ _).1 ht
      exact rowsL_len n (s - t) t (by omega)
    · rw [Nat.pow_succ, Nat.mul_comm (9 ^ n)]
      refine Nat.mul_le_mul_right _ ?_
      unfold dn
      split
      · simp
      · rw [dnN_length]; omega
def rowF (l : List Int) (i : Nat) : Int := l.getD i 0
theorem ps_cons (x : Int) (l : List Int) : ∀ k, ps (rowF (x :: l)) (k + 1) = x + ps (rowF l) k
  | 0 => by simp [ps, rowF]
  | k + 1 => by rw [ps, ps_cons x l k, ps]; simp [rowF]; omega
theorem ps_tot : ∀ l : List Int, ps (rowF l) l.length = totL l
  | [] => rfl
  | x :: l => by rw [List.length_cons, ps_cons, ps_tot l]; rfl
theorem row_desc : ∀ {m : Int} {l : List Int}, IsRow m l → DescF (rowF l) l.length
  | _, [], _ => fun i hi => by simp at hi
  | m, x :: l, ⟨h1, h2, h3⟩ => fun i hi => by
    cases i with
    | zero =>
      cases l with
      | nil => simp at hi
      | cons y l => simp only [rowF]; simp; exact h3.2.1
    | succ i =>
      have := row_desc h3 i (by simpa using hi)
      simpa [rowF] using this
end Go.AM.Rub
end

section
namespace Go.AM.Rub
set_option maxRecDepth 100000
theorem isRow_of : ∀ {m : Int} {l : List Int}, (∀ i, i < l.length → 0 ≤ rowF l i) → (0 < l.length → rowF l 0 ≤ m) → DescF (rowF l) l.length → IsRow m l
  | _, [], _, _, _ => trivial
  | m, x :: l, h1, h2, h3 => by
    refine ⟨h1 0 (by simp), h2 (by simp), isRow_of (fun i hi => ?_) (fun hl => ?_) (fun i hi => ?_)⟩
    · have := h1 (i + 1) (by simpa using hi); simpa [rowF] using this
    · have := h3 0 (by simpa using hl); simpa [rowF] using this
    · have := h3 (i + 1) (by simpa using hi); simpa [rowF] using this
theorem isRow_at : ∀ {m : Int} {l : List Int}, IsRow m l → ∀ i, i < l.length → 0 ≤ rowF l i ∧ rowF l i ≤ m
  | _, [], _, i, hi => by simp at hi
  | m, x :: l, ⟨h1, h2, h3⟩, i, hi => by
    cases i with
    | zero => simp only [rowF]; simp; exact ⟨h1, h2⟩
    | succ i =>
      have := isRow_at h3 i (by simpa using hi)
      have e : rowF (x :: l) (i + 1) = rowF l i := by simp [rowF]
      rw [e]; omega
theorem row_ext {a b : List Int} (hl : a.length = b.length) (h : ∀ i, i < a.length → rowF a i = rowF b i) : a = b := by
  apply List.ext_getElem hl
  intro i h1 h2
  have := h i h1
  simpa [rowF, h1, h2] using this
/-- A row of n stones. -/
structure Rw (n : Nat) (l : List Int) : Prop where
  len : l.length = n
  row : IsRow 8 l
/-- Does a row majorize another one? -/
def MajL (a b : List Int) : Prop := Maj (rowF a) (rowF b) a.length
theorem majL_trans {a b c : List Int} (hl : a.length = b.length) (h1 : MajL a b) (h2 : MajL b c) : MajL a c := by
  unfold MajL at *
  rw [← hl] at h2
  exact h1.trans h2
end Go.AM.Rub
end

section
namespace Go.AM.Rub
set_option maxRecDepth 100000
def swpI (l : List Int) (j : Nat) : List Int := (l.set (j + 1) (l.getD j 0)).set j (l.getD (j + 1) 0)
/-- A number is moved down to its place. -/
def insI (l : List Int) : Nat → List Int
  | 0 => l
  | j + 1 => if l.getD (j + 1) 0 > l.getD j 0 then insI (swpI l j) j else l
def srtN (l : List Int) : Nat → List Int
  | 0 => l
  | i + 1 => insI (srtN l i) (i + 1)
def srtI (l : List Int) : List Int := srtN l (l.length - 1)
theorem swpI_length (l : List Int) (j : Nat) : (swpI l j).length = l.length := by simp [swpI]
theorem insI_length : ∀ (j : Nat) (l : List Int), (insI l j).length = l.length
  | 0, l => rfl
  | j + 1, l => by
    rw [insI]
    split
    · rw [insI_length j, swpI_length]
    · rfl
theorem srtN_length (l : List Int) : ∀ i, (srtN l i).length = l.length
  | 0 => rfl
  | i + 1 => by rw [srtN, insI_length, srtN_length l i]
theorem swpI_cons (x : Int) (l : List Int) (j : Nat) : swpI (x :: l) (j + 1) = x :: swpI l j := by simp [swpI]
theorem swpI_app : ∀ (p : List Int) (a b : Int) (r : List Int), swpI (p ++ a :: b :: r) p.length = p ++ b :: a :: r
  | [], a, b, r => by simp [swpI]
  | x :: p, a, b, r => by rw [List.cons_append, List.length_cons, swpI_cons, swpI_app p a b r, List.cons_append]
theorem getD_appI (p : List Int) (a : Int) (r : List Int) : (p ++ a :: r).getD p.length 0 = a := by simp
theorem insI_parts : ∀ (n : Nat) (p : List Int) (x : Int) (r : List Int), p.length = n →
    ∃ a b, p = a ++ b ∧ insI (p ++ x :: r) p.length = a ++ x :: b ++ r ∧ (∀ t ∈ b, x > t) ∧ (∀ t q, a = q ++ [t] → ¬ x > t)
  | 0, p, x, r, hp => by
    obtain rfl := List.length_eq_zero_iff.1 hp
    exact ⟨[], [], rfl, by simp [insI], by simp, by simp⟩
  | n + 1, p, x, r, hp => by
    obtain ⟨q, y, rfl⟩ : ∃ q y, p = q ++ [y] := by
      rcases List.eq_nil_or_concat p with h | ⟨q, y, h⟩
      · rw [h] at hp; simp at hp
      · exact ⟨q, y, by simpa using h⟩
    have hq : q.length = n := by simpa using hp
    have e0 : (q ++ [y] ++ x :: r) = q ++ y :: x :: r := by simp
    have gx : (q ++ [y] ++ x :: r).getD (q.length + 1) 0 = x := by
      have := getD_appI (q ++ [y]) x r
      rwa [show (q ++ [y]).length = q.length + 1 by simp] at this
    have gy : (q ++ [y] ++ x :: r).getD q.length 0 = y := by rw [e0]; exact getD_appI q y _
    rw [show (q ++ [y]).length = q.length + 1 by simp, insI, gx, gy]
    by_cases h : x > y
    · obtain ⟨a, b, e1, e2, e3, e4⟩ := insI_parts n q x (y :: r) hq
      refine ⟨a, b ++ [y], by rw [e1]; simp, ?_, ?_, e4⟩
      · rw [if_pos h, e0, swpI_app, e2]; simp
      · intro t ht
        rcases List.mem_append.1 ht with ht | ht
        · exact e3 t ht
        · obtain rfl : t = y := by simpa using ht
          exact h
    · refine ⟨q ++ [y], [], by simp, by rw [if_neg h]; simp, by simp, ?_⟩
      intro t q' e
      have := List.append_inj_right' e rfl
      obtain rfl : y = t := by simpa using this
      exact h
def DescP (l : List Int) : Prop := l.Pairwise (fun t s => s ≤ t)
theorem ins_descI {a b : List Int} {x : Int} (h : DescP (a ++ b)) (h1 : ∀ t ∈ b, x > t) (h2 : ∀ t q, a = q ++ [t] → ¬ x > t) : DescP (a ++ x :: b) := by
  obtain ⟨ha, hb, hab⟩ := List.pairwise_append.1 h
  have hax : ∀ t ∈ a, x ≤ t := by
    rcases List.eq_nil_or_concat a with e | ⟨q, y, e⟩
    · subst e; simp
    · have e : a = q ++ [y] := by simpa using e
      have hy := h2 y q e
      intro t ht
      rw [e] at ht ha
      obtain ⟨_, _, hqy⟩ := List.pairwise_append.1 ha
      rcases List.mem_append.1 ht with ht | ht
      · have := hqy t ht y (by simp); omega
      · obtain rfl : t = y := by simpa using ht
        omega
  refine List.pairwise_append.2 ⟨ha, List.pairwise_cons.2 ⟨fun t ht => ?_, hb⟩, fun t ht s hs => ?_⟩
  · have := h1 t ht; omega
  · rcases List.mem_cons.1 hs with rfl | hs
    · exact hax t ht
    · exact hab t ht s hs
theorem srtN_parts (l : List Int) : ∀ i, i < l.length → ∃ p, p.length = i + 1 ∧ srtN l i = p ++ l.drop (i + 1) ∧ p.Perm (l.take (i + 1)) ∧ DescP p
  | 0, h => by
    match l, h with
    | a :: l, _ => exact ⟨[a], rfl, by simp [srtN], by simp, List.pairwise_singleton ..⟩
  | i + 1, h => by
    obtain ⟨p, e1, e2, e3, e4⟩ := srtN_parts l i (by omega)
    have hd : l.drop (i + 1) = l[i + 1] :: l.drop (i + 1 + 1) := List.drop_eq_getElem_cons h
    obtain ⟨a, b, f1, f2, f3, f4⟩ := insI_parts p.length p l[i + 1] (l.drop (i + 1 + 1)) rfl
    refine ⟨a ++ l[i + 1] :: b, ?_, ?_, ?_, ?_⟩
    · have := congrArg List.length f1
      simp at this ⊢; omega
    · rw [e1] at f2
      rw [srtN, e2, hd, f2]
    · have ht : l.take (i + 1 + 1) = l.take (i + 1) ++ [l[i + 1]] := by rw [List.take_succ_eq_append_getElem h]
      rw [ht]
      refine List.perm_middle.trans ?_
      refine (List.Perm.cons _ (f1 ▸ e3 : (a ++ b).Perm (l.take (i + 1)))).trans ?_
      exact (List.perm_append_singleton _ _).symm
    · rw [f1] at e4
      exact ins_descI e4 f3 f4
theorem srtI_spec {l : List Int} (h : 0 < l.length) : (srtI l).Perm l ∧ DescP (srtI l) := by
  obtain ⟨p, e1, e2, e3, e4⟩ := srtN_parts l (l.length - 1) (by omega)
  have hd : l.drop (l.length - 1 + 1) = [] := List.drop_eq_nil_of_le (by omega)
  have ht : l.take (l.length - 1 + 1) = l := List.take_of_length_le (by omega)
  rw [hd, List.append_nil] at e2
  rw [ht] at e3
  unfold srtI
  rw [e2]
  exact ⟨e3, e4⟩
theorem descP_row : ∀ {m : Int} {l : List Int}, (∀ x ∈ l, 0 ≤ x ∧ x ≤ m) → DescP l → IsRow m l
  | _, [], _, _ => trivial
  | m, x :: l, h, hd => by
    obtain ⟨h1, h2⟩ := List.pairwise_cons.1 hd
    exact ⟨(h x (by simp)).1, (h x (by simp)).2, descP_row (fun y hy => ⟨(h y (by simp [hy])).1, h1 y hy⟩) h2⟩
end Go.AM.Rub
end

section
namespace Go.AM.Ytfmnoohhhokicaa
open Go Go.AM Go.AM.Rub
set_option maxRecDepth 100000
/-- The runs of functions, and what their bodies see of them. -/
noncomputable def pF (d : Nat) : Callee := callF E fr fg 1000000 d
noncomputable def kF (d : Nat) : Callee := frC fr (pF d)
theorem pF_s (d : Nat) : pF (d + 1) = bodyA E (kF d) fg 1000000 := nrfl rfl
theorem kF_no {d : Nat} {f : FuncId} (hf : fr f = false) (args : List AV) (H : AHeap) (B : Nat) : kF (d + 1) f args H B = bodyA E (kF d) fg 1000000 f args H B := by
  unfold kF frC
  rw [hf]
  rfl
theorem kF_fr {d : Nat} {f : FuncId} (hf : fr f = true) (args : List AV) (H : AHeap) (B : Nat) : kF d f args H B = focus (pF d) f args H B (mark H 1000 (refsL args) []).reverse := by
  unfold kF frC
  rw [hf]
theorem kF_ex {d : Nat} {f : FuncId} {args : List AV} {v : AV} (hf : fr f = false) (h : rsOf (bodyA E (kF d) fg 1000000 f args [] 0) = some v) : ∃ H', kF (d + 1) f args [] 0 = some (v, H') := by
  rw [kF_no hf]; exact rs_ex h
/-- A loop of n rounds. -/
theorem loopM {E0 : AHeap} {f : St → XR} (st : Nat → St) (n : Nat) (h : ∀ i, i < n → ∃ s', f (st i) = some (.normal, s') ∧ headA E0 s' = st (i + 1)) (h0 : headA E0 (st 0) = st 0) (hn : n < 1000000) {e : Ex} {se : St} (he : f (st n) = some (e, se)) (hne : e ≠ .normal) :
    iterA f (headA E0) 1000000 (st 0) = some (e, se) :=
  iter_all st n 1000000 0 (st 0) h0 hn (fun i _ h2 => h i (by omega)) (by rw [Nat.zero_add]; exact he) hne
/-- .. that begins with blocks that nobody leads to. -/
theorem loopMS {E0 : AHeap} {f : St → XR} {s0 : St} (st : Nat → St) (n : Nat) (h : ∀ i, i < n → ∃ s', f (st i) = some (.normal, s') ∧ headA E0 s' = st (i + 1)) (h0 : headA E0 s0 = st 0) (hn : n < 1000000) {e : Ex} {se : St} (he : f (st n) = some (e, se)) (hne : e ≠ .normal) :
    iterA f (headA E0) 1000000 s0 = some (e, se) :=
  iter_all st n 1000000 0 s0 h0 hn (fun i _ h2 => h i (by omega)) (by rw [Nat.zero_add]; exact he) hne
/-- .. that is left at once. -/
theorem loopM0 {E0 : AHeap} {f : St → XR} {s0 : St} (h0 : headA E0 s0 = s0) {e : Ex} {se : St} (he : f s0 = some (e, se)) (hne : e ≠ .normal) : iterA f (headA E0) 1000000 s0 = some (e, se) :=
  loopM (fun _ => s0) 0 (fun i hi => by omega) h0 (by omega) he hne
/-- A slice of integers as it is handed over. -/
def IV (l : List Int) (a : AV) : Prop := (l = [] ∧ a = .nilsl) ∨ ∃ ex, a = .imm (ics l) l.length ex
theorem iv_snap {l : List Int} {a : AV} (h : IV l a) (n : Nat) : snap (n + 1) a = .pure (a, []) := by
  rcases h with ⟨_, rfl⟩ | ⟨e, rfl⟩ <;> rfl
theorem iv_ne {l : List Int} {a : AV} (h : IV l a) (h0 : 0 < l.length) : ∃ ex, a = .imm (ics l) l.length ex := by
  rcases h with ⟨rfl, _⟩ | h
  · simp at h0
  · exact h
theorem iv_imm (l : List Int) (ex : Bool) : IV l (.imm (ics l) l.length ex) := .inr ⟨ex, rfl⟩
theorem rowF_at {l : List Int} {k : Nat} (h : k < l.length) : l[k]? = some (rowF l k) := by
  simp [rowF, h]
theorem icr_at {l : List Int} {k : Nat} (h : k < l.length) : (ics l)[k]? = some (.int .i64 (rowF l k)) := ics_at (rowF_at h)
theorem rw_b {n : Nat} {l : List Int} (h : Rw n l) {k : Nat} (hk : k < n) : 0 ≤ rowF l k ∧ rowF l k ≤ 8 := isRow_at h.row k (by rw [h.len]; exact hk)
theorem aBack_refcint {C : Callee} {site : Nat → Nat} {seen : List Nat} {f : FuncId} {args : List AV} {id m c sz gl : Nat} {k : IntKind} {z : Int} {cells : List AV} {H' : AHeap} (h : C f args [] 0 = some (.tup [.ref id 0 m c gl sz false, .int k z], H')) (hg : hget H' id = some ⟨.row, cells⟩) (hl : cells.length = gl) :
    aBack site true seen (thaw C f args [] 0) = back1 (site 0) seen (fun j => .tup [.ref j 0 m c gl sz false, .int k z]) ⟨.row, cells⟩ := by
  subst hl
  simp only [thaw, h, frzRet, aBack, sitesB, aBackAt, imp, imps, hg, List.length_nil, List.not_mem_nil, not_false_eq_true, and_true, if_true, List.map_cons, List.map_nil, AM.apart, List.elem_nil, Bool.not_false, Bool.and_true, AV.leads, AV.leads.leadsL, Bool.or_false, back1]
theorem room22 {n : Nat} (h : n ≤ 1000000) : roomOk E.T 3 n = true := by
  simp only [roomOk, T_3, decide_eq_true_eq]; exact ⟨by decide, rfl, by omega⟩
/-- A list of integers that is built. -/
theorem ov_pos {k n : Nat} (h : 0 < n) : oV k 1 n = .ref k 0 n n n 1 false := by
  obtain ⟨m, rfl⟩ : ∃ m, n = m + 1 := ⟨n - 1, by omega⟩
  simp only [oV, Nat.mul_one]
theorem ohi_pos {k : Nat} {l : List Int} (h : 0 < l.length) : oH k (ics l) = [(k, ⟨.row, ics l⟩)] := oH_ne k (by rw [ics_length]; exact h)
theorem ov_zero (k sz : Nat) : oV k sz 0 = .nilsl := rfl
/-- What was there when the call began stays. -/
theorem headA_keep {E0 : AHeap} {φ : AFr} {H : AHeap} (h : ∀ p ∈ H, (hget E0 p.1).isSome = true) : headA E0 (φ, H) = (φ, H) := by
  have key : ∀ (keep : List Nat) (H : AHeap), (∀ p ∈ H, (hget E0 p.1).isSome = true) → keepB E0 keep H = H := by
    intro keep H
    induction H with
    | nil => intro _; rfl
    | cons p t ih =>
      intro h
      obtain ⟨i, b⟩ := p
      simp only [keepB, h _ (List.mem_cons_self ..), Bool.or_true, cond_true, ih fun q hq => h q (List.mem_cons_of_mem _ hq)]
  simp only [headA, key _ H h, gcIf]
  split <;> rfl
/-- A call that gives a list, or an error. -/
def RL (C : Callee) (f : FuncId) (args : List AV) (e : Int) (l : List Int) : Prop :=
  (e ≠ 0 ∧ ∀ (site : Nat → Nat) seen, aBack site true seen (thaw C f args [] 0) = .pure (.tup [.nilsl, .int .i64 e], [])) ∨
  (e = 0 ∧ ∀ (site : Nat → Nat) seen, aBack site true seen (thaw C f args [] 0) = back1 (site 0) seen (fun k => .tup [.ref k 0 l.length l.length l.length 1 false, .int .i64 0]) ⟨.row, ics l⟩)
/-- The first error of some. -/
def fe (e : Nat → Int) : Nat → Nat → Int
  | _, 0 => 0
  | k, m + 1 => if e k = 0 then fe e (k + 1) m else e k
theorem fe_zero {e : Nat → Int} : ∀ (m k : Nat), fe e k m = 0 ↔ ∀ i, k ≤ i → i < k + m → e i = 0
  | 0, k => by simp only [fe, true_iff]; intro i h1 h2; omega
  | m + 1, k => by
    simp only [fe]
    split
    · rename_i h
      rw [fe_zero m (k + 1)]
      exact ⟨fun hh i h1 h2 => if hi : i = k then by rw [hi]; exact h else hh i (by omega) (by omega), fun hh i h1 h2 => hh i (by omega) (by omega)⟩
    · rename_i h
      exact ⟨fun hh => absurd hh h, fun hh => absurd (hh k (Nat.le_refl _) (by omega)) h⟩
/-- A loop that is left at the first error, or at its end. -/
theorem loopE {E0 : AHeap} {f : St → XR} {e : Nat → Int} {R : Int → AHeap → St} {x : Ex} {se : St} (st : Nat → St) (n : Nat) (h0 : headA E0 (st 0) = st 0) (hn : n < 1000000) (hx : x ≠ .normal)
    (hgo : ∀ i, i < n → (∀ j, j < i → e j = 0) → e i = 0 → ∃ s', f (st i) = some (.normal, s') ∧ headA E0 s' = st (i + 1)) (hbad : ∀ i, i < n → (∀ j, j < i → e j = 0) → e i ≠ 0 → ∃ H, f (st i) = some (.ret, R (e i) H)) (hend : (∀ j, j < n → e j = 0) → f (st n) = some (x, se)) :
    (fe e 0 n = 0 ∧ iterA f (headA E0) 1000000 (st 0) = some (x, se)) ∨ (fe e 0 n ≠ 0 ∧ ∃ H, iterA f (headA E0) 1000000 (st 0) = some (.ret, R (fe e 0 n) H)) := by
  have key : ∀ (m k F : Nat) (s0 : St), k + m = n → (∀ j, j < k → e j = 0) → headA E0 s0 = st k → m < F → (fe e k m = 0 ∧ iterA f (headA E0) F s0 = some (x, se)) ∨ (fe e k m ≠ 0 ∧ ∃ H, iterA f (headA E0) F s0 = some (.ret, R (fe e k m) H)) := by
    intro m
    induction m with
    | zero =>
      intro k F s0 hk hz hs hF
      obtain ⟨F, rfl⟩ : ∃ G, F = G + 1 := ⟨F - 1, by omega⟩
      rw [Nat.add_zero] at hk
      subst hk
      refine .inl ⟨rfl, ?_⟩
      rw [iterA_succ, hs, hend hz]
      cases x with
      | normal => exact absurd rfl hx
      | ret => rfl
      | exit i => rfl
    | succ m ih =>
      intro k F s0 hk hz hs hF
      obtain ⟨F, rfl⟩ : ∃ G, F = G + 1 := ⟨F - 1, by omega⟩
      simp only [fe]
      by_cases h : e k = 0
      · obtain ⟨s', h1, h2⟩ := hgo k (by omega) hz h
        rw [if_pos h, iterA_succ, hs, h1, seqX_normal]
        refine ih (k + 1) F s' (by omega) (fun j hj => ?_) h2 (by omega)
        by_cases hjk : j = k
        · rw [hjk]; exact h
        · exact hz j (by omega)
      · rw [if_neg h]
        obtain ⟨H, hH⟩ := hbad k (by omega) hz h
        refine .inr ⟨h, H, ?_⟩
        rw [iterA_succ, hs, hH]
        rfl
  exact key n 0 1000000 (st 0) (by omega) (fun j hj => by omega) h0 (by omega)
end Go.AM.Ytfmnoohhhokicaa
end
