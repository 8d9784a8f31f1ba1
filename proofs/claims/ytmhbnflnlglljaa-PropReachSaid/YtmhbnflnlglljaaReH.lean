/- A part of the proof of propReach_holds: HandU, AmSy, SyA, PropA, PropB, PropC. Own work of this project; texts printed by own programs among it. -/
import Derived.Carry
import Derived.KernelRfl
import Derived.Test.YtmhbnflnlglljaaReG
section
namespace Go.AM
open Go Go.RowKit Go.ChangeShapes
section
variable {H : Type} {enc : TypeId × Value → H} {P : Program} {w : World} {base : Nat} {spare : Nat → Bool} {held : Bool}
theorem trod_below {t : TypeId} {v : Value} {d : DataW H} {ps : List MemPlace} (h : DataW.Trod enc P w base spare held t v d ps) : ∀ x ∈ ps, x.block < w.heap.size := by
  obtain ⟨n, h⟩ := h
  exact DataW.trod_lt n t _ _ h
theorem _root_.Go.RowKit.Below.trod' {t : TypeId} (hl : laidOutB P = true) (hr : P.readableRec t = true) (hrow : t < P.types.size) {W W' : World} {v : Value} {d : DataW H} {ps : List MemPlace} (hb : Below W.heap.size W W')
    (h : DataW.Trod enc P W 0 (fun _ => true) true t v d ps) : DataW.Trod enc P W' 0 (fun b => decide (b < W.heap.size)) true t v d ps :=
  Below.trod hl hr hrow h hb (trod_below h)
theorem cell_u8 {t : TypeId} {v : Value} {b : Nat} {r : Reach} (ht : P.underlying t = some (.int .u8)) (hv : Cell.okWide P w r b t v) : ∃ z, v = .int .u8 z ∧ 0 ≤ z ∧ z ≤ 255 := by
  simp only [Cell.okWide, ht] at hv
  unfold Cell.ok at hv
  rw [ht] at hv
  cases v <;> simp only at hv <;> try exact hv.elim
  rename_i k z
  obtain ⟨rfl, h1, h2⟩ := hv
  exact ⟨z, rfl, h1, h2⟩
theorem row_u8 {t u : TypeId} {n : Nat} {b : Nat} {r : Reach} (hu : P.underlying u = some (.int .u8)) (hc : P.cellTypes P.depth t = some (List.replicate n u)) (hn : P.cellsOf t = n) (h0 : 0 < n) {cs : Array Value} (hs : cs.size = P.cellsOf t) (hr : Row.okWide P w r b t cs) :
    ∃ zs : List Int, cs.toList = zs.map (Value.int .u8) ∧ zs.length = n ∧ ∀ (i : Nat) (z : Int), zs[i]? = some z → 0 ≤ z ∧ z ≤ 255 := by
  obtain ⟨ts, h1, _, h3⟩ := hr
  rw [hc] at h1
  obtain rfl := Option.some.inj h1
  have key : ∀ i, i < n → ∃ z, cs[i]? = some (.int .u8 z) ∧ 0 ≤ z ∧ z ≤ 255 := by
    intro i hi
    have hv : cs[i]? = some cs[i] := Array.getElem?_eq_getElem (by omega)
    obtain ⟨u', hu', hcell⟩ := h3 i _ hv
    rw [List.length_replicate, Nat.mod_eq_of_lt hi, List.getElem?_replicate, if_pos hi] at hu'
    obtain rfl := Option.some.inj hu'
    obtain ⟨z, hz, hb⟩ := cell_u8 hu hcell
    exact ⟨z, by rw [hv, hz], hb⟩
  refine ⟨(List.range n).map fun i => match (cs[i]? : Option Value) with | some (Value.int _ z) => z | _ => 0, ?_, by simp, ?_⟩
  · apply List.ext_getElem?
    intro i
    by_cases hi : i < n
    · obtain ⟨z, hz, _⟩ := key i hi
      simp [hi, hz]
    · rw [List.getElem?_eq_none (by simp; omega)]
      simp [hi]
  · intro i z hz
    have hi : i < n := by have := (List.getElem?_eq_some_iff.1 hz).1; simpa using this
    obtain ⟨y, hy, hb⟩ := key i hi
    simp [hi, hy] at hz
    omega
theorem vr_u8 {fz : Nat → Prop} {rf : RFt} (zs : List Int) {cs : Array Value} (h : cs.toList = zs.map (Value.int .u8)) : VR fz w (.agg (zs.map (AV.int .u8))) rf (.agg cs) := by
  simp only [VR]
  refine ⟨cs, rfl, ?_⟩
  rw [VRo_iff, h]
  refine ⟨by simp, fun i a v h1 h2 => ?_⟩
  rw [List.getElem?_map] at h1 h2
  cases hz : zs[i]? with
  | none => rw [hz] at h1; simp at h1
  | some z =>
    rw [hz] at h1 h2
    simp only [Option.map_some, Option.some.injEq] at h1 h2
    subst h1; subst h2
    exact ⟨rfl, by simp only [VR]⟩
/-- A struct, or an array, of small integers. -/
theorem hand_struct {t u : TypeId} {n : Nat} {v : Value} {b : Nat} {r : Reach} {fs : Array Field} (ht : P.underlying t = some (.struct fs)) (hu : P.underlying u = some (.int .u8)) (hc : P.cellTypes P.depth t = some (List.replicate n u)) (hn : P.cellsOf t = n) (h0 : 0 < n) (hv : Value.okWide P w r b t v) :
    ∃ (zs : List Int) (cs : Array Value), v = .agg cs ∧ cs.toList = zs.map (Value.int .u8) ∧ zs.length = n ∧ ∀ (i : Nat) (z : Int), zs[i]? = some z → 0 ≤ z ∧ z ≤ 255 := by
  unfold Value.okWide at hv
  rw [ht] at hv
  obtain ⟨cs, h1, h2, h3⟩ := hv
  obtain ⟨zs, a, b, c⟩ := row_u8 hu hc hn h0 h2 h3
  exact ⟨zs, cs, h1, a, b, c⟩
theorem hand_array {t e u : TypeId} {n m : Nat} {v : Value} {b : Nat} {r : Reach} (ht : P.underlying t = some (.array m e)) (hu : P.underlying u = some (.int .u8)) (hc : P.cellTypes P.depth t = some (List.replicate n u)) (hn : P.cellsOf t = n) (h0 : 0 < n) (hv : Value.okWide P w r b t v) :
    ∃ (zs : List Int) (cs : Array Value), v = .agg cs ∧ cs.toList = zs.map (Value.int .u8) ∧ zs.length = n ∧ ∀ (i : Nat) (z : Int), zs[i]? = some z → 0 ≤ z ∧ z ≤ 255 := by
  unfold Value.okWide at hv
  rw [ht] at hv
  obtain ⟨cs, h1, h2, h3⟩ := hv
  obtain ⟨zs, a, b, c⟩ := row_u8 hu hc hn h0 h2 h3
  exact ⟨zs, cs, h1, a, b, c⟩
end
end Go.AM
end

section
namespace Go.AM
/-- So that simp doesn't leave a step to the kernel. -/
theorem nrfl {α : Type} {a b : α} (h : a = b) : a = b := h
def kL : Code → Code
  | .seq a _ => a
  | c => c
def kR : Code → Code
  | .seq _ b => b
  | c => c
def kT : Code → Code
  | .cond _ t _ => t
  | c => c
def kE : Code → Code
  | .cond _ _ e => e
  | c => c
def kB : Code → Code
  | .block _ b => b
  | .loop b => b
  | .scope b => b
  | c => c
def kO : Code → Array Oper
  | .region _ ops _ => ops
  | _ => #[]
def kBody (f : Func) : Code := f.body.getD .skip
def opN (ops : Array Oper) (i : Nat) : Oper := ops.toList.getD i ⟨none, .move (.tmp 0), 0, "", #[], none⟩
abbrev XR := Option (Ex × St)
def seqX (r : XR) (k : St → XR) : XR :=
  match r with
  | some (.normal, s) => k s
  | r => r
def bindR (r : Option St) (k : St → Option St) : Option St :=
  match r with
  | some s => k s
  | none => none
def regX (r : Option St) (k : St → St) : XR :=
  match r with
  | some s => some (.normal, k s)
  | none => none
def condX (v : AV) (t e : XR) : XR :=
  match v with
  | .bool true => t
  | .bool false => e
  | _ => none
def blockX (id : Nat) (k : St → St) (r : XR) : XR :=
  match r with
  | some (.exit i, s) => match Nat.beq i id with
    | true => some (.normal, k s)
    | false => some (.exit i, s)
  | some (.normal, s) => some (.normal, k s)
  | r => r
def fset : AFr → Nat → AV → AFr
  | [], _, _ => []
  | (k, a) :: t, i, b => if k = i then (k, b) :: t else (k, a) :: fset t i b
/-- Behind a guard it is known what the guard told. -/
noncomputable def gd (φ : AFr) (k : Nat) (want : Bool) (no yes : AFr → Option St) : Option St :=
  match fget φ k with
  | .bool b => if b = want then yes (fset φ k (.bool want)) else no (fset φ k (.bool !want))
  | .tup _ => no φ
  | _ => none
noncomputable def putD (d : Option Nat) (φ : AFr) (v : AV) : AFr :=
  match d with
  | some d => fput φ d v
  | none => φ
noncomputable def stp (d : Option Nat) (φ : AFr) (H : AHeap) (r : Rd (AV × Ups)) : Option St :=
  match r.run H with
  | some (v, us) => some (putD d φ v, upds H us)
  | none => none
/-- A call that is handed the heap. -/
noncomputable def mutX (d : Option Nat) (φ : AFr) (r : Option (AV × AHeap)) : Option St :=
  match r with
  | some (v, H) => some (putD d φ v, H)
  | none => none
/-- A call of a function value. -/
noncomputable def callV (E : Env) (C : Callee) (Bn : Nat) (d : Option Nat) (site : Nat → Nat) (φ : AFr) (H : AHeap) (f : AV) (args : List AV) (keep : Bool) : Option St :=
  match mutV E f args with
  | some (g, asx) => mutX d φ (C g asx H Bn)
  | none => stp d φ H (opCallV E C site keep f args)
noncomputable def bodyX (E : Env) (rs : List ResultVar) (r : XR) : Option (AV × AHeap) :=
  match r with
  | some (.normal, s) => match resA E s rs with
    | some v => some (v, s.2)
    | none => none
  | some (.ret, s) => match resA E s rs with
    | some v => some (v, s.2)
    | none => none
  | _ => none
section
variable {E : Env} {C : Callee} {fg : Nat → List Nat} {B n N : Nat} {E0 : AHeap}
theorem x_seq {c a b : Code} (h : c = .seq a b) (s : St) : execA E C fg B n E0 N c s = seqX (execA E C fg B n E0 N a s) (execA E C fg B n E0 N b) := by
  subst h; simp only [execA, seqX]; rfl
theorem x_skip {c : Code} (h : c = .skip) (s : St) : execA E C fg B n E0 N c s = some (.normal, s) := by subst h; simp only [execA]
theorem x_ret {c : Code} (h : c = .ret) (s : St) : execA E C fg B n E0 N c s = some (.ret, s) := by subst h; simp only [execA]
theorem x_exit {c : Code} {id} (h : c = .exit id) (s : St) : execA E C fg B n E0 N c s = some (.exit id, s) := by subst h; simp only [execA]
theorem x_reg {c : Code} {id ops} {l : List Nat} (h : c = .region id ops false) (hl : fg id = l) (s : St) : execA E C fg B n E0 N c s = regX (runA E C B n ops ops.toList s) (fun s => gcM E0 l (forget s.1 l, s.2)) := by
  subst h; subst hl; simp only [execA, regA, regX]
  split <;> rename_i h <;> simp only [h]
theorem x_draw {c : Code} {id ops} {l : List Nat} (h : c = .region id ops true) (hl : fg id = l) (s : St) : execA E C fg B n E0 N c s = regX (drawA E C B n ops s) (fun s => gcM E0 l (forget s.1 l, s.2)) := by
  subst h; subst hl; simp only [execA, regA, regX]
  split <;> rename_i h <;> simp only [h]
theorem x_cond {c : Code} {x t e} (h : c = .cond x t e) (s : St) : execA E C fg B n E0 N c s = condX (evO E s.1 x) (execA E C fg B n E0 N t s) (execA E C fg B n E0 N e s) := by
  subst h; simp only [execA, condX]; rfl
theorem x_block {c : Code} {id b} {l : List Nat} (h : c = .block id b) (hl : fg (id + 1000000) = l) (s : St) : execA E C fg B n E0 N c s = blockX id (fun s => (forget s.1 l, s.2)) (execA E C fg B n E0 N b s) := by
  subst h; subst hl; simp only [execA, blockX]; rfl
theorem x_loop {c : Code} {b} (h : c = .loop b) (s : St) : execA E C fg B n E0 N c s = iterA (execA E C fg B n E0 N b) (headA E0) N s := by
  subst h; simp only [execA]
theorem fset_get : ∀ (φ : AFr) (i : Nat), fset φ i (fget φ i) = φ
  | [], _ => rfl
  | (k, a) :: t, i => by
    simp only [fset, fget_c]
    cases h : Nat.beq k i
    · rw [if_neg (Nat.ne_of_beq_eq_false h)]
      simp only [cond_false]
      rw [fset_get t i]
    · rw [if_pos (Nat.eq_of_beq_eq_true h)]; rfl
theorem s_gd {ops : Array Oper} {o oj : Oper} {j dj : Nat} {want : Bool} {φ : AFr} {H : AHeap} {no yes : AFr → Option St} (hg : o.guard = some (j, want)) (hj : ops[j]? = some oj) (hd : oj.dst = some dj) (hn : ∀ φ, fin n o φ (.tup []) H = no φ) (hy : ∀ φ, goA E C B n o (φ, H) = yes φ) :
    stepA E C B n ops o (φ, H) = gd φ dj want no yes := by
  simp only [stepA, hg, wantA, hj, hd, gd]
  have hs := fset_get φ dj
  cases h : fget φ dj <;> simp only [hn, hy]
  rename_i b
  rw [h] at hs
  cases b <;> cases want <;> simp [hs]
theorem run_nil (ops : Array Oper) (s : St) : runA E C B n ops [] s = some s := rfl
theorem run_cons (ops : Array Oper) (o : Oper) (os : List Oper) (s : St) : runA E C B n ops (o :: os) s = bindR (stepA E C B n ops o s) (runA E C B n ops os) := by
  simp only [runA, bindR]; rfl
theorem bodyA_eq {fgf : FuncId → Nat → List Nat} {f : FuncId} {nt : Nat} {rs : Array ResultVar} {c : Code} (h : fInfo E f = some ⟨nt, rs, c⟩) (args : List AV) (H : AHeap) :
    bodyA E C fgf N f args H B = bodyX E rs.toList (execA E C (fgf f) B nt H N c (frame0 args 0 [], H)) := by
  simp only [bodyA, h, bodyX]; rfl
@[simp] theorem seqX_normal (s : St) (k) : seqX (some (.normal, s)) k = k s := rfl
@[simp] theorem seqX_ret (s : St) (k) : seqX (some (.ret, s)) k = some (.ret, s) := rfl
@[simp] theorem seqX_exit (i) (s : St) (k) : seqX (some (.exit i, s)) k = some (.exit i, s) := rfl
@[simp] theorem seqX_none (k) : seqX none k = none := rfl
@[simp] theorem seqX_ite (p : Prop) [Decidable p] (a b : XR) (k) : seqX (if p then a else b) k = if p then seqX a k else seqX b k := by split <;> rfl
@[simp] theorem bindR_some (s : St) (k) : bindR (some s) k = k s := rfl
@[simp] theorem bindR_none (k) : bindR none k = none := rfl
@[simp] theorem bindR_ite (p : Prop) [Decidable p] (a b) (k) : bindR (if p then a else b) k = if p then bindR a k else bindR b k := by split <;> rfl
@[simp] theorem regX_some (s : St) (k) : regX (some s) k = some (.normal, k s) := rfl
@[simp] theorem regX_none (k) : regX none k = none := rfl
@[simp] theorem regX_ite (p : Prop) [Decidable p] (a b) (k) : regX (if p then a else b) k = if p then regX a k else regX b k := by split <;> rfl
@[simp] theorem condX_bool (b : Bool) (t e : XR) : condX (.bool b) t e = if b = true then t else e := by cases b <;> rfl
@[simp] theorem blockX_exit (id : Nat) (k) (i : Nat) (s : St) : blockX id k (some (.exit i, s)) = if i = id then some (.normal, k s) else some (.exit i, s) := by
  simp only [blockX]
  split <;> rename_i h
  · rw [if_pos (Nat.eq_of_beq_eq_true h)]
  · rw [if_neg (Nat.ne_of_beq_eq_false h)]
@[simp] theorem blockX_normal (id : Nat) (k) (s : St) : blockX id k (some (.normal, s)) = some (.normal, k s) := rfl
@[simp] theorem blockX_ret (id : Nat) (k) (s : St) : blockX id k (some (.ret, s)) = some (.ret, s) := rfl
@[simp] theorem blockX_none (id : Nat) (k) : blockX id k none = none := rfl
@[simp] theorem blockX_ite (id : Nat) (k) (p : Prop) [Decidable p] (a b) : blockX id k (if p then a else b) = if p then blockX id k a else blockX id k b := by split <;> rfl
theorem fset_nil (i : Nat) (b : AV) : fset [] i b = [] := rfl
theorem fset_cons (k : Nat) (a : AV) (t : AFr) (i : Nat) (b : AV) : fset ((k, a) :: t) i b = if k = i then (k, b) :: t else (k, a) :: fset t i b := rfl
@[simp] theorem bodyX_ite (rs) (p : Prop) [Decidable p] (a b) : bodyX E rs (if p then a else b) = if p then bodyX E rs a else bodyX E rs b := by split <;> rfl
theorem bodyX_ret (rs) (s : St) : bodyX E rs (some (.ret, s)) = (resA E s rs).map fun v => (v, s.2) := by
  simp only [bodyX]; cases resA E s rs <;> rfl
theorem bodyX_normal (rs) (s : St) : bodyX E rs (some (.normal, s)) = (resA E s rs).map fun v => (v, s.2) := by
  simp only [bodyX]; cases resA E s rs <;> rfl
theorem putD_some (d : Nat) (φ : AFr) (v : AV) : putD (some d) φ v = fput φ d v := rfl
theorem putD_none (φ : AFr) (v : AV) : putD none φ v = φ := rfl
theorem iterA_succ (f : St → XR) (hd : St → St) (k : Nat) (s : St) : iterA f hd (k + 1) s = seqX (f (hd s)) (iterA f hd k) := by
  simp only [iterA, seqX]; rfl
/-- A loop: 'st k' is the state at its head (what is dropped is dropped) when k rounds are over; round n leaves it. -/
theorem iter_all {f : St → XR} {hd : St → St} (st : Nat → St) : ∀ (n F k : Nat) (s0 : St), hd s0 = st k → n < F →
    (∀ i, k ≤ i → i < k + n → ∃ s', f (st i) = some (.normal, s') ∧ hd s' = st (i + 1)) → ∀ {e : Ex} {se : St}, f (st (k + n)) = some (e, se) → e ≠ .normal → iterA f hd F s0 = some (e, se)
  | 0, F + 1, k, s0, h0, _, _, e, se, he, hn => by
    rw [iterA_succ, h0]
    rw [Nat.add_zero] at he
    rw [he]
    cases e with
    | normal => exact absurd rfl hn
    | ret => rfl
    | exit i => rfl
  | n + 1, F + 1, k, s0, h0, hF, h, e, se, he, hn => by
    obtain ⟨s', h1, h2⟩ := h k (Nat.le_refl _) (by omega)
    rw [iterA_succ, h0, h1, seqX_normal]
    refine iter_all st n F (k + 1) s' h2 (by omega) (fun i h3 h4 => h i (by omega) (by omega)) (e := e) (se := se) ?_ hn
    rw [show k + 1 + n = k + (n + 1) by omega]
    exact he
  | _, 0, _, _, _, hF, _, _, _, _, _ => absurd hF (by omega)
theorem callV_eq {f : AV} {args : List AV} (h : mutV E f args = none) (Bn : Nat) (d : Option Nat) (site) (φ H) (keep) : callV E C Bn d site φ H f args keep = stp d φ H (opCallV E C site keep f args) := by
  simp only [callV, h]
/-- A result that leads nowhere, of a call. -/
theorem aBack_plain {site : Nat → Nat} {seen : List Nat} {f : FuncId} {args : List AV} {r : AV} {H' : AHeap} (h : C f args [] 0 = some (r, H')) (ht : frzRet H' r = some (r, H')) (hi : ∀ site, imp H' site 200 r [] [] = some (r, [], [])) (hl : r.leads = false) :
    aBack site true seen (thaw C f args [] 0) = .pure (r, []) := by
  simp only [thaw, h, ht, aBack, sitesB, freeOff, allFree, aBackAt, hi, List.map_nil, AM.apart, if_true, freeAll, Rd.bind, hl]
theorem aBack_int {site : Nat → Nat} {seen : List Nat} {f : FuncId} {args : List AV} {k : IntKind} {z : Int} (h : ∃ H', C f args [] 0 = some (.int k z, H')) : aBack site true seen (thaw C f args [] 0) = .pure (.int k z, []) := by
  obtain ⟨H', h⟩ := h; exact aBack_plain h rfl (fun _ => rfl) rfl
theorem aBack_bool {site : Nat → Nat} {seen : List Nat} {f : FuncId} {args : List AV} {b : Bool} (h : ∃ H', C f args [] 0 = some (.bool b, H')) : aBack site true seen (thaw C f args [] 0) = .pure (.bool b, []) := by
  obtain ⟨H', h⟩ := h; exact aBack_plain h rfl (fun _ => rfl) rfl
theorem aBack_ints {site : Nat → Nat} {seen : List Nat} {f : FuncId} {args : List AV} {k k' : IntKind} {z z' : Int} (h : ∃ H', C f args [] 0 = some (.tup [.int k z, .int k' z'], H')) : aBack site true seen (thaw C f args [] 0) = .pure (.tup [.int k z, .int k' z'], []) := by
  obtain ⟨H', h⟩ := h; exact aBack_plain h rfl (fun _ => rfl) rfl
theorem aBack_boolint {site : Nat → Nat} {seen : List Nat} {f : FuncId} {args : List AV} {k' : IntKind} {z : Bool} {z' : Int} (h : ∃ H', C f args [] 0 = some (.tup [.bool z, .int k' z'], H')) : aBack site true seen (thaw C f args [] 0) = .pure (.tup [.bool z, .int k' z'], []) := by
  obtain ⟨H', h⟩ := h; exact aBack_plain h rfl (fun _ => rfl) rfl
theorem wrp_id {k : IntKind} {z : Int} (h1 : kLo k ≤ z) (h2 : z ≤ kHi k) : wrp k z = z := by
  simp only [wrp, if_pos (And.intro h1 h2)]
theorem wrp64 {z : Int} (h : -9223372036854775808 ≤ z ∧ z ≤ 9223372036854775807) : wrp .i64 z = z := wrp_id h.1 h.2
theorem wrp_succ {k : Nat} (h : k < 1000000) : wrp .i64 ((k : Int) + 1) = ((k + 1 : Nat) : Int) := by
  rw [wrp64 (by omega)]; rfl
abbrev rsOf (r : Option (AV × AHeap)) : Option AV := r.map (·.1)
theorem rs_ite (p : Prop) [Decidable p] (a b : Option (AV × AHeap)) : rsOf (if p then a else b) = if p then rsOf a else rsOf b := by split <;> rfl
theorem rs_some (v : AV) (H : AHeap) : rsOf (some (v, H)) = some v := rfl
theorem m_int (p : Prop) [Decidable p] (k : IntKind) (a b : Int) : (if p then some (AV.int k a) else some (AV.int k b)) = some (AV.int k (if p then a else b)) := by split <;> rfl
theorem m_bool (p : Prop) [Decidable p] (a b : Bool) : (if p then some (AV.bool a) else some (AV.bool b)) = some (AV.bool (if p then a else b)) := by split <;> rfl
theorem m_ints (p : Prop) [Decidable p] (k l : IntKind) (a b c d : Int) : (if p then some (AV.tup [AV.int k a, AV.int l c]) else some (AV.tup [AV.int k b, AV.int l d])) = some (AV.tup [AV.int k (if p then a else b), AV.int l (if p then c else d)]) := by split <;> rfl
theorem m_boolint (p : Prop) [Decidable p] (l : IntKind) (a b : Bool) (c d : Int) : (if p then some (AV.tup [AV.bool a, AV.int l c]) else some (AV.tup [AV.bool b, AV.int l d])) = some (AV.tup [AV.bool (if p then a else b), AV.int l (if p then c else d)]) := by split <;> rfl
theorem rs_ex {r : Option (AV × AHeap)} {v : AV} (h : rsOf r = some v) : ∃ H', r = some (v, H') := by
  cases r with
  | none => exact absurd h (by simp)
  | some x => obtain ⟨a, H⟩ := x; simp at h; exact ⟨H, by rw [h]⟩
theorem gcM_n (E0 : AHeap) (s : St) : gcM E0 [] s = s := rfl
theorem gcM_c (E0 : AHeap) (a : Nat) (l : List Nat) (s : St) : gcM E0 (a :: l) s = if a = 999999 then headA E0 s else s := by
  by_cases h : a = 999999
  · subst h; rfl
  · rw [if_neg h]; unfold gcM; split
    · rename_i e; exact absurd (List.cons.inj e).1 h
    · rfl
theorem fget_nil (i : Nat) : fget [] i = .any := rfl
theorem fget_cons' (k : Nat) (a : AV) (t : AFr) (i : Nat) : fget ((k, a) :: t) i = if k = i then a else fget t i := by
  simp only [fget_c]
  cases h : Nat.beq k i
  · rw [if_neg (Nat.ne_of_beq_eq_false h)]; rfl
  · rw [if_pos (Nat.eq_of_beq_eq_true h)]; rfl
theorem fput_nil (i : Nat) (b : AV) : fput [] i b = [(i, b)] := rfl
theorem fput_cons' (k : Nat) (c : AV) (t : AFr) (i : Nat) (b : AV) : fput ((k, c) :: t) i b = if k = i then (i, b) :: t else if i ≤ k then (k, c) :: fput t i b else (i, b) :: (k, c) :: t := by
  simp only [fput_c]
  cases h : Nat.beq k i
  · rw [if_neg (Nat.ne_of_beq_eq_false h)]
    simp only [cond_false]
    cases h2 : Nat.ble i k
    · rw [if_neg (by intro h3; rw [Nat.ble_eq_true_of_le h3] at h2; exact absurd h2 (by simp))]; rfl
    · rw [if_pos (Nat.le_of_ble_eq_true h2)]; rfl
  · rw [if_pos (Nat.eq_of_beq_eq_true h)]; rfl
theorem forget_nil (l : List Nat) : forget [] l = [] := rfl
theorem forget_cons' (k : Nat) (a : AV) (t : AFr) (l : List Nat) : forget ((k, a) :: t) l = if l.elem k = true then forget t l else (k, a) :: forget t l := by
  simp only [forget_c]; cases l.elem k <;> rfl
theorem hget_nil' (i : Nat) : hget [] i = none := rfl
theorem hget_cons' (k : Nat) (b : Blk) (t : AHeap) (i : Nat) : hget ((k, b) :: t) i = if k = i then some b else hget t i := by
  simp only [hget_c]
  cases h : Nat.beq k i
  · rw [if_neg (Nat.ne_of_beq_eq_false h)]; rfl
  · rw [if_pos (Nat.eq_of_beq_eq_true h)]; rfl
theorem hset_nil' (i : Nat) (b : Blk) : hset [] i b = [(i, b)] := rfl
theorem hset_cons' (k : Nat) (c : Blk) (t : AHeap) (i : Nat) (b : Blk) : hset ((k, c) :: t) i b = if k = i then (i, b) :: t else if k ≤ i then (k, c) :: hset t i b else (i, b) :: (k, c) :: t := by
  simp only [hset_c]
  cases h : Nat.beq k i
  · rw [if_neg (Nat.ne_of_beq_eq_false h)]
    simp only [cond_false]
    cases h2 : Nat.ble k i
    · rw [if_neg (by intro h3; rw [Nat.ble_eq_true_of_le h3] at h2; exact absurd h2 (by simp))]; rfl
    · rw [if_pos (Nat.le_of_ble_eq_true h2)]; rfl
  · rw [if_pos (Nat.eq_of_beq_eq_true h)]; rfl
theorem liveBlk_eq (i gl : Nat) : Rd.liveBlk i gl = .get i fun
    | some b => if gl = b.cells.length then (match b.st with | .mp => .fail | _ => .pure b) else .fail
    | none => .fail := by
  simp only [Rd.liveBlk]
  congr 1
  funext b
  cases b with
  | none => rfl
  | some b =>
    simp only
    cases h : Nat.beq gl b.cells.length
    · rw [if_neg (Nat.ne_of_beq_eq_false h)]; rfl
    · rw [if_pos (Nat.eq_of_beq_eq_true h)]; rfl
theorem headA_drop (φ : AFr) (H : AHeap) (h : refsF φ = []) : headA [] (φ, H) = (φ, []) := by
  have h1 : ∀ H : AHeap, keepB [] [] H = [] := by
    intro H
    induction H with
    | nil => rfl
    | cons p t ih => obtain ⟨i, b⟩ := p; simp only [keepB, hget_n, List.elem_nil, Option.isSome_none, Bool.or_false, cond_false, ih]
  simp only [headA, h, mark, h1, gcIf, closedB, allHeld, closedH, Bool.and_true]
theorem headA_nil (E0 : AHeap) (φ : AFr) : headA E0 (φ, []) = (φ, []) := by
  simp only [headA, keepB, gcIf]; split <;> rfl
noncomputable def stepT (E : Env) (C : Callee) (B n : Nat) (ops : Array Oper) (o : Oper) (s : St) : Option (St × Tr) := (stepA E C B n ops o s).map fun s' => (s', trA E C B n ops o s)
noncomputable def goT (E : Env) (C : Callee) (B n : Nat) (o : Oper) (s : St) : Option (St × Tr) := (goA E C B n o s).map fun s' => (s', trG E C B n o s)
noncomputable def trS (r : Rd (AV × Ups)) (H : AHeap) : Tr :=
  match r.run H with
  | some (_, us) => ⟨false, r.foot H, us.map (·.1)⟩
  | none => ⟨true, [], []⟩
noncomputable def stpT (d : Option Nat) (φ : AFr) (H : AHeap) (r : Rd (AV × Ups)) : Option (St × Tr) :=
  match r.run H with
  | some (v, us) => some ((putD d φ v, upds H us), ⟨false, r.foot H, us.map (·.1)⟩)
  | none => none
noncomputable def trV (E : Env) (C : Callee) (site : Nat → Nat) (H : AHeap) (f : AV) (args : List AV) (keep : Bool) : Tr :=
  match mutV E f args with
  | some _ => ⟨true, [], []⟩
  | none => trS (opCallV E C site keep f args) H
noncomputable def callVT (E : Env) (C : Callee) (Bn : Nat) (d : Option Nat) (site : Nat → Nat) (φ : AFr) (H : AHeap) (f : AV) (args : List AV) (keep : Bool) : Option (St × Tr) :=
  match mutV E f args with
  | some (g, asx) => (mutX d φ (C g asx H Bn)).map fun s => (s, ⟨true, [], []⟩)
  | none => stpT d φ H (opCallV E C site keep f args)
noncomputable def gdT (φ : AFr) (k : Nat) (want : Bool) (no yes : AFr → Option (St × Tr)) : Option (St × Tr) :=
  match fget φ k with
  | .bool b => if b = want then yes (fset φ k (.bool want)) else no (fset φ k (.bool !want))
  | .tup _ => no φ
  | _ => none
theorem goT_R {o : Oper} {φ : AFr} {H : AHeap} {d} {R : Rd (AV × Ups)} (h : goA E C B n o (φ, H) = stp d φ H R) (ht : trG E C B n o (φ, H) = trS R H) : goT E C B n o (φ, H) = stpT d φ H R := by
  simp only [goT, h, ht, stp, stpT, trS]
  cases R.run H <;> rfl
theorem goT_mv {o : Oper} {φ : AFr} {H : AHeap} {s'} (h : goA E C B n o (φ, H) = some s') (ht : trG E C B n o (φ, H) = ⟨false, [], []⟩) : goT E C B n o (φ, H) = some (s', ⟨false, [], []⟩) := by
  simp only [goT, h, ht, Option.map_some]
theorem goT_V {o : Oper} {φ : AFr} {H : AHeap} {Bn d site f args keep} (h : goA E C B n o (φ, H) = callV E C Bn d site φ H f args keep) (ht : trG E C B n o (φ, H) = trV E C site H f args keep) :
    goT E C B n o (φ, H) = callVT E C Bn d site φ H f args keep := by
  simp only [goT, h, ht, callV, callVT, trV]
  cases mutV E f args with
  | none =>
    simp only [stp, stpT, trS]
    cases (opCallV E C site keep f args).run H <;> rfl
  | some x => rfl
theorem stT_go {ops : Array Oper} {o : Oper} {s : St} {x} (hg : o.guard = none) (h : goT E C B n o s = x) : stepT E C B n ops o s = x := by
  rw [← h]; simp only [stepT, goT, stepA, trA, hg]
theorem stT_gd {ops : Array Oper} {o oj : Oper} {j dj : Nat} {want : Bool} {φ : AFr} {H : AHeap} {no : AFr → Option St} {yes : AFr → Option (St × Tr)} (hg : o.guard = some (j, want)) (hj : ops[j]? = some oj) (hd : oj.dst = some dj) (hn : ∀ φ, fin n o φ (.tup []) H = no φ) (hy : ∀ φ, goT E C B n o (φ, H) = yes φ) :
    stepT E C B n ops o (φ, H) = gdT φ dj want (fun φ => (no φ).map fun s => (s, ⟨false, [], []⟩)) yes := by
  have hs := fset_get φ dj
  simp only [stepT, stepA, trA, hg, wantA, hj, hd, gdT]
  cases h : fget φ dj with
  | bool b =>
    rw [h] at hs
    cases b <;> cases want <;> simp only [hs, beq_self_eq_true, if_true, Bool.not_true, Bool.not_false, hn, ← hy, goT] <;> rfl
  | tup l => simp only [hn]
  | _ => rfl
theorem callVT_eq {f : AV} {args : List AV} (h : mutV E f args = none) (Bn : Nat) (d : Option Nat) (site) (φ H) (keep) : callVT E C Bn d site φ H f args keep = stpT d φ H (opCallV E C site keep f args) := by
  simp only [callVT, h]
noncomputable def rtX (n i : Nat) (r : Option (St × Tr)) (k : St → Option (St × List (Nat × Tr))) : Option (St × List (Nat × Tr)) :=
  match r with
  | some (s', t) => match neat n s' with
    | true => match k s' with
      | some (s2, l) => some (s2, (i, t) :: l)
      | none => none
    | false => none
  | none => none
theorem runT_nil (ops : Array Oper) (i : Nat) (s : St) : runT E C B n ops [] i s = some (s, []) := rfl
theorem runT_cons (ops : Array Oper) (o : Oper) (os : List Oper) (i : Nat) (s : St) : runT E C B n ops (o :: os) i s = rtX n i (stepT E C B n ops o s) (runT E C B n ops os (i + 1)) := by
  simp only [runT, stepT, rtX]
  cases stepA E C B n ops o s with
  | none => rfl
  | some s' =>
    simp only [Option.map_some]
    cases neat n s' <;> rfl
def addT (i : Nat) (t : Tr) (r : Option (St × List (Nat × Tr))) : Option (St × List (Nat × Tr)) :=
  match r with
  | some (s2, l) => some (s2, (i, t) :: l)
  | none => none
theorem rtX_some (i : Nat) (s' : St) (t : Tr) (k) : rtX n i (some (s', t)) k = if neat n s' = true then addT i t (k s') else none := by
  simp only [rtX, addT]; cases neat n s' <;> rfl
theorem rtX_none (i : Nat) (k) : rtX n i none k = none := rfl
theorem rtX_ite (i : Nat) (p : Prop) [Decidable p] (a b) (k) : rtX n i (if p then a else b) k = if p then rtX n i a k else rtX n i b k := by split <;> rfl
theorem addT_some (i : Nat) (t : Tr) (s l) : addT i t (some (s, l)) = some (s, (i, t) :: l) := rfl
theorem addT_none (i : Nat) (t : Tr) : addT i t none = none := rfl
theorem addT_ite (i : Nat) (t : Tr) (p : Prop) [Decidable p] (a b) : addT i t (if p then a else b) = if p then addT i t a else addT i t b := by split <;> rfl
def drX (ops : Array Oper) (r : Option (St × List (Nat × Tr))) : Option St :=
  match r with
  | some (s', l) => if dynOk ops l = true then some s' else none
  | none => none
theorem drX_some (ops : Array Oper) (s' l) : drX ops (some (s', l)) = if dynOk ops l = true then some s' else none := rfl
theorem drX_none (ops : Array Oper) : drX ops none = none := rfl
theorem drX_ite (ops : Array Oper) (p : Prop) [Decidable p] (a b) : drX ops (if p then a else b) = if p then drX ops a else drX ops b := by split <;> rfl
theorem draw_eq {ops : Array Oper} (h : statOk ops = true) (s : St) : drawA E C B n ops s = if neat n s = true then drX ops (runT E C B n ops ops.toList 0 s) else none := by
  simp only [drawA, h, drX]
  cases neat n s with
  | false => rfl
  | true =>
    simp only [if_true]
    cases runT E C B n ops ops.toList 0 s with
    | none => rfl
    | some x =>
      obtain ⟨s', l⟩ := x
      simp only
      cases dynOk ops l <;> rfl
theorem dynOk_eq {ops : Array Oper} {an : List (List Nat)} (h : ancs ops.toList [] = an) (l) : dynOk ops l = (!writing l || dynPairs an (touching l)) := by simp only [dynOk, h]
theorem neat_eq (n : Nat) (φ : AFr) (H : AHeap) : neat n (φ, H) = (descF n φ && ascH 0 H) := rfl
theorem descF_nil' (h : Nat) : descF h [] = true := rfl
theorem descF_cons' (hi k : Nat) (a : AV) (t : AFr) : descF hi ((k, a) :: t) = (decide (k + 1 ≤ hi) && descF k t) := by
  simp only [descF_c]; congr 1
  cases h : Nat.ble (k + 1) hi
  · rw [eq_comm, decide_eq_false_iff_not]; intro h2; rw [Nat.ble_eq_true_of_le h2] at h; exact absurd h (by simp)
  · rw [eq_comm, decide_eq_true_eq]; exact Nat.le_of_ble_eq_true h
theorem ascH_nil' (h : Nat) : ascH h [] = true := rfl
theorem ascH_cons' (lo k : Nat) (a : Blk) (t : AHeap) : ascH lo ((k, a) :: t) = (decide (lo ≤ k) && ascH (k + 1) t) := by
  simp only [ascH_c]; congr 1
  cases h : Nat.ble lo k
  · rw [eq_comm, decide_eq_false_iff_not]; intro h2; rw [Nat.ble_eq_true_of_le h2] at h; exact absurd h (by simp)
  · rw [eq_comm, decide_eq_true_eq]; exact Nat.le_of_ble_eq_true h
end
end Go.AM
end

section
namespace Go.AM.Ytmhbnflnlglljaa
open Go Go.AM
set_option maxRecDepth 100000
variable {C : Callee} {B N : Nat} {E0 : AHeap} (φ : AFr) (H : AHeap) (s : St)
theorem T_3 : E.T 3 = some ⟨.int .i64, 1, 8, (some [.int .i64 0])⟩ := nrfl rfl
theorem T_4 : E.T 4 = some ⟨.bool, 1, 1, (some [.bool false])⟩ := nrfl rfl
theorem T_5 : E.T 5 = some ⟨.int .u8, 1, 1, (some [.int .u8 0])⟩ := nrfl rfl
theorem T_22 : E.T 22 = some ⟨.slice 45, 1, 24, (some [.nilsl])⟩ := nrfl rfl
theorem T_24 : E.T 24 = some ⟨.slice 44, 1, 24, (some [.nilsl])⟩ := nrfl rfl
theorem T_27 : E.T 27 = some ⟨.struct [(0, 3, 1), (1, 3, 1)] true, 2, 16, (some [.int .i64 0, .int .i64 0])⟩ := nrfl rfl
theorem T_28 : E.T 28 = some ⟨.int .i64, 1, 8, (some [.int .i64 0])⟩ := nrfl rfl
theorem T_44 : E.T 44 = some ⟨.struct [(0, 3, 1), (1, 3, 1), (2, 3, 1), (3, 3, 1)] true, 4, 32, (some [.int .i64 0, .int .i64 0, .int .i64 0, .int .i64 0])⟩ := nrfl rfl
theorem T_45 : E.T 45 = some ⟨.struct [(0, 3, 1), (1, 3, 1), (2, 3, 1), (3, 3, 1)] true, 4, 32, (some [.int .i64 0, .int .i64 0, .int .i64 0, .int .i64 0])⟩ := nrfl rfl
theorem T_47 : E.T 47 = some ⟨.slice 3, 1, 24, (some [.nilsl])⟩ := nrfl rfl
theorem T_52 : E.T 52 = some ⟨.slice 27, 1, 24, (some [.nilsl])⟩ := nrfl rfl
theorem T_67 : E.T 67 = some ⟨.arr 4 5 true, 4, 4, (some [.int .u8 0, .int .u8 0, .int .u8 0, .int .u8 0])⟩ := nrfl rfl
theorem T_68 : E.T 68 = some ⟨.arr 5 67 false, 20, 20, (some [.int .u8 0, .int .u8 0, .int .u8 0, .int .u8 0, .int .u8 0, .int .u8 0, .int .u8 0, .int .u8 0, .int .u8 0, .int .u8 0, .int .u8 0, .int .u8 0, .int .u8 0, .int .u8 0, .int .u8 0, .int .u8 0, .int .u8 0, .int .u8 0, .int .u8 0, .int .u8 0])⟩ := nrfl rfl
theorem T_70 : E.T 70 = some ⟨.struct [(0, 5, 1), (1, 68, 20)] false, 21, 21, (some [.int .u8 0, .int .u8 0, .int .u8 0, .int .u8 0, .int .u8 0, .int .u8 0, .int .u8 0, .int .u8 0, .int .u8 0, .int .u8 0, .int .u8 0, .int .u8 0, .int .u8 0, .int .u8 0, .int .u8 0, .int .u8 0, .int .u8 0, .int .u8 0, .int .u8 0, .int .u8 0, .int .u8 0])⟩ := nrfl rfl
theorem T_71 : E.T 71 = some ⟨.arr 5 5 true, 5, 5, (some [.int .u8 0, .int .u8 0, .int .u8 0, .int .u8 0, .int .u8 0])⟩ := nrfl rfl
theorem T_77 : E.T 77 = some ⟨.other, 1, 8, (some [.nilfunc])⟩ := nrfl rfl
theorem T_86 : E.T 86 = some ⟨.arr 2 5 true, 2, 2, (some [.int .u8 0, .int .u8 0])⟩ := nrfl rfl
theorem T_87 : E.T 87 = some ⟨.arr 5 86 false, 10, 10, (some [.int .u8 0, .int .u8 0, .int .u8 0, .int .u8 0, .int .u8 0, .int .u8 0, .int .u8 0, .int .u8 0, .int .u8 0, .int .u8 0])⟩ := nrfl rfl
theorem T_89 : E.T 89 = some ⟨.struct [(0, 5, 1), (1, 5, 1), (2, 87, 10)] false, 12, 12, (some [.int .u8 0, .int .u8 0, .int .u8 0, .int .u8 0, .int .u8 0, .int .u8 0, .int .u8 0, .int .u8 0, .int .u8 0, .int .u8 0, .int .u8 0, .int .u8 0])⟩ := nrfl rfl
theorem T_119 : E.T 119 = some ⟨.slice 3, 1, 24, (some [.nilsl])⟩ := nrfl rfl
theorem T_133 : E.T 133 = some ⟨.slice 67, 1, 24, (some [.nilsl])⟩ := nrfl rfl
theorem T_134 : E.T 134 = some ⟨.slice 86, 1, 24, (some [.nilsl])⟩ := nrfl rfl
theorem T_138 : E.T 138 = some ⟨.other, 1, 8, (some [.nilfunc])⟩ := nrfl rfl
theorem T_146 : E.T 146 = some ⟨.int .u64, 1, 8, (some [.int .u64 0])⟩ := nrfl rfl
theorem T_153 : E.T 153 = some ⟨.int .i64, 1, 8, (some [.int .i64 0])⟩ := nrfl rfl
theorem T_164 : E.T 164 = some ⟨.slice 45, 1, 24, (some [.nilsl])⟩ := nrfl rfl
noncomputable def c99_0 : Code := kBody Proofs.Try.f99
noncomputable def c99_1 : Code := kL c99_0
noncomputable def r99_0 : Array Oper := kO c99_1
noncomputable def o99_0_0 : Oper := opN r99_0 0
noncomputable def o99_0_1 : Oper := opN r99_0 1
theorem x99_1 : execA E C (fg 99) B 42 E0 N c99_1 s = regX (runA E C B 42 r99_0 r99_0.toList s) (fun s => gcM E0 [0, 2] (forget s.1 [0, 2], s.2)) := x_reg (ops := r99_0) (by rfl) (by rfl) s
theorem r99_0_l : r99_0.toList = [o99_0_0, o99_0_1] := nrfl rfl
theorem s99_0_0 : stepA E C B 42 r99_0 o99_0_0 (φ, H) = stp (some 1) φ H (opBox (B + 1) (acells (fget φ 0))) := nrfl rfl
theorem s99_0_1 : stepA E C B 42 r99_0 o99_0_1 (φ, H) = some (fput φ 2 (.int .i64 0), H) := nrfl rfl
noncomputable def c99_2 : Code := kR c99_0
noncomputable def c99_3 : Code := kL c99_2
noncomputable def c99_4 : Code := kB c99_3
noncomputable def c99_5 : Code := kL c99_4
noncomputable def c99_6 : Code := kB c99_5
noncomputable def c99_7 : Code := kL c99_6
noncomputable def c99_8 : Code := kB c99_7
noncomputable def c99_9 : Code := kB c99_8
noncomputable def c99_10 : Code := kB c99_9
noncomputable def c99_11 : Code := kL c99_10
noncomputable def c99_12 : Code := kL c99_11
noncomputable def c99_13 : Code := kL c99_12
noncomputable def r99_1 : Array Oper := kO c99_13
noncomputable def o99_1_0 : Oper := opN r99_1 0
noncomputable def o99_1_1 : Oper := opN r99_1 1
noncomputable def o99_1_2 : Oper := opN r99_1 2
noncomputable def o99_1_3 : Oper := opN r99_1 3
noncomputable def o99_1_4 : Oper := opN r99_1 4
noncomputable def o99_1_5 : Oper := opN r99_1 5
noncomputable def o99_1_6 : Oper := opN r99_1 6
noncomputable def o99_1_7 : Oper := opN r99_1 7
noncomputable def o99_1_8 : Oper := opN r99_1 8
theorem x99_13 : execA E C (fg 99) B 42 E0 N c99_13 s = regX (runA E C B 42 r99_1 r99_1.toList s) (fun s => gcM E0 [4, 5, 6, 7, 8, 9, 10, 11] (forget s.1 [4, 5, 6, 7, 8, 9, 10, 11], s.2)) := x_reg (ops := r99_1) (by rfl) (by rfl) s
theorem r99_1_l : r99_1.toList = [o99_1_0, o99_1_1, o99_1_2, o99_1_3, o99_1_4, o99_1_5, o99_1_6, o99_1_7, o99_1_8] := nrfl rfl
theorem s99_1_0 : stepA E C B 42 r99_1 o99_1_0 (φ, H) = stp (some 4) φ H (just (aFieldAddr E.T 45 (fget φ 1) 0)) := nrfl rfl
theorem s99_1_1 : stepA E C B 42 r99_1 o99_1_1 (φ, H) = stp (some 5) φ H (just (aLoad E.T 3 (fget φ 4))) := nrfl rfl
theorem s99_1_2 : stepA E C B 42 r99_1 o99_1_2 (φ, H) = stp (some 6) φ H (just (aBin E.T .lss 3 (fget φ 5) (.int .i64 1))) := nrfl rfl
theorem s99_1_3 : stepA E C B 42 r99_1 o99_1_3 (φ, H) = some (fput φ 7 (fget φ 6), H) := nrfl rfl
theorem s99_1_4 : stepA E C B 42 r99_1 o99_1_4 (φ, H) = gd φ 7 false (fun φ => some (fput φ 8 (.tup []), H)) (fun φ => stp (some 8) φ H (just (aFieldAddr E.T 45 (fget φ 1) 0))) := s_gd (j := 3) (oj := o99_1_3) rfl rfl rfl (fun _ => rfl) (fun _ => rfl)
theorem s99_1_5 : stepA E C B 42 r99_1 o99_1_5 (φ, H) = gd φ 7 false (fun φ => some (fput φ 9 (.tup []), H)) (fun φ => stp (some 9) φ H (just (aLoad E.T 3 (fget φ 8)))) := s_gd (j := 3) (oj := o99_1_3) rfl rfl rfl (fun _ => rfl) (fun _ => rfl)
theorem s99_1_6 : stepA E C B 42 r99_1 o99_1_6 (φ, H) = gd φ 7 false (fun φ => some (fput φ 10 (.tup []), H)) (fun φ => stp (some 10) φ H (just (aBin E.T .gtr 3 (fget φ 9) (.int .i64 4194304)))) := s_gd (j := 3) (oj := o99_1_3) rfl rfl rfl (fun _ => rfl) (fun _ => rfl)
theorem s99_1_7 : stepA E C B 42 r99_1 o99_1_7 (φ, H) = stp (some 11) φ H (opPick (fget φ 7) (.bool true) (fget φ 10)) := nrfl rfl
theorem s99_1_8 : stepA E C B 42 r99_1 o99_1_8 (φ, H) = some (fput φ 3 (fget φ 11), H) := nrfl rfl
noncomputable def c99_14 : Code := kR c99_12
noncomputable def c99_15 : Code := kT c99_14
theorem x99_15 : execA E C (fg 99) B 42 E0 N c99_15 s = some (.exit 1, s) := x_exit (by rfl) s
noncomputable def c99_16 : Code := kE c99_14
theorem x99_16 : execA E C (fg 99) B 42 E0 N c99_16 s = some (.normal, s) := x_skip (by rfl) s
theorem x99_14 : execA E C (fg 99) B 42 E0 N c99_14 (φ, H) = condX (fget φ 3) (execA E C (fg 99) B 42 E0 N c99_15 (φ, H)) (execA E C (fg 99) B 42 E0 N c99_16 (φ, H)) := x_cond (by rfl) _
theorem x99_12 : execA E C (fg 99) B 42 E0 N c99_12 s = seqX (execA E C (fg 99) B 42 E0 N c99_13 s) (execA E C (fg 99) B 42 E0 N c99_14) := x_seq (by rfl) s
noncomputable def c99_17 : Code := kR c99_11
noncomputable def c99_18 : Code := kL c99_17
noncomputable def c99_19 : Code := kL c99_18
noncomputable def r99_2 : Array Oper := kO c99_19
noncomputable def o99_2_0 : Oper := opN r99_2 0
noncomputable def o99_2_1 : Oper := opN r99_2 1
noncomputable def o99_2_2 : Oper := opN r99_2 2
noncomputable def o99_2_3 : Oper := opN r99_2 3
noncomputable def o99_2_4 : Oper := opN r99_2 4
noncomputable def o99_2_5 : Oper := opN r99_2 5
noncomputable def o99_2_6 : Oper := opN r99_2 6
noncomputable def o99_2_7 : Oper := opN r99_2 7
noncomputable def o99_2_8 : Oper := opN r99_2 8
theorem x99_19 : execA E C (fg 99) B 42 E0 N c99_19 s = regX (runA E C B 42 r99_2 r99_2.toList s) (fun s => gcM E0 [3, 13, 14, 15, 16, 17, 18, 19, 20] (forget s.1 [3, 13, 14, 15, 16, 17, 18, 19, 20], s.2)) := x_reg (ops := r99_2) (by rfl) (by rfl) s
theorem r99_2_l : r99_2.toList = [o99_2_0, o99_2_1, o99_2_2, o99_2_3, o99_2_4, o99_2_5, o99_2_6, o99_2_7, o99_2_8] := nrfl rfl
theorem s99_2_0 : stepA E C B 42 r99_2 o99_2_0 (φ, H) = stp (some 13) φ H (just (aFieldAddr E.T 45 (fget φ 1) 1)) := nrfl rfl
theorem s99_2_1 : stepA E C B 42 r99_2 o99_2_1 (φ, H) = stp (some 14) φ H (just (aLoad E.T 3 (fget φ 13))) := nrfl rfl
theorem s99_2_2 : stepA E C B 42 r99_2 o99_2_2 (φ, H) = stp (some 15) φ H (just (aBin E.T .lss 3 (fget φ 14) (.int .i64 (-33554432)))) := nrfl rfl
theorem s99_2_3 : stepA E C B 42 r99_2 o99_2_3 (φ, H) = some (fput φ 16 (fget φ 15), H) := nrfl rfl
theorem s99_2_4 : stepA E C B 42 r99_2 o99_2_4 (φ, H) = gd φ 16 false (fun φ => some (fput φ 17 (.tup []), H)) (fun φ => stp (some 17) φ H (just (aFieldAddr E.T 45 (fget φ 1) 1))) := s_gd (j := 3) (oj := o99_2_3) rfl rfl rfl (fun _ => rfl) (fun _ => rfl)
theorem s99_2_5 : stepA E C B 42 r99_2 o99_2_5 (φ, H) = gd φ 16 false (fun φ => some (fput φ 18 (.tup []), H)) (fun φ => stp (some 18) φ H (just (aLoad E.T 3 (fget φ 17)))) := s_gd (j := 3) (oj := o99_2_3) rfl rfl rfl (fun _ => rfl) (fun _ => rfl)
theorem s99_2_6 : stepA E C B 42 r99_2 o99_2_6 (φ, H) = gd φ 16 false (fun φ => some (fput φ 19 (.tup []), H)) (fun φ => stp (some 19) φ H (just (aBin E.T .gtr 3 (fget φ 18) (.int .i64 33554432)))) := s_gd (j := 3) (oj := o99_2_3) rfl rfl rfl (fun _ => rfl) (fun _ => rfl)
theorem s99_2_7 : stepA E C B 42 r99_2 o99_2_7 (φ, H) = stp (some 20) φ H (opPick (fget φ 16) (.bool true) (fget φ 19)) := nrfl rfl
theorem s99_2_8 : stepA E C B 42 r99_2 o99_2_8 (φ, H) = some (fput φ 12 (fget φ 20), H) := nrfl rfl
noncomputable def c99_20 : Code := kR c99_18
noncomputable def c99_21 : Code := kT c99_20
theorem x99_21 : execA E C (fg 99) B 42 E0 N c99_21 s = some (.exit 2, s) := x_exit (by rfl) s
noncomputable def c99_22 : Code := kE c99_20
theorem x99_22 : execA E C (fg 99) B 42 E0 N c99_22 s = some (.normal, s) := x_skip (by rfl) s
theorem x99_20 : execA E C (fg 99) B 42 E0 N c99_20 (φ, H) = condX (fget φ 12) (execA E C (fg 99) B 42 E0 N c99_21 (φ, H)) (execA E C (fg 99) B 42 E0 N c99_22 (φ, H)) := x_cond (by rfl) _
theorem x99_18 : execA E C (fg 99) B 42 E0 N c99_18 s = seqX (execA E C (fg 99) B 42 E0 N c99_19 s) (execA E C (fg 99) B 42 E0 N c99_20) := x_seq (by rfl) s
noncomputable def c99_23 : Code := kR c99_17
noncomputable def c99_24 : Code := kL c99_23
noncomputable def c99_25 : Code := kL c99_24
noncomputable def r99_3 : Array Oper := kO c99_25
noncomputable def o99_3_0 : Oper := opN r99_3 0
noncomputable def o99_3_1 : Oper := opN r99_3 1
noncomputable def o99_3_2 : Oper := opN r99_3 2
noncomputable def o99_3_3 : Oper := opN r99_3 3
noncomputable def o99_3_4 : Oper := opN r99_3 4
noncomputable def o99_3_5 : Oper := opN r99_3 5
noncomputable def o99_3_6 : Oper := opN r99_3 6
noncomputable def o99_3_7 : Oper := opN r99_3 7
noncomputable def o99_3_8 : Oper := opN r99_3 8
noncomputable def o99_3_9 : Oper := opN r99_3 9
noncomputable def o99_3_10 : Oper := opN r99_3 10
noncomputable def o99_3_11 : Oper := opN r99_3 11
noncomputable def o99_3_12 : Oper := opN r99_3 12
noncomputable def o99_3_13 : Oper := opN r99_3 13
noncomputable def o99_3_14 : Oper := opN r99_3 14
theorem x99_25 : execA E C (fg 99) B 42 E0 N c99_25 s = regX (runA E C B 42 r99_3 r99_3.toList s) (fun s => gcM E0 [12, 22, 23, 24, 25, 26, 27, 28, 29, 30, 31, 32, 33, 34, 35] (forget s.1 [12, 22, 23, 24, 25, 26, 27, 28, 29, 30, 31, 32, 33, 34, 35], s.2)) := x_reg (ops := r99_3) (by rfl) (by rfl) s
theorem r99_3_l : r99_3.toList = [o99_3_0, o99_3_1, o99_3_2, o99_3_3, o99_3_4, o99_3_5, o99_3_6, o99_3_7, o99_3_8, o99_3_9, o99_3_10, o99_3_11, o99_3_12, o99_3_13, o99_3_14] := nrfl rfl
theorem s99_3_0 : stepA E C B 42 r99_3 o99_3_0 (φ, H) = stp (some 22) φ H (just (aFieldAddr E.T 45 (fget φ 1) 2)) := nrfl rfl
theorem s99_3_1 : stepA E C B 42 r99_3 o99_3_1 (φ, H) = stp (some 23) φ H (just (aLoad E.T 3 (fget φ 22))) := nrfl rfl
theorem s99_3_2 : stepA E C B 42 r99_3 o99_3_2 (φ, H) = stp (some 24) φ H (just (aFieldAddr E.T 45 (fget φ 1) 3)) := nrfl rfl
theorem s99_3_3 : stepA E C B 42 r99_3 o99_3_3 (φ, H) = stp (some 25) φ H (just (aLoad E.T 3 (fget φ 24))) := nrfl rfl
theorem s99_3_4 : stepA E C B 42 r99_3 o99_3_4 (φ, H) = stp (some 26) φ H (aBuiltin E.T (B + 26) .min #[3, 3] [(fget φ 23), (fget φ 25)]) := nrfl rfl
theorem s99_3_5 : stepA E C B 42 r99_3 o99_3_5 (φ, H) = stp (some 27) φ H (just (aBin E.T .lss 3 (fget φ 26) (.int .i64 1))) := nrfl rfl
theorem s99_3_6 : stepA E C B 42 r99_3 o99_3_6 (φ, H) = some (fput φ 28 (fget φ 27), H) := nrfl rfl
theorem s99_3_7 : stepA E C B 42 r99_3 o99_3_7 (φ, H) = gd φ 28 false (fun φ => some (fput φ 29 (.tup []), H)) (fun φ => stp (some 29) φ H (just (aFieldAddr E.T 45 (fget φ 1) 2))) := s_gd (j := 6) (oj := o99_3_6) rfl rfl rfl (fun _ => rfl) (fun _ => rfl)
theorem s99_3_8 : stepA E C B 42 r99_3 o99_3_8 (φ, H) = gd φ 28 false (fun φ => some (fput φ 30 (.tup []), H)) (fun φ => stp (some 30) φ H (just (aLoad E.T 3 (fget φ 29)))) := s_gd (j := 6) (oj := o99_3_6) rfl rfl rfl (fun _ => rfl) (fun _ => rfl)
theorem s99_3_9 : stepA E C B 42 r99_3 o99_3_9 (φ, H) = gd φ 28 false (fun φ => some (fput φ 31 (.tup []), H)) (fun φ => stp (some 31) φ H (just (aFieldAddr E.T 45 (fget φ 1) 3))) := s_gd (j := 6) (oj := o99_3_6) rfl rfl rfl (fun _ => rfl) (fun _ => rfl)
theorem s99_3_10 : stepA E C B 42 r99_3 o99_3_10 (φ, H) = gd φ 28 false (fun φ => some (fput φ 32 (.tup []), H)) (fun φ => stp (some 32) φ H (just (aLoad E.T 3 (fget φ 31)))) := s_gd (j := 6) (oj := o99_3_6) rfl rfl rfl (fun _ => rfl) (fun _ => rfl)
theorem s99_3_11 : stepA E C B 42 r99_3 o99_3_11 (φ, H) = gd φ 28 false (fun φ => some (fput φ 33 (.tup []), H)) (fun φ => stp (some 33) φ H (aBuiltin E.T (B + 33) .max #[3, 3] [(fget φ 30), (fget φ 32)])) := s_gd (j := 6) (oj := o99_3_6) rfl rfl rfl (fun _ => rfl) (fun _ => rfl)
theorem s99_3_12 : stepA E C B 42 r99_3 o99_3_12 (φ, H) = gd φ 28 false (fun φ => some (fput φ 34 (.tup []), H)) (fun φ => stp (some 34) φ H (just (aBin E.T .gtr 3 (fget φ 33) (.int .i64 9)))) := s_gd (j := 6) (oj := o99_3_6) rfl rfl rfl (fun _ => rfl) (fun _ => rfl)
theorem s99_3_13 : stepA E C B 42 r99_3 o99_3_13 (φ, H) = stp (some 35) φ H (opPick (fget φ 28) (.bool true) (fget φ 34)) := nrfl rfl
theorem s99_3_14 : stepA E C B 42 r99_3 o99_3_14 (φ, H) = some (fput φ 21 (fget φ 35), H) := nrfl rfl
noncomputable def c99_26 : Code := kR c99_24
noncomputable def c99_27 : Code := kT c99_26
theorem x99_27 : execA E C (fg 99) B 42 E0 N c99_27 s = some (.exit 3, s) := x_exit (by rfl) s
noncomputable def c99_28 : Code := kE c99_26
theorem x99_28 : execA E C (fg 99) B 42 E0 N c99_28 s = some (.normal, s) := x_skip (by rfl) s
theorem x99_26 : execA E C (fg 99) B 42 E0 N c99_26 (φ, H) = condX (fget φ 21) (execA E C (fg 99) B 42 E0 N c99_27 (φ, H)) (execA E C (fg 99) B 42 E0 N c99_28 (φ, H)) := x_cond (by rfl) _
theorem x99_24 : execA E C (fg 99) B 42 E0 N c99_24 s = seqX (execA E C (fg 99) B 42 E0 N c99_25 s) (execA E C (fg 99) B 42 E0 N c99_26) := x_seq (by rfl) s
noncomputable def c99_29 : Code := kR c99_23
noncomputable def c99_30 : Code := kL c99_29
noncomputable def r99_4 : Array Oper := kO c99_30
noncomputable def o99_4_0 : Oper := opN r99_4 0
noncomputable def o99_4_1 : Oper := opN r99_4 1
noncomputable def o99_4_2 : Oper := opN r99_4 2
noncomputable def o99_4_3 : Oper := opN r99_4 3
noncomputable def o99_4_4 : Oper := opN r99_4 4
noncomputable def o99_4_5 : Oper := opN r99_4 5
theorem x99_30 : execA E C (fg 99) B 42 E0 N c99_30 s = regX (runA E C B 42 r99_4 r99_4.toList s) (fun s => gcM E0 [1, 21, 37, 38, 39, 40, 41] (forget s.1 [1, 21, 37, 38, 39, 40, 41], s.2)) := x_reg (ops := r99_4) (by rfl) (by rfl) s
theorem r99_4_l : r99_4.toList = [o99_4_0, o99_4_1, o99_4_2, o99_4_3, o99_4_4, o99_4_5] := nrfl rfl
theorem s99_4_0 : stepA E C B 42 r99_4 o99_4_0 (φ, H) = stp (some 37) φ H (just (aFieldAddr E.T 45 (fget φ 1) 2)) := nrfl rfl
theorem s99_4_1 : stepA E C B 42 r99_4 o99_4_1 (φ, H) = stp (some 38) φ H (just (aLoad E.T 3 (fget φ 37))) := nrfl rfl
theorem s99_4_2 : stepA E C B 42 r99_4 o99_4_2 (φ, H) = stp (some 39) φ H (just (aFieldAddr E.T 45 (fget φ 1) 3)) := nrfl rfl
theorem s99_4_3 : stepA E C B 42 r99_4 o99_4_3 (φ, H) = stp (some 40) φ H (just (aLoad E.T 3 (fget φ 39))) := nrfl rfl
theorem s99_4_4 : stepA E C B 42 r99_4 o99_4_4 (φ, H) = stp (some 41) φ H (just (aBin E.T .gtr 3 (fget φ 38) (fget φ 40))) := nrfl rfl
theorem s99_4_5 : stepA E C B 42 r99_4 o99_4_5 (φ, H) = some (fput φ 36 (fget φ 41), H) := nrfl rfl
noncomputable def c99_31 : Code := kR c99_29
noncomputable def c99_32 : Code := kT c99_31
theorem x99_32 : execA E C (fg 99) B 42 E0 N c99_32 s = some (.exit 4, s) := x_exit (by rfl) s
noncomputable def c99_33 : Code := kE c99_31
theorem x99_33 : execA E C (fg 99) B 42 E0 N c99_33 s = some (.normal, s) := x_skip (by rfl) s
theorem x99_31 : execA E C (fg 99) B 42 E0 N c99_31 (φ, H) = condX (fget φ 36) (execA E C (fg 99) B 42 E0 N c99_32 (φ, H)) (execA E C (fg 99) B 42 E0 N c99_33 (φ, H)) := x_cond (by rfl) _
theorem x99_29 : execA E C (fg 99) B 42 E0 N c99_29 s = seqX (execA E C (fg 99) B 42 E0 N c99_30 s) (execA E C (fg 99) B 42 E0 N c99_31) := x_seq (by rfl) s
theorem x99_23 : execA E C (fg 99) B 42 E0 N c99_23 s = seqX (execA E C (fg 99) B 42 E0 N c99_24 s) (execA E C (fg 99) B 42 E0 N c99_29) := x_seq (by rfl) s
theorem x99_17 : execA E C (fg 99) B 42 E0 N c99_17 s = seqX (execA E C (fg 99) B 42 E0 N c99_18 s) (execA E C (fg 99) B 42 E0 N c99_23) := x_seq (by rfl) s
theorem x99_11 : execA E C (fg 99) B 42 E0 N c99_11 s = seqX (execA E C (fg 99) B 42 E0 N c99_12 s) (execA E C (fg 99) B 42 E0 N c99_17) := x_seq (by rfl) s
noncomputable def c99_34 : Code := kR c99_10
theorem x99_34 : execA E C (fg 99) B 42 E0 N c99_34 s = some (.exit 0, s) := x_exit (by rfl) s
theorem x99_10 : execA E C (fg 99) B 42 E0 N c99_10 s = seqX (execA E C (fg 99) B 42 E0 N c99_11 s) (execA E C (fg 99) B 42 E0 N c99_34) := x_seq (by rfl) s
theorem x99_9 : execA E C (fg 99) B 42 E0 N c99_9 s = blockX 1 (fun s => (forget s.1 [1, 3], s.2)) (execA E C (fg 99) B 42 E0 N c99_10 s) := x_block (by rfl) (by rfl) s
theorem x99_8 : execA E C (fg 99) B 42 E0 N c99_8 s = blockX 2 (fun s => (forget s.1 [1, 12], s.2)) (execA E C (fg 99) B 42 E0 N c99_9 s) := x_block (by rfl) (by rfl) s
theorem x99_7 : execA E C (fg 99) B 42 E0 N c99_7 s = blockX 3 (fun s => (forget s.1 [1, 21], s.2)) (execA E C (fg 99) B 42 E0 N c99_8 s) := x_block (by rfl) (by rfl) s
noncomputable def c99_35 : Code := kR c99_6
noncomputable def c99_36 : Code := kL c99_35
noncomputable def c99_37 : Code := kL c99_36
noncomputable def r99_5 : Array Oper := kO c99_37
noncomputable def o99_5_0 : Oper := opN r99_5 0
theorem x99_37 : execA E C (fg 99) B 42 E0 N c99_37 s = regX (runA E C B 42 r99_5 r99_5.toList s) (fun s => gcM E0 [] (forget s.1 [], s.2)) := x_reg (ops := r99_5) (by rfl) (by rfl) s
theorem r99_5_l : r99_5.toList = [o99_5_0] := nrfl rfl
theorem s99_5_0 : stepA E C B 42 r99_5 o99_5_0 (φ, H) = some (fput φ 2 (.int .i64 1), H) := nrfl rfl
noncomputable def c99_38 : Code := kR c99_36
theorem x99_38 : execA E C (fg 99) B 42 E0 N c99_38 s = some (.ret, s) := x_ret (by rfl) s
theorem x99_36 : execA E C (fg 99) B 42 E0 N c99_36 s = seqX (execA E C (fg 99) B 42 E0 N c99_37 s) (execA E C (fg 99) B 42 E0 N c99_38) := x_seq (by rfl) s
noncomputable def c99_39 : Code := kR c99_35
theorem x99_39 : execA E C (fg 99) B 42 E0 N c99_39 s = some (.exit 0, s) := x_exit (by rfl) s
theorem x99_35 : execA E C (fg 99) B 42 E0 N c99_35 s = seqX (execA E C (fg 99) B 42 E0 N c99_36 s) (execA E C (fg 99) B 42 E0 N c99_39) := x_seq (by rfl) s
theorem x99_6 : execA E C (fg 99) B 42 E0 N c99_6 s = seqX (execA E C (fg 99) B 42 E0 N c99_7 s) (execA E C (fg 99) B 42 E0 N c99_35) := x_seq (by rfl) s
theorem x99_5 : execA E C (fg 99) B 42 E0 N c99_5 s = blockX 4 (fun s => (forget s.1 [36], s.2)) (execA E C (fg 99) B 42 E0 N c99_6 s) := x_block (by rfl) (by rfl) s
noncomputable def c99_40 : Code := kR c99_4
noncomputable def c99_41 : Code := kL c99_40
noncomputable def c99_42 : Code := kL c99_41
noncomputable def r99_6 : Array Oper := kO c99_42
noncomputable def o99_6_0 : Oper := opN r99_6 0
theorem x99_42 : execA E C (fg 99) B 42 E0 N c99_42 s = regX (runA E C B 42 r99_6 r99_6.toList s) (fun s => gcM E0 [] (forget s.1 [], s.2)) := x_reg (ops := r99_6) (by rfl) (by rfl) s
theorem r99_6_l : r99_6.toList = [o99_6_0] := nrfl rfl
theorem s99_6_0 : stepA E C B 42 r99_6 o99_6_0 (φ, H) = some (fput φ 2 (.int .i64 7), H) := nrfl rfl
noncomputable def c99_43 : Code := kR c99_41
theorem x99_43 : execA E C (fg 99) B 42 E0 N c99_43 s = some (.ret, s) := x_ret (by rfl) s
theorem x99_41 : execA E C (fg 99) B 42 E0 N c99_41 s = seqX (execA E C (fg 99) B 42 E0 N c99_42 s) (execA E C (fg 99) B 42 E0 N c99_43) := x_seq (by rfl) s
noncomputable def c99_44 : Code := kR c99_40
theorem x99_44 : execA E C (fg 99) B 42 E0 N c99_44 s = some (.exit 0, s) := x_exit (by rfl) s
theorem x99_40 : execA E C (fg 99) B 42 E0 N c99_40 s = seqX (execA E C (fg 99) B 42 E0 N c99_41 s) (execA E C (fg 99) B 42 E0 N c99_44) := x_seq (by rfl) s
theorem x99_4 : execA E C (fg 99) B 42 E0 N c99_4 s = seqX (execA E C (fg 99) B 42 E0 N c99_5 s) (execA E C (fg 99) B 42 E0 N c99_40) := x_seq (by rfl) s
theorem x99_3 : execA E C (fg 99) B 42 E0 N c99_3 s = blockX 0 (fun s => (forget s.1 [36], s.2)) (execA E C (fg 99) B 42 E0 N c99_4 s) := x_block (by rfl) (by rfl) s
noncomputable def c99_45 : Code := kR c99_2
noncomputable def c99_46 : Code := kL c99_45
noncomputable def r99_7 : Array Oper := kO c99_46
noncomputable def o99_7_0 : Oper := opN r99_7 0
theorem x99_46 : execA E C (fg 99) B 42 E0 N c99_46 s = regX (runA E C B 42 r99_7 r99_7.toList s) (fun s => gcM E0 [] (forget s.1 [], s.2)) := x_reg (ops := r99_7) (by rfl) (by rfl) s
theorem r99_7_l : r99_7.toList = [o99_7_0] := nrfl rfl
theorem s99_7_0 : stepA E C B 42 r99_7 o99_7_0 (φ, H) = some (fput φ 2 (.int .i64 0), H) := nrfl rfl
noncomputable def c99_47 : Code := kR c99_45
theorem x99_47 : execA E C (fg 99) B 42 E0 N c99_47 s = some (.ret, s) := x_ret (by rfl) s
theorem x99_45 : execA E C (fg 99) B 42 E0 N c99_45 s = seqX (execA E C (fg 99) B 42 E0 N c99_46 s) (execA E C (fg 99) B 42 E0 N c99_47) := x_seq (by rfl) s
theorem x99_2 : execA E C (fg 99) B 42 E0 N c99_2 s = seqX (execA E C (fg 99) B 42 E0 N c99_3 s) (execA E C (fg 99) B 42 E0 N c99_45) := x_seq (by rfl) s
theorem x99_0 : execA E C (fg 99) B 42 E0 N c99_0 s = seqX (execA E C (fg 99) B 42 E0 N c99_1 s) (execA E C (fg 99) B 42 E0 N c99_2) := x_seq (by rfl) s
theorem fi_99 : fInfo E 99 = some ⟨42, #[.tmp 2], c99_0⟩ := nrfl rfl
theorem b_99 (args : List AV) : bodyA E C fg N 99 args H B = bodyX E [.tmp 2] (execA E C (fg 99) B 42 H N c99_0 (frame0 args 0 [], H)) := bodyA_eq fi_99 args H
noncomputable def c70_0 : Code := kBody Proofs.Try.f70
noncomputable def c70_1 : Code := kL c70_0
noncomputable def r70_0 : Array Oper := kO c70_1
noncomputable def o70_0_0 : Oper := opN r70_0 0
theorem x70_1 : execA E C (fg 70) B 26 E0 N c70_1 s = regX (runA E C B 26 r70_0 r70_0.toList s) (fun s => gcM E0 [2] (forget s.1 [2], s.2)) := x_reg (ops := r70_0) (by rfl) (by rfl) s
theorem r70_0_l : r70_0.toList = [o70_0_0] := nrfl rfl
theorem s70_0_0 : stepA E C B 26 r70_0 o70_0_0 (φ, H) = some (fput φ 2 (.int .i64 0), H) := nrfl rfl
noncomputable def c70_2 : Code := kR c70_0
noncomputable def c70_3 : Code := kL c70_2
noncomputable def c70_4 : Code := kB c70_3
noncomputable def c70_5 : Code := kL c70_4
noncomputable def r70_1 : Array Oper := kO c70_5
noncomputable def o70_1_0 : Oper := opN r70_1 0
noncomputable def o70_1_1 : Oper := opN r70_1 1
noncomputable def o70_1_2 : Oper := opN r70_1 2
noncomputable def o70_1_3 : Oper := opN r70_1 3
theorem x70_5 : execA E C (fg 70) B 26 E0 N c70_5 s = regX (runA E C B 26 r70_1 r70_1.toList s) (fun s => gcM E0 [7, 8, 9] (forget s.1 [7, 8, 9], s.2)) := x_reg (ops := r70_1) (by rfl) (by rfl) s
theorem r70_1_l : r70_1.toList = [o70_1_0, o70_1_1, o70_1_2, o70_1_3] := nrfl rfl
theorem s70_1_0 : stepA E C B 26 r70_1 o70_1_0 (φ, H) = some (fput φ 7 (fget φ 0), H) := nrfl rfl
theorem s70_1_1 : stepA E C B 26 r70_1 o70_1_1 (φ, H) = stp (some 8) φ H (aBuiltin E.T (B + 8) .len #[22] [(fget φ 7)]) := nrfl rfl
theorem s70_1_2 : stepA E C B 26 r70_1 o70_1_2 (φ, H) = stp (some 9) φ H (just (aBin E.T .eql 3 (fget φ 8) (.int .i64 0))) := nrfl rfl
theorem s70_1_3 : stepA E C B 26 r70_1 o70_1_3 (φ, H) = some (fput φ 6 (fget φ 9), H) := nrfl rfl
noncomputable def c70_6 : Code := kR c70_4
noncomputable def c70_7 : Code := kT c70_6
noncomputable def c70_8 : Code := kL c70_7
noncomputable def r70_2 : Array Oper := kO c70_8
noncomputable def o70_2_0 : Oper := opN r70_2 0
theorem x70_8 : execA E C (fg 70) B 26 E0 N c70_8 s = regX (runA E C B 26 r70_2 r70_2.toList s) (fun s => gcM E0 [0, 6] (forget s.1 [0, 6], s.2)) := x_reg (ops := r70_2) (by rfl) (by rfl) s
theorem r70_2_l : r70_2.toList = [o70_2_0] := nrfl rfl
theorem s70_2_0 : stepA E C B 26 r70_2 o70_2_0 (φ, H) = some (fput φ 2 (.int .i64 4), H) := nrfl rfl
noncomputable def c70_9 : Code := kR c70_7
theorem x70_9 : execA E C (fg 70) B 26 E0 N c70_9 s = some (.ret, s) := x_ret (by rfl) s
theorem x70_7 : execA E C (fg 70) B 26 E0 N c70_7 s = seqX (execA E C (fg 70) B 26 E0 N c70_8 s) (execA E C (fg 70) B 26 E0 N c70_9) := x_seq (by rfl) s
noncomputable def c70_10 : Code := kE c70_6
noncomputable def c70_11 : Code := kL c70_10
noncomputable def r70_3 : Array Oper := kO c70_11
noncomputable def o70_3_0 : Oper := opN r70_3 0
noncomputable def o70_3_1 : Oper := opN r70_3 1
noncomputable def o70_3_2 : Oper := opN r70_3 2
noncomputable def o70_3_3 : Oper := opN r70_3 3
theorem x70_11 : execA E C (fg 70) B 26 E0 N c70_11 s = regX (runA E C B 26 r70_3 r70_3.toList s) (fun s => gcM E0 [6, 11, 12, 13] (forget s.1 [6, 11, 12, 13], s.2)) := x_reg (ops := r70_3) (by rfl) (by rfl) s
theorem r70_3_l : r70_3.toList = [o70_3_0, o70_3_1, o70_3_2, o70_3_3] := nrfl rfl
theorem s70_3_0 : stepA E C B 26 r70_3 o70_3_0 (φ, H) = some (fput φ 11 (fget φ 0), H) := nrfl rfl
theorem s70_3_1 : stepA E C B 26 r70_3 o70_3_1 (φ, H) = stp (some 12) φ H (aBuiltin E.T (B + 12) .len #[22] [(fget φ 11)]) := nrfl rfl
theorem s70_3_2 : stepA E C B 26 r70_3 o70_3_2 (φ, H) = stp (some 13) φ H (just (aBin E.T .gtr 3 (fget φ 12) (.int .i64 5))) := nrfl rfl
theorem s70_3_3 : stepA E C B 26 r70_3 o70_3_3 (φ, H) = some (fput φ 10 (fget φ 13), H) := nrfl rfl
noncomputable def c70_12 : Code := kR c70_10
noncomputable def c70_13 : Code := kT c70_12
noncomputable def c70_14 : Code := kL c70_13
noncomputable def r70_4 : Array Oper := kO c70_14
noncomputable def o70_4_0 : Oper := opN r70_4 0
theorem x70_14 : execA E C (fg 70) B 26 E0 N c70_14 s = regX (runA E C B 26 r70_4 r70_4.toList s) (fun s => gcM E0 [0, 10] (forget s.1 [0, 10], s.2)) := x_reg (ops := r70_4) (by rfl) (by rfl) s
theorem r70_4_l : r70_4.toList = [o70_4_0] := nrfl rfl
theorem s70_4_0 : stepA E C B 26 r70_4 o70_4_0 (φ, H) = some (fput φ 2 (.int .i64 3), H) := nrfl rfl
noncomputable def c70_15 : Code := kR c70_13
theorem x70_15 : execA E C (fg 70) B 26 E0 N c70_15 s = some (.ret, s) := x_ret (by rfl) s
theorem x70_13 : execA E C (fg 70) B 26 E0 N c70_13 s = seqX (execA E C (fg 70) B 26 E0 N c70_14 s) (execA E C (fg 70) B 26 E0 N c70_15) := x_seq (by rfl) s
noncomputable def c70_16 : Code := kE c70_12
theorem x70_16 : execA E C (fg 70) B 26 E0 N c70_16 s = some (.normal, s) := x_skip (by rfl) s
theorem x70_12 : execA E C (fg 70) B 26 E0 N c70_12 (φ, H) = condX (fget φ 10) (execA E C (fg 70) B 26 E0 N c70_13 (φ, H)) (execA E C (fg 70) B 26 E0 N c70_16 (φ, H)) := x_cond (by rfl) _
theorem x70_10 : execA E C (fg 70) B 26 E0 N c70_10 s = seqX (execA E C (fg 70) B 26 E0 N c70_11 s) (execA E C (fg 70) B 26 E0 N c70_12) := x_seq (by rfl) s
theorem x70_6 : execA E C (fg 70) B 26 E0 N c70_6 (φ, H) = condX (fget φ 6) (execA E C (fg 70) B 26 E0 N c70_7 (φ, H)) (execA E C (fg 70) B 26 E0 N c70_10 (φ, H)) := x_cond (by rfl) _
theorem x70_4 : execA E C (fg 70) B 26 E0 N c70_4 s = seqX (execA E C (fg 70) B 26 E0 N c70_5 s) (execA E C (fg 70) B 26 E0 N c70_6) := x_seq (by rfl) s
theorem x70_3 : execA E C (fg 70) B 26 E0 N c70_3 s = blockX 0 (fun s => (forget s.1 [10], s.2)) (execA E C (fg 70) B 26 E0 N c70_4 s) := x_block (by rfl) (by rfl) s
noncomputable def c70_17 : Code := kR c70_2
noncomputable def c70_18 : Code := kL c70_17
noncomputable def c70_19 : Code := kL c70_18
noncomputable def r70_5 : Array Oper := kO c70_19
noncomputable def o70_5_0 : Oper := opN r70_5 0
noncomputable def o70_5_1 : Oper := opN r70_5 1
noncomputable def o70_5_2 : Oper := opN r70_5 2
theorem x70_19 : execA E C (fg 70) B 26 E0 N c70_19 s = regX (runA E C B 26 r70_5 r70_5.toList s) (fun s => gcM E0 [0] (forget s.1 [0], s.2)) := x_reg (ops := r70_5) (by rfl) (by rfl) s
theorem r70_5_l : r70_5.toList = [o70_5_0, o70_5_1, o70_5_2] := nrfl rfl
theorem s70_5_0 : stepA E C B 26 r70_5 o70_5_0 (φ, H) = some (fput φ 14 (fget φ 0), H) := nrfl rfl
theorem s70_5_1 : stepA E C B 26 r70_5 o70_5_1 (φ, H) = stp (some 15) φ H (aBuiltin E.T (B + 15) .len #[22] [(fget φ 14)]) := nrfl rfl
theorem s70_5_2 : stepA E C B 26 r70_5 o70_5_2 (φ, H) = some (fput φ 16 (.int .i64 0), H) := nrfl rfl
noncomputable def c70_20 : Code := kR c70_18
noncomputable def c70_21 : Code := kB c70_20
noncomputable def c70_22 : Code := kB c70_21
noncomputable def c70_23 : Code := kL c70_22
noncomputable def r70_6 : Array Oper := kO c70_23
noncomputable def o70_6_0 : Oper := opN r70_6 0
theorem x70_23 : execA E C (fg 70) B 26 E0 N c70_23 s = regX (runA E C B 26 r70_6 r70_6.toList s) (fun s => gcM E0 [] (forget s.1 [], s.2)) := x_reg (ops := r70_6) (by rfl) (by rfl) s
theorem r70_6_l : r70_6.toList = [o70_6_0] := nrfl rfl
theorem s70_6_0 : stepA E C B 26 r70_6 o70_6_0 (φ, H) = stp (some 17) φ H (just (aBin E.T .lss 3 (fget φ 16) (fget φ 15))) := nrfl rfl
noncomputable def c70_24 : Code := kR c70_22
noncomputable def c70_25 : Code := kL c70_24
noncomputable def c70_26 : Code := kT c70_25
theorem x70_26 : execA E C (fg 70) B 26 E0 N c70_26 s = some (.normal, s) := x_skip (by rfl) s
noncomputable def c70_27 : Code := kE c70_25
theorem x70_27 : execA E C (fg 70) B 26 E0 N c70_27 s = some (.exit 1, s) := x_exit (by rfl) s
theorem x70_25 : execA E C (fg 70) B 26 E0 N c70_25 (φ, H) = condX (fget φ 17) (execA E C (fg 70) B 26 E0 N c70_26 (φ, H)) (execA E C (fg 70) B 26 E0 N c70_27 (φ, H)) := x_cond (by rfl) _
noncomputable def c70_28 : Code := kR c70_24
noncomputable def c70_29 : Code := kL c70_28
noncomputable def c70_30 : Code := kB c70_29
noncomputable def c70_31 : Code := kL c70_30
noncomputable def r70_7 : Array Oper := kO c70_31
noncomputable def o70_7_0 : Oper := opN r70_7 0
noncomputable def o70_7_1 : Oper := opN r70_7 1
noncomputable def o70_7_2 : Oper := opN r70_7 2
noncomputable def o70_7_3 : Oper := opN r70_7 3
theorem x70_31 : execA E C (fg 70) B 26 E0 N c70_31 s = regX (runA E C B 26 r70_7 r70_7.toList s) (fun s => gcM E0 [17, 18, 19] (forget s.1 [17, 18, 19], s.2)) := x_reg (ops := r70_7) (by rfl) (by rfl) s
theorem r70_7_l : r70_7.toList = [o70_7_0, o70_7_1, o70_7_2, o70_7_3] := nrfl rfl
theorem s70_7_0 : stepA E C B 26 r70_7 o70_7_0 (φ, H) = stp (some 18) φ H (just (aIndexAddr E.T 22 (fget φ 14) (fget φ 16))) := nrfl rfl
theorem s70_7_1 : stepA E C B 26 r70_7 o70_7_1 (φ, H) = stp (some 19) φ H (just (aLoad E.T 45 (fget φ 18))) := nrfl rfl
theorem s70_7_2 : stepA E C B 26 r70_7 o70_7_2 (φ, H) = stp (some 4) φ H (opBox (B + 4) (zeroCells E.T 45)) := nrfl rfl
theorem s70_7_3 : stepA E C B 26 r70_7 o70_7_3 (φ, H) = stp none φ H (opStore E.T 45 (fget φ 4) (fget φ 19)) := nrfl rfl
noncomputable def c70_32 : Code := kR c70_30
noncomputable def c70_33 : Code := kL c70_32
noncomputable def r70_8 : Array Oper := kO c70_33
noncomputable def o70_8_0 : Oper := opN r70_8 0
noncomputable def o70_8_1 : Oper := opN r70_8 1
noncomputable def o70_8_2 : Oper := opN r70_8 2
theorem x70_33 : execA E C (fg 70) B 26 E0 N c70_33 s = regX (runA E C B 26 r70_8 r70_8.toList s) (fun s => gcM E0 [4, 20, 21] (forget s.1 [4, 20, 21], s.2)) := x_reg (ops := r70_8) (by rfl) (by rfl) s
theorem r70_8_l : r70_8.toList = [o70_8_0, o70_8_1, o70_8_2] := nrfl rfl
theorem s70_8_0 : stepA E C B 26 r70_8 o70_8_0 (φ, H) = stp (some 20) φ H (just (aLoad E.T 45 (fget φ 4))) := nrfl rfl
theorem s70_8_1 : stepA E C B 26 r70_8 o70_8_1 (φ, H) = stp (some 21) φ H (aCall C (fun j => B + j * 26 + 21) true 99 [(fget φ 20)]) := nrfl rfl
theorem s70_8_2 : stepA E C B 26 r70_8 o70_8_2 (φ, H) = some (fput φ 5 (fget φ 21), H) := nrfl rfl
noncomputable def c70_34 : Code := kR c70_32
noncomputable def c70_35 : Code := kL c70_34
noncomputable def r70_9 : Array Oper := kO c70_35
noncomputable def o70_9_0 : Oper := opN r70_9 0
noncomputable def o70_9_1 : Oper := opN r70_9 1
theorem x70_35 : execA E C (fg 70) B 26 E0 N c70_35 s = regX (runA E C B 26 r70_9 r70_9.toList s) (fun s => gcM E0 [22] (forget s.1 [22], s.2)) := x_reg (ops := r70_9) (by rfl) (by rfl) s
theorem r70_9_l : r70_9.toList = [o70_9_0, o70_9_1] := nrfl rfl
theorem s70_9_0 : stepA E C B 26 r70_9 o70_9_0 (φ, H) = some (fput φ 22 (fget φ 5), H) := nrfl rfl
theorem s70_9_1 : stepA E C B 26 r70_9 o70_9_1 (φ, H) = stp (some 23) φ H (just (aBin E.T .neq 28 (fget φ 22) (.int .i64 0))) := nrfl rfl
noncomputable def c70_36 : Code := kR c70_34
noncomputable def c70_37 : Code := kT c70_36
noncomputable def c70_38 : Code := kL c70_37
noncomputable def r70_10 : Array Oper := kO c70_38
noncomputable def o70_10_0 : Oper := opN r70_10 0
noncomputable def o70_10_1 : Oper := opN r70_10 1
theorem x70_38 : execA E C (fg 70) B 26 E0 N c70_38 s = regX (runA E C B 26 r70_10 r70_10.toList s) (fun s => gcM E0 [5, 14, 15, 16, 23, 24] (forget s.1 [5, 14, 15, 16, 23, 24], s.2)) := x_reg (ops := r70_10) (by rfl) (by rfl) s
theorem r70_10_l : r70_10.toList = [o70_10_0, o70_10_1] := nrfl rfl
theorem s70_10_0 : stepA E C B 26 r70_10 o70_10_0 (φ, H) = some (fput φ 24 (fget φ 5), H) := nrfl rfl
theorem s70_10_1 : stepA E C B 26 r70_10 o70_10_1 (φ, H) = some (fput φ 2 (fget φ 24), H) := nrfl rfl
noncomputable def c70_39 : Code := kR c70_37
theorem x70_39 : execA E C (fg 70) B 26 E0 N c70_39 s = some (.ret, s) := x_ret (by rfl) s
theorem x70_37 : execA E C (fg 70) B 26 E0 N c70_37 s = seqX (execA E C (fg 70) B 26 E0 N c70_38 s) (execA E C (fg 70) B 26 E0 N c70_39) := x_seq (by rfl) s
noncomputable def c70_40 : Code := kE c70_36
theorem x70_40 : execA E C (fg 70) B 26 E0 N c70_40 s = some (.normal, s) := x_skip (by rfl) s
theorem x70_36 : execA E C (fg 70) B 26 E0 N c70_36 (φ, H) = condX (fget φ 23) (execA E C (fg 70) B 26 E0 N c70_37 (φ, H)) (execA E C (fg 70) B 26 E0 N c70_40 (φ, H)) := x_cond (by rfl) _
theorem x70_34 : execA E C (fg 70) B 26 E0 N c70_34 s = seqX (execA E C (fg 70) B 26 E0 N c70_35 s) (execA E C (fg 70) B 26 E0 N c70_36) := x_seq (by rfl) s
theorem x70_32 : execA E C (fg 70) B 26 E0 N c70_32 s = seqX (execA E C (fg 70) B 26 E0 N c70_33 s) (execA E C (fg 70) B 26 E0 N c70_34) := x_seq (by rfl) s
theorem x70_30 : execA E C (fg 70) B 26 E0 N c70_30 s = seqX (execA E C (fg 70) B 26 E0 N c70_31 s) (execA E C (fg 70) B 26 E0 N c70_32) := x_seq (by rfl) s
theorem x70_29 : execA E C (fg 70) B 26 E0 N c70_29 s = blockX 2 (fun s => (forget s.1 [5, 23], s.2)) (execA E C (fg 70) B 26 E0 N c70_30 s) := x_block (by rfl) (by rfl) s
noncomputable def c70_41 : Code := kR c70_28
noncomputable def r70_11 : Array Oper := kO c70_41
noncomputable def o70_11_0 : Oper := opN r70_11 0
noncomputable def o70_11_1 : Oper := opN r70_11 1
theorem x70_41 : execA E C (fg 70) B 26 E0 N c70_41 s = regX (runA E C B 26 r70_11 r70_11.toList s) (fun s => gcM E0 [25] (forget s.1 [25], s.2)) := x_reg (ops := r70_11) (by rfl) (by rfl) s
theorem r70_11_l : r70_11.toList = [o70_11_0, o70_11_1] := nrfl rfl
theorem s70_11_0 : stepA E C B 26 r70_11 o70_11_0 (φ, H) = stp (some 25) φ H (just (aBin E.T .add 3 (fget φ 16) (.int .i64 1))) := nrfl rfl
theorem s70_11_1 : stepA E C B 26 r70_11 o70_11_1 (φ, H) = some (fput φ 16 (fget φ 25), H) := nrfl rfl
theorem x70_28 : execA E C (fg 70) B 26 E0 N c70_28 s = seqX (execA E C (fg 70) B 26 E0 N c70_29 s) (execA E C (fg 70) B 26 E0 N c70_41) := x_seq (by rfl) s
theorem x70_24 : execA E C (fg 70) B 26 E0 N c70_24 s = seqX (execA E C (fg 70) B 26 E0 N c70_25 s) (execA E C (fg 70) B 26 E0 N c70_28) := x_seq (by rfl) s
theorem x70_22 : execA E C (fg 70) B 26 E0 N c70_22 s = seqX (execA E C (fg 70) B 26 E0 N c70_23 s) (execA E C (fg 70) B 26 E0 N c70_24) := x_seq (by rfl) s
theorem x70_21 : execA E C (fg 70) B 26 E0 N c70_21 s = iterA (execA E C (fg 70) B 26 E0 N c70_22) (headA E0) N s := x_loop (by rfl) s
theorem x70_20 : execA E C (fg 70) B 26 E0 N c70_20 s = blockX 1 (fun s => (forget s.1 [14, 15, 16, 17], s.2)) (execA E C (fg 70) B 26 E0 N c70_21 s) := x_block (by rfl) (by rfl) s
theorem x70_18 : execA E C (fg 70) B 26 E0 N c70_18 s = seqX (execA E C (fg 70) B 26 E0 N c70_19 s) (execA E C (fg 70) B 26 E0 N c70_20) := x_seq (by rfl) s
noncomputable def c70_42 : Code := kR c70_17
noncomputable def c70_43 : Code := kL c70_42
noncomputable def r70_12 : Array Oper := kO c70_43
noncomputable def o70_12_0 : Oper := opN r70_12 0
theorem x70_43 : execA E C (fg 70) B 26 E0 N c70_43 s = regX (runA E C B 26 r70_12 r70_12.toList s) (fun s => gcM E0 [] (forget s.1 [], s.2)) := x_reg (ops := r70_12) (by rfl) (by rfl) s
theorem r70_12_l : r70_12.toList = [o70_12_0] := nrfl rfl
theorem s70_12_0 : stepA E C B 26 r70_12 o70_12_0 (φ, H) = some (fput φ 2 (.int .i64 0), H) := nrfl rfl
noncomputable def c70_44 : Code := kR c70_42
theorem x70_44 : execA E C (fg 70) B 26 E0 N c70_44 s = some (.ret, s) := x_ret (by rfl) s
theorem x70_42 : execA E C (fg 70) B 26 E0 N c70_42 s = seqX (execA E C (fg 70) B 26 E0 N c70_43 s) (execA E C (fg 70) B 26 E0 N c70_44) := x_seq (by rfl) s
theorem x70_17 : execA E C (fg 70) B 26 E0 N c70_17 s = seqX (execA E C (fg 70) B 26 E0 N c70_18 s) (execA E C (fg 70) B 26 E0 N c70_42) := x_seq (by rfl) s
theorem x70_2 : execA E C (fg 70) B 26 E0 N c70_2 s = seqX (execA E C (fg 70) B 26 E0 N c70_3 s) (execA E C (fg 70) B 26 E0 N c70_17) := x_seq (by rfl) s
theorem x70_0 : execA E C (fg 70) B 26 E0 N c70_0 s = seqX (execA E C (fg 70) B 26 E0 N c70_1 s) (execA E C (fg 70) B 26 E0 N c70_2) := x_seq (by rfl) s
theorem fi_70 : fInfo E 70 = some ⟨26, #[.tmp 2], c70_0⟩ := nrfl rfl
theorem b_70 (args : List AV) : bodyA E C fg N 70 args H B = bodyX E [.tmp 2] (execA E C (fg 70) B 26 H N c70_0 (frame0 args 0 [], H)) := bodyA_eq fi_70 args H
noncomputable def c114_0 : Code := kBody Proofs.Try.f114
noncomputable def c114_1 : Code := kL c114_0
noncomputable def r114_0 : Array Oper := kO c114_1
noncomputable def o114_0_0 : Oper := opN r114_0 0
theorem x114_1 : execA E C (fg 114) B 26 E0 N c114_1 s = regX (runA E C B 26 r114_0 r114_0.toList s) (fun s => gcM E0 [6] (forget s.1 [6], s.2)) := x_reg (ops := r114_0) (by rfl) (by rfl) s
theorem r114_0_l : r114_0.toList = [o114_0_0] := nrfl rfl
theorem s114_0_0 : stepA E C B 26 r114_0 o114_0_0 (φ, H) = some (fput φ 6 (.int .i64 0), H) := nrfl rfl
noncomputable def c114_2 : Code := kR c114_0
noncomputable def c114_3 : Code := kL c114_2
noncomputable def r114_1 : Array Oper := kO c114_3
noncomputable def o114_1_0 : Oper := opN r114_1 0
theorem x114_3 : execA E C (fg 114) B 26 E0 N c114_3 s = regX (runA E C B 26 r114_1 r114_1.toList s) (fun s => gcM E0 [] (forget s.1 [], s.2)) := x_reg (ops := r114_1) (by rfl) (by rfl) s
theorem r114_1_l : r114_1.toList = [o114_1_0] := nrfl rfl
theorem s114_1_0 : stepA E C B 26 r114_1 o114_1_0 (φ, H) = some (fput φ 7 (.int .i64 0), H) := nrfl rfl
noncomputable def c114_4 : Code := kR c114_2
noncomputable def c114_5 : Code := kL c114_4
noncomputable def c114_6 : Code := kL c114_5
noncomputable def r114_2 : Array Oper := kO c114_6
noncomputable def o114_2_0 : Oper := opN r114_2 0
noncomputable def o114_2_1 : Oper := opN r114_2 1
theorem x114_6 : execA E C (fg 114) B 26 E0 N c114_6 s = regX (runA E C B 26 r114_2 r114_2.toList s) (fun s => gcM E0 [1, 9] (forget s.1 [1, 9], s.2)) := x_reg (ops := r114_2) (by rfl) (by rfl) s
theorem r114_2_l : r114_2.toList = [o114_2_0, o114_2_1] := nrfl rfl
theorem s114_2_0 : stepA E C B 26 r114_2 o114_2_0 (φ, H) = some (fput φ 9 (fget φ 1), H) := nrfl rfl
theorem s114_2_1 : stepA E C B 26 r114_2 o114_2_1 (φ, H) = some (fput φ 8 (fget φ 9), H) := nrfl rfl
noncomputable def c114_7 : Code := kR c114_5
noncomputable def c114_8 : Code := kB c114_7
noncomputable def c114_9 : Code := kB c114_8
noncomputable def c114_10 : Code := kL c114_9
noncomputable def c114_11 : Code := kL c114_10
noncomputable def r114_3 : Array Oper := kO c114_11
noncomputable def o114_3_0 : Oper := opN r114_3 0
noncomputable def o114_3_1 : Oper := opN r114_3 1
noncomputable def o114_3_2 : Oper := opN r114_3 2
noncomputable def o114_3_3 : Oper := opN r114_3 3
theorem x114_11 : execA E C (fg 114) B 26 E0 N c114_11 s = regX (runA E C B 26 r114_3 r114_3.toList s) (fun s => gcM E0 [10, 11, 12] (forget s.1 [10, 11, 12], s.2)) := x_reg (ops := r114_3) (by rfl) (by rfl) s
theorem r114_3_l : r114_3.toList = [o114_3_0, o114_3_1, o114_3_2, o114_3_3] := nrfl rfl
theorem s114_3_0 : stepA E C B 26 r114_3 o114_3_0 (φ, H) = some (fput φ 10 (fget φ 8), H) := nrfl rfl
theorem s114_3_1 : stepA E C B 26 r114_3 o114_3_1 (φ, H) = some (fput φ 11 (fget φ 0), H) := nrfl rfl
theorem s114_3_2 : stepA E C B 26 r114_3 o114_3_2 (φ, H) = stp (some 12) φ H (aBuiltin E.T (B + 12) .len #[164] [(fget φ 11)]) := nrfl rfl
theorem s114_3_3 : stepA E C B 26 r114_3 o114_3_3 (φ, H) = stp (some 13) φ H (just (aBin E.T .lss 3 (fget φ 10) (fget φ 12))) := nrfl rfl
noncomputable def c114_12 : Code := kR c114_10
noncomputable def c114_13 : Code := kT c114_12
theorem x114_13 : execA E C (fg 114) B 26 E0 N c114_13 s = some (.normal, s) := x_skip (by rfl) s
noncomputable def c114_14 : Code := kE c114_12
theorem x114_14 : execA E C (fg 114) B 26 E0 N c114_14 s = some (.exit 0, s) := x_exit (by rfl) s
theorem x114_12 : execA E C (fg 114) B 26 E0 N c114_12 (φ, H) = condX (fget φ 13) (execA E C (fg 114) B 26 E0 N c114_13 (φ, H)) (execA E C (fg 114) B 26 E0 N c114_14 (φ, H)) := x_cond (by rfl) _
theorem x114_10 : execA E C (fg 114) B 26 E0 N c114_10 s = seqX (execA E C (fg 114) B 26 E0 N c114_11 s) (execA E C (fg 114) B 26 E0 N c114_12) := x_seq (by rfl) s
noncomputable def c114_15 : Code := kR c114_9
noncomputable def c114_16 : Code := kL c114_15
noncomputable def c114_17 : Code := kB c114_16
noncomputable def r114_5 : Array Oper := kO c114_17
noncomputable def o114_5_0 : Oper := opN r114_5 0
noncomputable def o114_5_1 : Oper := opN r114_5 1
noncomputable def o114_5_2 : Oper := opN r114_5 2
noncomputable def o114_5_3 : Oper := opN r114_5 3
noncomputable def o114_5_4 : Oper := opN r114_5 4
noncomputable def o114_5_5 : Oper := opN r114_5 5
noncomputable def o114_5_6 : Oper := opN r114_5 6
noncomputable def o114_5_7 : Oper := opN r114_5 7
noncomputable def o114_5_8 : Oper := opN r114_5 8
noncomputable def o114_5_9 : Oper := opN r114_5 9
theorem x114_17 : execA E C (fg 114) B 26 E0 N c114_17 s = regX (runA E C B 26 r114_5 r114_5.toList s) (fun s => gcM E0 [13, 16, 17, 18, 19, 20, 21, 22, 23, 24] (forget s.1 [13, 16, 17, 18, 19, 20, 21, 22, 23, 24], s.2)) := x_reg (ops := r114_5) (by rfl) (by rfl) s
theorem r114_5_l : r114_5.toList = [o114_5_0, o114_5_1, o114_5_2, o114_5_3, o114_5_4, o114_5_5, o114_5_6, o114_5_7, o114_5_8, o114_5_9] := nrfl rfl
theorem s114_5_0 : stepA E C B 26 r114_5 o114_5_0 (φ, H) = some (fput φ 16 (fget φ 7), H) := nrfl rfl
theorem s114_5_1 : stepA E C B 26 r114_5 o114_5_1 (φ, H) = some (fput φ 17 (fget φ 2), H) := nrfl rfl
theorem s114_5_2 : stepA E C B 26 r114_5 o114_5_2 (φ, H) = some (fput φ 18 (fget φ 8), H) := nrfl rfl
theorem s114_5_3 : stepA E C B 26 r114_5 o114_5_3 (φ, H) = some (fput φ 19 (fget φ 0), H) := nrfl rfl
theorem s114_5_4 : stepA E C B 26 r114_5 o114_5_4 (φ, H) = some (fput φ 20 (fget φ 8), H) := nrfl rfl
theorem s114_5_5 : stepA E C B 26 r114_5 o114_5_5 (φ, H) = stp (some 21) φ H (just (aIndexAddr E.T 164 (fget φ 19) (fget φ 20))) := nrfl rfl
theorem s114_5_6 : stepA E C B 26 r114_5 o114_5_6 (φ, H) = stp (some 22) φ H (just (aLoad E.T 45 (fget φ 21))) := nrfl rfl
theorem s114_5_7 : stepA E C B 26 r114_5 o114_5_7 (φ, H) = callV E C (B + 26 * 8) (some 23) (fun j => B + j * 26 + 23) φ H (fget φ 17) [(fget φ 18), (fget φ 22)] true := nrfl rfl
theorem s114_5_8 : stepA E C B 26 r114_5 o114_5_8 (φ, H) = stp (some 24) φ H (just (aBin E.T .add 3 (fget φ 16) (fget φ 23))) := nrfl rfl
theorem s114_5_9 : stepA E C B 26 r114_5 o114_5_9 (φ, H) = some (fput φ 7 (fget φ 24), H) := nrfl rfl
theorem x114_16 : execA E C (fg 114) B 26 E0 N c114_16 s = blockX 1 (fun s => (forget s.1 [], s.2)) (execA E C (fg 114) B 26 E0 N c114_17 s) := x_block (by rfl) (by rfl) s
noncomputable def c114_18 : Code := kR c114_15
noncomputable def r114_4 : Array Oper := kO c114_18
noncomputable def o114_4_0 : Oper := opN r114_4 0
noncomputable def o114_4_1 : Oper := opN r114_4 1
noncomputable def o114_4_2 : Oper := opN r114_4 2
theorem x114_18 : execA E C (fg 114) B 26 E0 N c114_18 s = regX (runA E C B 26 r114_4 r114_4.toList s) (fun s => gcM E0 [14, 15] (forget s.1 [14, 15], s.2)) := x_reg (ops := r114_4) (by rfl) (by rfl) s
theorem r114_4_l : r114_4.toList = [o114_4_0, o114_4_1, o114_4_2] := nrfl rfl
theorem s114_4_0 : stepA E C B 26 r114_4 o114_4_0 (φ, H) = some (fput φ 14 (fget φ 8), H) := nrfl rfl
theorem s114_4_1 : stepA E C B 26 r114_4 o114_4_1 (φ, H) = stp (some 15) φ H (just (aBin E.T .add 3 (fget φ 14) (.int .i64 1))) := nrfl rfl
theorem s114_4_2 : stepA E C B 26 r114_4 o114_4_2 (φ, H) = some (fput φ 8 (fget φ 15), H) := nrfl rfl
theorem x114_15 : execA E C (fg 114) B 26 E0 N c114_15 s = seqX (execA E C (fg 114) B 26 E0 N c114_16 s) (execA E C (fg 114) B 26 E0 N c114_18) := x_seq (by rfl) s
theorem x114_9 : execA E C (fg 114) B 26 E0 N c114_9 s = seqX (execA E C (fg 114) B 26 E0 N c114_10 s) (execA E C (fg 114) B 26 E0 N c114_15) := x_seq (by rfl) s
theorem x114_8 : execA E C (fg 114) B 26 E0 N c114_8 s = iterA (execA E C (fg 114) B 26 E0 N c114_9) (headA E0) N s := x_loop (by rfl) s
theorem x114_7 : execA E C (fg 114) B 26 E0 N c114_7 s = blockX 0 (fun s => (forget s.1 [0, 2, 8, 13], s.2)) (execA E C (fg 114) B 26 E0 N c114_8 s) := x_block (by rfl) (by rfl) s
theorem x114_5 : execA E C (fg 114) B 26 E0 N c114_5 s = seqX (execA E C (fg 114) B 26 E0 N c114_6 s) (execA E C (fg 114) B 26 E0 N c114_7) := x_seq (by rfl) s
noncomputable def c114_19 : Code := kR c114_4
noncomputable def c114_20 : Code := kL c114_19
noncomputable def r114_6 : Array Oper := kO c114_20
noncomputable def o114_6_0 : Oper := opN r114_6 0
noncomputable def o114_6_1 : Oper := opN r114_6 1
theorem x114_20 : execA E C (fg 114) B 26 E0 N c114_20 s = regX (runA E C B 26 r114_6 r114_6.toList s) (fun s => gcM E0 [7, 25] (forget s.1 [7, 25], s.2)) := x_reg (ops := r114_6) (by rfl) (by rfl) s
theorem r114_6_l : r114_6.toList = [o114_6_0, o114_6_1] := nrfl rfl
theorem s114_6_0 : stepA E C B 26 r114_6 o114_6_0 (φ, H) = some (fput φ 25 (fget φ 7), H) := nrfl rfl
theorem s114_6_1 : stepA E C B 26 r114_6 o114_6_1 (φ, H) = some (fput φ 6 (fget φ 25), H) := nrfl rfl
noncomputable def c114_21 : Code := kR c114_19
theorem x114_21 : execA E C (fg 114) B 26 E0 N c114_21 s = some (.ret, s) := x_ret (by rfl) s
theorem x114_19 : execA E C (fg 114) B 26 E0 N c114_19 s = seqX (execA E C (fg 114) B 26 E0 N c114_20 s) (execA E C (fg 114) B 26 E0 N c114_21) := x_seq (by rfl) s
theorem x114_4 : execA E C (fg 114) B 26 E0 N c114_4 s = seqX (execA E C (fg 114) B 26 E0 N c114_5 s) (execA E C (fg 114) B 26 E0 N c114_19) := x_seq (by rfl) s
theorem x114_2 : execA E C (fg 114) B 26 E0 N c114_2 s = seqX (execA E C (fg 114) B 26 E0 N c114_3 s) (execA E C (fg 114) B 26 E0 N c114_4) := x_seq (by rfl) s
theorem x114_0 : execA E C (fg 114) B 26 E0 N c114_0 s = seqX (execA E C (fg 114) B 26 E0 N c114_1 s) (execA E C (fg 114) B 26 E0 N c114_2) := x_seq (by rfl) s
theorem fi_114 : fInfo E 114 = some ⟨26, #[.tmp 6], c114_0⟩ := nrfl rfl
theorem b_114 (args : List AV) : bodyA E C fg N 114 args H B = bodyX E [.tmp 6] (execA E C (fg 114) B 26 H N c114_0 (frame0 args 0 [], H)) := bodyA_eq fi_114 args H
noncomputable def c115_0 : Code := kBody Proofs.Try.f115
noncomputable def c115_1 : Code := kL c115_0
noncomputable def r115_0 : Array Oper := kO c115_1
noncomputable def o115_0_0 : Oper := opN r115_0 0
noncomputable def o115_0_1 : Oper := opN r115_0 1
theorem x115_1 : execA E C (fg 115) B 15 E0 N c115_1 s = regX (runA E C B 15 r115_0 r115_0.toList s) (fun s => gcM E0 [0, 1, 5] (forget s.1 [0, 1, 5], s.2)) := x_reg (ops := r115_0) (by rfl) (by rfl) s
theorem r115_0_l : r115_0.toList = [o115_0_0, o115_0_1] := nrfl rfl
theorem s115_0_0 : stepA E C B 15 r115_0 o115_0_0 (φ, H) = stp (some 4) φ H (opBox (B + 4) (acells (fget φ 1))) := nrfl rfl
theorem s115_0_1 : stepA E C B 15 r115_0 o115_0_1 (φ, H) = some (fput φ 5 (.int .i64 0), H) := nrfl rfl
noncomputable def c115_2 : Code := kR c115_0
noncomputable def c115_3 : Code := kL c115_2
noncomputable def r115_1 : Array Oper := kO c115_3
noncomputable def o115_1_0 : Oper := opN r115_1 0
noncomputable def o115_1_1 : Oper := opN r115_1 1
noncomputable def o115_1_2 : Oper := opN r115_1 2
noncomputable def o115_1_3 : Oper := opN r115_1 3
noncomputable def o115_1_4 : Oper := opN r115_1 4
noncomputable def o115_1_5 : Oper := opN r115_1 5
noncomputable def o115_1_6 : Oper := opN r115_1 6
noncomputable def o115_1_7 : Oper := opN r115_1 7
noncomputable def o115_1_8 : Oper := opN r115_1 8
noncomputable def o115_1_9 : Oper := opN r115_1 9
theorem x115_3 : execA E C (fg 115) B 15 E0 N c115_3 s = regX (drawA E C B 15 r115_1 s) (fun s => gcM E0 [2, 4, 6, 7, 8, 9, 10, 11, 12, 13, 14] (forget s.1 [2, 4, 6, 7, 8, 9, 10, 11, 12, 13, 14], s.2)) := x_draw (ops := r115_1) (by rfl) (by rfl) s
theorem r115_1_l : r115_1.toList = [o115_1_0, o115_1_1, o115_1_2, o115_1_3, o115_1_4, o115_1_5, o115_1_6, o115_1_7, o115_1_8, o115_1_9] := nrfl rfl
theorem r115_1_st : statOk r115_1 = true := by kernel_rfl
theorem r115_1_dr : drawA E C B 15 r115_1 s = if neat 15 s = true then drX r115_1 (runT E C B 15 r115_1 r115_1.toList 0 s) else none := draw_eq r115_1_st s
theorem r115_1_an (l : List (Nat × Tr)) : dynOk r115_1 l = (!writing l || dynPairs [[], [], [], [1, 2], [0, 1, 2, 3], [], [], [0, 1, 2, 3, 4, 5, 6], [0, 1, 2, 3, 4, 5, 6, 7], [0, 1, 2, 3, 4, 5, 6, 7, 8]] (touching l)) := dynOk_eq (by kernel_rfl) l
theorem s115_1_0 : stepT E C B 15 r115_1 o115_1_0 (φ, H) = stpT (some 6) φ H (just (aLoad E.T 45 (fget φ 4))) := stT_go rfl (goT_R rfl rfl)
theorem s115_1_1 : stepT E C B 15 r115_1 o115_1_1 (φ, H) = stpT (some 7) φ H (just (aLoad E.T 138 (fget φ 2))) := stT_go rfl (goT_R rfl rfl)
theorem s115_1_2 : stepT E C B 15 r115_1 o115_1_2 (φ, H) = stpT (some 8) φ H (just (aLoad E.T 45 (fget φ 4))) := stT_go rfl (goT_R rfl rfl)
theorem s115_1_3 : stepT E C B 15 r115_1 o115_1_3 (φ, H) = callVT E C (B + 15 * 8) (some 9) (fun j => B + j * 15 + 9) φ H (fget φ 7) [(fget φ 8)] true := stT_go rfl (goT_V rfl rfl)
theorem s115_1_4 : stepT E C B 15 r115_1 o115_1_4 (φ, H) = stpT (some 10) φ H (aCall C (fun j => B + j * 15 + 10) true 89 [(fget φ 6), (fget φ 9)]) := stT_go rfl (goT_R rfl rfl)
theorem s115_1_5 : stepT E C B 15 r115_1 o115_1_5 (φ, H) = stpT (some 11) φ H (just (aLoad E.T 138 (fget φ 2))) := stT_go rfl (goT_R rfl rfl)
theorem s115_1_6 : stepT E C B 15 r115_1 o115_1_6 (φ, H) = stpT (some 12) φ H (just (aLoad E.T 45 (fget φ 4))) := stT_go rfl (goT_R rfl rfl)
theorem s115_1_7 : stepT E C B 15 r115_1 o115_1_7 (φ, H) = callVT E C (B + 15 * 8) (some 13) (fun j => B + j * 15 + 13) φ H (fget φ 11) [(fget φ 12)] true := stT_go rfl (goT_V rfl rfl)
theorem s115_1_8 : stepT E C B 15 r115_1 o115_1_8 (φ, H) = stpT (some 14) φ H (just (aBin E.T .mul 3 (fget φ 10) (fget φ 13))) := stT_go rfl (goT_R rfl rfl)
theorem s115_1_9 : stepT E C B 15 r115_1 o115_1_9 (φ, H) = some ((fput φ 5 (fget φ 14), H), ⟨false, [], []⟩) := stT_go rfl (goT_mv rfl rfl)
noncomputable def c115_4 : Code := kR c115_2
theorem x115_4 : execA E C (fg 115) B 15 E0 N c115_4 s = some (.ret, s) := x_ret (by rfl) s
theorem x115_2 : execA E C (fg 115) B 15 E0 N c115_2 s = seqX (execA E C (fg 115) B 15 E0 N c115_3 s) (execA E C (fg 115) B 15 E0 N c115_4) := x_seq (by rfl) s
theorem x115_0 : execA E C (fg 115) B 15 E0 N c115_0 s = seqX (execA E C (fg 115) B 15 E0 N c115_1 s) (execA E C (fg 115) B 15 E0 N c115_2) := x_seq (by rfl) s
theorem fi_115 : fInfo E 115 = some ⟨15, #[.tmp 5], c115_0⟩ := nrfl rfl
theorem b_115 (args : List AV) : bodyA E C fg N 115 args H B = bodyX E [.tmp 5] (execA E C (fg 115) B 15 H N c115_0 (frame0 args 0 [], H)) := bodyA_eq fi_115 args H
noncomputable def c102_0 : Code := kBody Proofs.Try.f102
noncomputable def c102_1 : Code := kL c102_0
noncomputable def r102_0 : Array Oper := kO c102_1
noncomputable def o102_0_0 : Oper := opN r102_0 0
noncomputable def o102_0_1 : Oper := opN r102_0 1
theorem x102_1 : execA E C (fg 102) B 16 E0 N c102_1 s = regX (runA E C B 16 r102_0 r102_0.toList s) (fun s => gcM E0 [0, 5] (forget s.1 [0, 5], s.2)) := x_reg (ops := r102_0) (by rfl) (by rfl) s
theorem r102_0_l : r102_0.toList = [o102_0_0, o102_0_1] := nrfl rfl
theorem s102_0_0 : stepA E C B 16 r102_0 o102_0_0 (φ, H) = stp (some 4) φ H (opBox (B + 4) (acells (fget φ 0))) := nrfl rfl
theorem s102_0_1 : stepA E C B 16 r102_0 o102_0_1 (φ, H) = some (fput φ 5 (.int .i64 0), H) := nrfl rfl
noncomputable def c102_2 : Code := kR c102_0
noncomputable def c102_3 : Code := kL c102_2
noncomputable def c102_4 : Code := kL c102_3
noncomputable def r102_1 : Array Oper := kO c102_4
noncomputable def o102_1_0 : Oper := opN r102_1 0
noncomputable def o102_1_1 : Oper := opN r102_1 1
theorem x102_4 : execA E C (fg 102) B 16 E0 N c102_4 s = regX (runA E C B 16 r102_1 r102_1.toList s) (fun s => gcM E0 [1, 6] (forget s.1 [1, 6], s.2)) := x_reg (ops := r102_1) (by rfl) (by rfl) s
theorem r102_1_l : r102_1.toList = [o102_1_0, o102_1_1] := nrfl rfl
theorem s102_1_0 : stepA E C B 16 r102_1 o102_1_0 (φ, H) = stp (some 6) φ H (just (aLoad E.T 3 (fget φ 1))) := nrfl rfl
theorem s102_1_1 : stepA E C B 16 r102_1 o102_1_1 (φ, H) = stp (some 7) φ H (just (aBin E.T .gtr 3 (fget φ 6) (.int .i64 0))) := nrfl rfl
noncomputable def c102_5 : Code := kR c102_3
noncomputable def c102_6 : Code := kT c102_5
noncomputable def c102_7 : Code := kL c102_6
noncomputable def r102_2 : Array Oper := kO c102_7
noncomputable def o102_2_0 : Oper := opN r102_2 0
noncomputable def o102_2_1 : Oper := opN r102_2 1
noncomputable def o102_2_2 : Oper := opN r102_2 2
noncomputable def o102_2_3 : Oper := opN r102_2 3
noncomputable def o102_2_4 : Oper := opN r102_2 4
theorem x102_7 : execA E C (fg 102) B 16 E0 N c102_7 s = regX (runA E C B 16 r102_2 r102_2.toList s) (fun s => gcM E0 [2, 3, 4, 7, 8, 9, 10, 11] (forget s.1 [2, 3, 4, 7, 8, 9, 10, 11], s.2)) := x_reg (ops := r102_2) (by rfl) (by rfl) s
theorem r102_2_l : r102_2.toList = [o102_2_0, o102_2_1, o102_2_2, o102_2_3, o102_2_4] := nrfl rfl
theorem s102_2_0 : stepA E C B 16 r102_2 o102_2_0 (φ, H) = stp (some 8) φ H (just (aFieldAddr E.T 45 (fget φ 4) 1)) := nrfl rfl
theorem s102_2_1 : stepA E C B 16 r102_2 o102_2_1 (φ, H) = stp (some 9) φ H (just (aLoad E.T 3 (fget φ 8))) := nrfl rfl
theorem s102_2_2 : stepA E C B 16 r102_2 o102_2_2 (φ, H) = stp (some 10) φ H (just (aLoad E.T 3 (fget φ 2))) := nrfl rfl
theorem s102_2_3 : stepA E C B 16 r102_2 o102_2_3 (φ, H) = stp (some 11) φ H (just (aBin E.T .sub 3 (fget φ 9) (fget φ 10))) := nrfl rfl
theorem s102_2_4 : stepA E C B 16 r102_2 o102_2_4 (φ, H) = some (fput φ 5 (fget φ 11), H) := nrfl rfl
noncomputable def c102_8 : Code := kR c102_6
theorem x102_8 : execA E C (fg 102) B 16 E0 N c102_8 s = some (.ret, s) := x_ret (by rfl) s
theorem x102_6 : execA E C (fg 102) B 16 E0 N c102_6 s = seqX (execA E C (fg 102) B 16 E0 N c102_7 s) (execA E C (fg 102) B 16 E0 N c102_8) := x_seq (by rfl) s
noncomputable def c102_9 : Code := kE c102_5
theorem x102_9 : execA E C (fg 102) B 16 E0 N c102_9 s = some (.normal, s) := x_skip (by rfl) s
theorem x102_5 : execA E C (fg 102) B 16 E0 N c102_5 (φ, H) = condX (fget φ 7) (execA E C (fg 102) B 16 E0 N c102_6 (φ, H)) (execA E C (fg 102) B 16 E0 N c102_9 (φ, H)) := x_cond (by rfl) _
theorem x102_3 : execA E C (fg 102) B 16 E0 N c102_3 s = seqX (execA E C (fg 102) B 16 E0 N c102_4 s) (execA E C (fg 102) B 16 E0 N c102_5) := x_seq (by rfl) s
noncomputable def c102_10 : Code := kR c102_2
noncomputable def c102_11 : Code := kL c102_10
noncomputable def r102_3 : Array Oper := kO c102_11
noncomputable def o102_3_0 : Oper := opN r102_3 0
noncomputable def o102_3_1 : Oper := opN r102_3 1
noncomputable def o102_3_2 : Oper := opN r102_3 2
noncomputable def o102_3_3 : Oper := opN r102_3 3
noncomputable def o102_3_4 : Oper := opN r102_3 4
theorem x102_11 : execA E C (fg 102) B 16 E0 N c102_11 s = regX (runA E C B 16 r102_3 r102_3.toList s) (fun s => gcM E0 [2, 3, 4, 7, 12, 13, 14, 15] (forget s.1 [2, 3, 4, 7, 12, 13, 14, 15], s.2)) := x_reg (ops := r102_3) (by rfl) (by rfl) s
theorem r102_3_l : r102_3.toList = [o102_3_0, o102_3_1, o102_3_2, o102_3_3, o102_3_4] := nrfl rfl
theorem s102_3_0 : stepA E C B 16 r102_3 o102_3_0 (φ, H) = stp (some 12) φ H (just (aLoad E.T 3 (fget φ 3))) := nrfl rfl
theorem s102_3_1 : stepA E C B 16 r102_3 o102_3_1 (φ, H) = stp (some 13) φ H (just (aFieldAddr E.T 45 (fget φ 4) 1)) := nrfl rfl
theorem s102_3_2 : stepA E C B 16 r102_3 o102_3_2 (φ, H) = stp (some 14) φ H (just (aLoad E.T 3 (fget φ 13))) := nrfl rfl
theorem s102_3_3 : stepA E C B 16 r102_3 o102_3_3 (φ, H) = stp (some 15) φ H (just (aBin E.T .sub 3 (fget φ 12) (fget φ 14))) := nrfl rfl
theorem s102_3_4 : stepA E C B 16 r102_3 o102_3_4 (φ, H) = some (fput φ 5 (fget φ 15), H) := nrfl rfl
noncomputable def c102_12 : Code := kR c102_10
theorem x102_12 : execA E C (fg 102) B 16 E0 N c102_12 s = some (.ret, s) := x_ret (by rfl) s
theorem x102_10 : execA E C (fg 102) B 16 E0 N c102_10 s = seqX (execA E C (fg 102) B 16 E0 N c102_11 s) (execA E C (fg 102) B 16 E0 N c102_12) := x_seq (by rfl) s
theorem x102_2 : execA E C (fg 102) B 16 E0 N c102_2 s = seqX (execA E C (fg 102) B 16 E0 N c102_3 s) (execA E C (fg 102) B 16 E0 N c102_10) := x_seq (by rfl) s
theorem x102_0 : execA E C (fg 102) B 16 E0 N c102_0 s = seqX (execA E C (fg 102) B 16 E0 N c102_1 s) (execA E C (fg 102) B 16 E0 N c102_2) := x_seq (by rfl) s
theorem fi_102 : fInfo E 102 = some ⟨16, #[.tmp 5], c102_0⟩ := nrfl rfl
theorem b_102 (args : List AV) : bodyA E C fg N 102 args H B = bodyX E [.tmp 5] (execA E C (fg 102) B 16 H N c102_0 (frame0 args 0 [], H)) := bodyA_eq fi_102 args H
noncomputable def c101_0 : Code := kBody Proofs.Try.f101
noncomputable def c101_1 : Code := kL c101_0
noncomputable def r101_0 : Array Oper := kO c101_1
noncomputable def o101_0_0 : Oper := opN r101_0 0
noncomputable def o101_0_1 : Oper := opN r101_0 1
theorem x101_1 : execA E C (fg 101) B 24 E0 N c101_1 s = regX (runA E C B 24 r101_0 r101_0.toList s) (fun s => gcM E0 [4, 5] (forget s.1 [4, 5], s.2)) := x_reg (ops := r101_0) (by rfl) (by rfl) s
theorem r101_0_l : r101_0.toList = [o101_0_0, o101_0_1] := nrfl rfl
theorem s101_0_0 : stepA E C B 24 r101_0 o101_0_0 (φ, H) = some (fput φ 4 (.int .i64 0), H) := nrfl rfl
theorem s101_0_1 : stepA E C B 24 r101_0 o101_0_1 (φ, H) = some (fput φ 5 (.int .i64 0), H) := nrfl rfl
noncomputable def c101_2 : Code := kR c101_0
noncomputable def c101_3 : Code := kL c101_2
noncomputable def c101_4 : Code := kL c101_3
noncomputable def r101_1 : Array Oper := kO c101_4
noncomputable def o101_1_0 : Oper := opN r101_1 0
noncomputable def o101_1_1 : Oper := opN r101_1 1
theorem x101_4 : execA E C (fg 101) B 24 E0 N c101_4 s = regX (runA E C B 24 r101_1 r101_1.toList s) (fun s => gcM E0 [7] (forget s.1 [7], s.2)) := x_reg (ops := r101_1) (by rfl) (by rfl) s
theorem r101_1_l : r101_1.toList = [o101_1_0, o101_1_1] := nrfl rfl
theorem s101_1_0 : stepA E C B 24 r101_1 o101_1_0 (φ, H) = some (fput φ 7 (fget φ 1), H) := nrfl rfl
theorem s101_1_1 : stepA E C B 24 r101_1 o101_1_1 (φ, H) = stp (some 8) φ H (just (aBin E.T .eql 3 (fget φ 7) (.int .i64 0))) := nrfl rfl
noncomputable def c101_5 : Code := kR c101_3
noncomputable def c101_6 : Code := kT c101_5
noncomputable def c101_7 : Code := kL c101_6
noncomputable def r101_2 : Array Oper := kO c101_7
noncomputable def o101_2_0 : Oper := opN r101_2 0
noncomputable def o101_2_1 : Oper := opN r101_2 1
theorem x101_7 : execA E C (fg 101) B 24 E0 N c101_7 s = regX (runA E C B 24 r101_2 r101_2.toList s) (fun s => gcM E0 [0, 1, 8] (forget s.1 [0, 1, 8], s.2)) := x_reg (ops := r101_2) (by rfl) (by rfl) s
theorem r101_2_l : r101_2.toList = [o101_2_0, o101_2_1] := nrfl rfl
theorem s101_2_0 : stepA E C B 24 r101_2 o101_2_0 (φ, H) = some (fput φ 4 (.int .i64 (-268435456)), H) := nrfl rfl
theorem s101_2_1 : stepA E C B 24 r101_2 o101_2_1 (φ, H) = some (fput φ 5 (.int .i64 0), H) := nrfl rfl
noncomputable def c101_8 : Code := kR c101_6
theorem x101_8 : execA E C (fg 101) B 24 E0 N c101_8 s = some (.ret, s) := x_ret (by rfl) s
theorem x101_6 : execA E C (fg 101) B 24 E0 N c101_6 s = seqX (execA E C (fg 101) B 24 E0 N c101_7 s) (execA E C (fg 101) B 24 E0 N c101_8) := x_seq (by rfl) s
noncomputable def c101_9 : Code := kE c101_5
theorem x101_9 : execA E C (fg 101) B 24 E0 N c101_9 s = some (.normal, s) := x_skip (by rfl) s
theorem x101_5 : execA E C (fg 101) B 24 E0 N c101_5 (φ, H) = condX (fget φ 8) (execA E C (fg 101) B 24 E0 N c101_6 (φ, H)) (execA E C (fg 101) B 24 E0 N c101_9 (φ, H)) := x_cond (by rfl) _
theorem x101_3 : execA E C (fg 101) B 24 E0 N c101_3 s = seqX (execA E C (fg 101) B 24 E0 N c101_4 s) (execA E C (fg 101) B 24 E0 N c101_5) := x_seq (by rfl) s
noncomputable def c101_10 : Code := kR c101_2
noncomputable def c101_11 : Code := kL c101_10
noncomputable def r101_3 : Array Oper := kO c101_11
noncomputable def o101_3_0 : Oper := opN r101_3 0
noncomputable def o101_3_1 : Oper := opN r101_3 1
noncomputable def o101_3_2 : Oper := opN r101_3 2
noncomputable def o101_3_3 : Oper := opN r101_3 3
noncomputable def o101_3_4 : Oper := opN r101_3 4
noncomputable def o101_3_5 : Oper := opN r101_3 5
noncomputable def o101_3_6 : Oper := opN r101_3 6
theorem x101_11 : execA E C (fg 101) B 24 E0 N c101_11 s = regX (runA E C B 24 r101_3 r101_3.toList s) (fun s => gcM E0 [0, 1, 8, 9, 10, 11, 12, 13] (forget s.1 [0, 1, 8, 9, 10, 11, 12, 13], s.2)) := x_reg (ops := r101_3) (by rfl) (by rfl) s
theorem r101_3_l : r101_3.toList = [o101_3_0, o101_3_1, o101_3_2, o101_3_3, o101_3_4, o101_3_5, o101_3_6] := nrfl rfl
theorem s101_3_0 : stepA E C B 24 r101_3 o101_3_0 (φ, H) = some (fput φ 9 (fget φ 0), H) := nrfl rfl
theorem s101_3_1 : stepA E C B 24 r101_3 o101_3_1 (φ, H) = some (fput φ 10 (fget φ 1), H) := nrfl rfl
theorem s101_3_2 : stepA E C B 24 r101_3 o101_3_2 (φ, H) = stp (some 11) φ H (just (aBin E.T .sub 3 (fget φ 10) (.int .i64 1))) := nrfl rfl
theorem s101_3_3 : stepA E C B 24 r101_3 o101_3_3 (φ, H) = stp (some 12) φ H (just (aIndexAddr E.T 22 (fget φ 9) (fget φ 11))) := nrfl rfl
theorem s101_3_4 : stepA E C B 24 r101_3 o101_3_4 (φ, H) = stp (some 13) φ H (just (aLoad E.T 45 (fget φ 12))) := nrfl rfl
theorem s101_3_5 : stepA E C B 24 r101_3 o101_3_5 (φ, H) = stp (some 6) φ H (opBox (B + 6) (zeroCells E.T 45)) := nrfl rfl
theorem s101_3_6 : stepA E C B 24 r101_3 o101_3_6 (φ, H) = stp none φ H (opStore E.T 45 (fget φ 6) (fget φ 13)) := nrfl rfl
noncomputable def c101_12 : Code := kR c101_10
noncomputable def c101_13 : Code := kL c101_12
noncomputable def r101_4 : Array Oper := kO c101_13
noncomputable def o101_4_0 : Oper := opN r101_4 0
noncomputable def o101_4_1 : Oper := opN r101_4 1
noncomputable def o101_4_2 : Oper := opN r101_4 2
noncomputable def o101_4_3 : Oper := opN r101_4 3
noncomputable def o101_4_4 : Oper := opN r101_4 4
noncomputable def o101_4_5 : Oper := opN r101_4 5
noncomputable def o101_4_6 : Oper := opN r101_4 6
noncomputable def o101_4_7 : Oper := opN r101_4 7
noncomputable def o101_4_8 : Oper := opN r101_4 8
noncomputable def o101_4_9 : Oper := opN r101_4 9
noncomputable def o101_4_10 : Oper := opN r101_4 10
noncomputable def o101_4_11 : Oper := opN r101_4 11
theorem x101_13 : execA E C (fg 101) B 24 E0 N c101_13 s = regX (drawA E C B 24 r101_4 s) (fun s => gcM E0 [6, 14, 15, 16, 17, 18, 19, 20, 21, 22, 23] (forget s.1 [6, 14, 15, 16, 17, 18, 19, 20, 21, 22, 23], s.2)) := x_draw (ops := r101_4) (by rfl) (by rfl) s
theorem r101_4_l : r101_4.toList = [o101_4_0, o101_4_1, o101_4_2, o101_4_3, o101_4_4, o101_4_5, o101_4_6, o101_4_7, o101_4_8, o101_4_9, o101_4_10, o101_4_11] := nrfl rfl
theorem r101_4_st : statOk r101_4 = true := by kernel_rfl
theorem r101_4_dr : drawA E C B 24 r101_4 s = if neat 24 s = true then drX r101_4 (runT E C B 24 r101_4 r101_4.toList 0 s) else none := draw_eq r101_4_st s
theorem r101_4_an (l : List (Nat × Tr)) : dynOk r101_4 l = (!writing l || dynPairs [[], [0], [], [2], [0, 1, 2, 3], [], [5], [], [7], [5, 6, 7, 8], [0, 1, 2, 3, 4], [0, 1, 2, 3, 4, 5, 6, 7, 8, 9, 10]] (touching l)) := dynOk_eq (by kernel_rfl) l
theorem s101_4_0 : stepT E C B 24 r101_4 o101_4_0 (φ, H) = stpT (some 14) φ H (just (aFieldAddr E.T 45 (fget φ 6) 1)) := stT_go rfl (goT_R rfl rfl)
theorem s101_4_1 : stepT E C B 24 r101_4 o101_4_1 (φ, H) = stpT (some 15) φ H (just (aLoad E.T 3 (fget φ 14))) := stT_go rfl (goT_R rfl rfl)
theorem s101_4_2 : stepT E C B 24 r101_4 o101_4_2 (φ, H) = stpT (some 16) φ H (just (aFieldAddr E.T 45 (fget φ 6) 0)) := stT_go rfl (goT_R rfl rfl)
theorem s101_4_3 : stepT E C B 24 r101_4 o101_4_3 (φ, H) = stpT (some 17) φ H (just (aLoad E.T 3 (fget φ 16))) := stT_go rfl (goT_R rfl rfl)
theorem s101_4_4 : stepT E C B 24 r101_4 o101_4_4 (φ, H) = stpT (some 18) φ H (just (aBin E.T .sub 3 (fget φ 15) (fget φ 17))) := stT_go rfl (goT_R rfl rfl)
theorem s101_4_5 : stepT E C B 24 r101_4 o101_4_5 (φ, H) = stpT (some 19) φ H (just (aFieldAddr E.T 45 (fget φ 6) 1)) := stT_go rfl (goT_R rfl rfl)
theorem s101_4_6 : stepT E C B 24 r101_4 o101_4_6 (φ, H) = stpT (some 20) φ H (just (aLoad E.T 3 (fget φ 19))) := stT_go rfl (goT_R rfl rfl)
theorem s101_4_7 : stepT E C B 24 r101_4 o101_4_7 (φ, H) = stpT (some 21) φ H (just (aFieldAddr E.T 45 (fget φ 6) 0)) := stT_go rfl (goT_R rfl rfl)
theorem s101_4_8 : stepT E C B 24 r101_4 o101_4_8 (φ, H) = stpT (some 22) φ H (just (aLoad E.T 3 (fget φ 21))) := stT_go rfl (goT_R rfl rfl)
theorem s101_4_9 : stepT E C B 24 r101_4 o101_4_9 (φ, H) = stpT (some 23) φ H (just (aBin E.T .add 3 (fget φ 20) (fget φ 22))) := stT_go rfl (goT_R rfl rfl)
theorem s101_4_10 : stepT E C B 24 r101_4 o101_4_10 (φ, H) = some ((fput φ 4 (fget φ 18), H), ⟨false, [], []⟩) := stT_go rfl (goT_mv rfl rfl)
theorem s101_4_11 : stepT E C B 24 r101_4 o101_4_11 (φ, H) = some ((fput φ 5 (fget φ 23), H), ⟨false, [], []⟩) := stT_go rfl (goT_mv rfl rfl)
noncomputable def c101_14 : Code := kR c101_12
theorem x101_14 : execA E C (fg 101) B 24 E0 N c101_14 s = some (.ret, s) := x_ret (by rfl) s
theorem x101_12 : execA E C (fg 101) B 24 E0 N c101_12 s = seqX (execA E C (fg 101) B 24 E0 N c101_13 s) (execA E C (fg 101) B 24 E0 N c101_14) := x_seq (by rfl) s
theorem x101_10 : execA E C (fg 101) B 24 E0 N c101_10 s = seqX (execA E C (fg 101) B 24 E0 N c101_11 s) (execA E C (fg 101) B 24 E0 N c101_12) := x_seq (by rfl) s
theorem x101_2 : execA E C (fg 101) B 24 E0 N c101_2 s = seqX (execA E C (fg 101) B 24 E0 N c101_3 s) (execA E C (fg 101) B 24 E0 N c101_10) := x_seq (by rfl) s
theorem x101_0 : execA E C (fg 101) B 24 E0 N c101_0 s = seqX (execA E C (fg 101) B 24 E0 N c101_1 s) (execA E C (fg 101) B 24 E0 N c101_2) := x_seq (by rfl) s
theorem fi_101 : fInfo E 101 = some ⟨24, #[.tmp 4, .tmp 5], c101_0⟩ := nrfl rfl
theorem b_101 (args : List AV) : bodyA E C fg N 101 args H B = bodyX E [.tmp 4, .tmp 5] (execA E C (fg 101) B 24 H N c101_0 (frame0 args 0 [], H)) := bodyA_eq fi_101 args H
noncomputable def c88_0 : Code := kBody Proofs.Try.f88
noncomputable def c88_1 : Code := kL c88_0
noncomputable def r88_0 : Array Oper := kO c88_1
noncomputable def o88_0_0 : Oper := opN r88_0 0
noncomputable def o88_0_1 : Oper := opN r88_0 1
theorem x88_1 : execA E C (fg 88) B 16 E0 N c88_1 s = regX (runA E C B 16 r88_0 r88_0.toList s) (fun s => gcM E0 [2, 6] (forget s.1 [2, 6], s.2)) := x_reg (ops := r88_0) (by rfl) (by rfl) s
theorem r88_0_l : r88_0.toList = [o88_0_0, o88_0_1] := nrfl rfl
theorem s88_0_0 : stepA E C B 16 r88_0 o88_0_0 (φ, H) = stp (some 5) φ H (opBox (B + 5) (acells (fget φ 2))) := nrfl rfl
theorem s88_0_1 : stepA E C B 16 r88_0 o88_0_1 (φ, H) = some (fput φ 6 (.nilfunc), H) := nrfl rfl
noncomputable def c88_2 : Code := kR c88_0
noncomputable def c88_3 : Code := kL c88_2
noncomputable def r88_1 : Array Oper := kO c88_3
noncomputable def o88_1_0 : Oper := opN r88_1 0
noncomputable def o88_1_1 : Oper := opN r88_1 1
noncomputable def o88_1_2 : Oper := opN r88_1 2
noncomputable def o88_1_3 : Oper := opN r88_1 3
noncomputable def o88_1_4 : Oper := opN r88_1 4
noncomputable def o88_1_5 : Oper := opN r88_1 5
noncomputable def o88_1_6 : Oper := opN r88_1 6
noncomputable def o88_1_7 : Oper := opN r88_1 7
noncomputable def o88_1_8 : Oper := opN r88_1 8
noncomputable def o88_1_9 : Oper := opN r88_1 9
theorem x88_3 : execA E C (fg 88) B 16 E0 N c88_3 s = regX (runA E C B 16 r88_1 r88_1.toList s) (fun s => gcM E0 [0, 1, 9, 10, 11, 12, 13, 14] (forget s.1 [0, 1, 9, 10, 11, 12, 13, 14], s.2)) := x_reg (ops := r88_1) (by rfl) (by rfl) s
theorem r88_1_l : r88_1.toList = [o88_1_0, o88_1_1, o88_1_2, o88_1_3, o88_1_4, o88_1_5, o88_1_6, o88_1_7, o88_1_8, o88_1_9] := nrfl rfl
theorem s88_1_0 : stepA E C B 16 r88_1 o88_1_0 (φ, H) = some (fput φ 10 (fget φ 0), H) := nrfl rfl
theorem s88_1_1 : stepA E C B 16 r88_1 o88_1_1 (φ, H) = some (fput φ 11 (fget φ 1), H) := nrfl rfl
theorem s88_1_2 : stepA E C B 16 r88_1 o88_1_2 (φ, H) = stp (some 12) φ H (aCall C (fun j => B + j * 16 + 12) true 101 [(fget φ 10), (fget φ 11)]) := nrfl rfl
theorem s88_1_3 : stepA E C B 16 r88_1 o88_1_3 (φ, H) = some (fput φ 9 (fget φ 12), H) := nrfl rfl
theorem s88_1_4 : stepA E C B 16 r88_1 o88_1_4 (φ, H) = stp (some 13) φ H (opExtract (fget φ 9) 0) := nrfl rfl
theorem s88_1_5 : stepA E C B 16 r88_1 o88_1_5 (φ, H) = stp (some 14) φ H (opExtract (fget φ 9) 1) := nrfl rfl
theorem s88_1_6 : stepA E C B 16 r88_1 o88_1_6 (φ, H) = stp (some 7) φ H (opBox (B + 7) (zeroCells E.T 3)) := nrfl rfl
theorem s88_1_7 : stepA E C B 16 r88_1 o88_1_7 (φ, H) = stp (some 8) φ H (opBox (B + 8) (zeroCells E.T 3)) := nrfl rfl
theorem s88_1_8 : stepA E C B 16 r88_1 o88_1_8 (φ, H) = stp none φ H (opStore E.T 3 (fget φ 7) (fget φ 13)) := nrfl rfl
theorem s88_1_9 : stepA E C B 16 r88_1 o88_1_9 (φ, H) = stp none φ H (opStore E.T 3 (fget φ 8) (fget φ 14)) := nrfl rfl
noncomputable def c88_4 : Code := kR c88_2
noncomputable def c88_5 : Code := kL c88_4
noncomputable def r88_2 : Array Oper := kO c88_5
noncomputable def o88_2_0 : Oper := opN r88_2 0
noncomputable def o88_2_1 : Oper := opN r88_2 1
theorem x88_5 : execA E C (fg 88) B 16 E0 N c88_5 s = regX (runA E C B 16 r88_2 r88_2.toList s) (fun s => gcM E0 [5, 7, 8, 15] (forget s.1 [5, 7, 8, 15], s.2)) := x_reg (ops := r88_2) (by rfl) (by rfl) s
theorem r88_2_l : r88_2.toList = [o88_2_0, o88_2_1] := nrfl rfl
theorem s88_2_0 : stepA E C B 16 r88_2 o88_2_0 (φ, H) = stp (some 15) φ H (.pure (.clo 102 [(fget φ 5), (fget φ 8), (fget φ 7)], [])) := nrfl rfl
theorem s88_2_1 : stepA E C B 16 r88_2 o88_2_1 (φ, H) = some (fput φ 6 (fget φ 15), H) := nrfl rfl
noncomputable def c88_6 : Code := kR c88_4
theorem x88_6 : execA E C (fg 88) B 16 E0 N c88_6 s = some (.ret, s) := x_ret (by rfl) s
theorem x88_4 : execA E C (fg 88) B 16 E0 N c88_4 s = seqX (execA E C (fg 88) B 16 E0 N c88_5 s) (execA E C (fg 88) B 16 E0 N c88_6) := x_seq (by rfl) s
theorem x88_2 : execA E C (fg 88) B 16 E0 N c88_2 s = seqX (execA E C (fg 88) B 16 E0 N c88_3 s) (execA E C (fg 88) B 16 E0 N c88_4) := x_seq (by rfl) s
theorem x88_0 : execA E C (fg 88) B 16 E0 N c88_0 s = seqX (execA E C (fg 88) B 16 E0 N c88_1 s) (execA E C (fg 88) B 16 E0 N c88_2) := x_seq (by rfl) s
theorem fi_88 : fInfo E 88 = some ⟨16, #[.tmp 6], c88_0⟩ := nrfl rfl
theorem b_88 (args : List AV) : bodyA E C fg N 88 args H B = bodyX E [.tmp 6] (execA E C (fg 88) B 16 H N c88_0 (frame0 args 0 [], H)) := bodyA_eq fi_88 args H
noncomputable def c96_0 : Code := kBody Proofs.Try.f96
noncomputable def c96_1 : Code := kL c96_0
noncomputable def r96_0 : Array Oper := kO c96_1
noncomputable def o96_0_0 : Oper := opN r96_0 0
theorem x96_1 : execA E C (fg 96) B 17 E0 N c96_1 s = regX (runA E C B 17 r96_0 r96_0.toList s) (fun s => gcM E0 [6] (forget s.1 [6], s.2)) := x_reg (ops := r96_0) (by rfl) (by rfl) s
theorem r96_0_l : r96_0.toList = [o96_0_0] := nrfl rfl
theorem s96_0_0 : stepA E C B 17 r96_0 o96_0_0 (φ, H) = some (fput φ 6 (.bool false), H) := nrfl rfl
noncomputable def c96_2 : Code := kR c96_0
noncomputable def c96_3 : Code := kL c96_2
noncomputable def r96_1 : Array Oper := kO c96_3
noncomputable def o96_1_0 : Oper := opN r96_1 0
noncomputable def o96_1_1 : Oper := opN r96_1 1
noncomputable def o96_1_2 : Oper := opN r96_1 2
noncomputable def o96_1_3 : Oper := opN r96_1 3
noncomputable def o96_1_4 : Oper := opN r96_1 4
noncomputable def o96_1_5 : Oper := opN r96_1 5
theorem x96_3 : execA E C (fg 96) B 17 E0 N c96_3 s = regX (runA E C B 17 r96_1 r96_1.toList s) (fun s => gcM E0 [2, 8, 9, 10, 11] (forget s.1 [2, 8, 9, 10, 11], s.2)) := x_reg (ops := r96_1) (by rfl) (by rfl) s
theorem r96_1_l : r96_1.toList = [o96_1_0, o96_1_1, o96_1_2, o96_1_3, o96_1_4, o96_1_5] := nrfl rfl
theorem s96_1_0 : stepA E C B 17 r96_1 o96_1_0 (φ, H) = some (fput φ 8 (fget φ 0), H) := nrfl rfl
theorem s96_1_1 : stepA E C B 17 r96_1 o96_1_1 (φ, H) = some (fput φ 9 (fget φ 1), H) := nrfl rfl
theorem s96_1_2 : stepA E C B 17 r96_1 o96_1_2 (φ, H) = some (fput φ 10 (fget φ 2), H) := nrfl rfl
theorem s96_1_3 : stepA E C B 17 r96_1 o96_1_3 (φ, H) = stp (some 11) φ H (aCall C (fun j => B + j * 17 + 11) true 88 [(fget φ 8), (fget φ 9), (fget φ 10)]) := nrfl rfl
theorem s96_1_4 : stepA E C B 17 r96_1 o96_1_4 (φ, H) = stp (some 7) φ H (opBox (B + 7) (zeroCells E.T 138)) := nrfl rfl
theorem s96_1_5 : stepA E C B 17 r96_1 o96_1_5 (φ, H) = stp none φ H (opStore E.T 138 (fget φ 7) (fget φ 11)) := nrfl rfl
noncomputable def c96_4 : Code := kR c96_2
noncomputable def c96_5 : Code := kL c96_4
noncomputable def r96_2 : Array Oper := kO c96_5
noncomputable def o96_2_0 : Oper := opN r96_2 0
noncomputable def o96_2_1 : Oper := opN r96_2 1
noncomputable def o96_2_2 : Oper := opN r96_2 2
noncomputable def o96_2_3 : Oper := opN r96_2 3
noncomputable def o96_2_4 : Oper := opN r96_2 4
noncomputable def o96_2_5 : Oper := opN r96_2 5
theorem x96_5 : execA E C (fg 96) B 17 E0 N c96_5 s = regX (runA E C B 17 r96_2 r96_2.toList s) (fun s => gcM E0 [0, 1, 7, 12, 13, 14, 15, 16] (forget s.1 [0, 1, 7, 12, 13, 14, 15, 16], s.2)) := x_reg (ops := r96_2) (by rfl) (by rfl) s
theorem r96_2_l : r96_2.toList = [o96_2_0, o96_2_1, o96_2_2, o96_2_3, o96_2_4, o96_2_5] := nrfl rfl
theorem s96_2_0 : stepA E C B 17 r96_2 o96_2_0 (φ, H) = some (fput φ 12 (fget φ 0), H) := nrfl rfl
theorem s96_2_1 : stepA E C B 17 r96_2 o96_2_1 (φ, H) = some (fput φ 13 (fget φ 1), H) := nrfl rfl
theorem s96_2_2 : stepA E C B 17 r96_2 o96_2_2 (φ, H) = stp (some 14) φ H (.pure (.clo 115 [(fget φ 7)], [])) := nrfl rfl
theorem s96_2_3 : stepA E C B 17 r96_2 o96_2_3 (φ, H) = stp (some 15) φ H (aCall C (fun j => B + j * 17 + 15) true 114 [(fget φ 12), (fget φ 13), (fget φ 14)]) := nrfl rfl
theorem s96_2_4 : stepA E C B 17 r96_2 o96_2_4 (φ, H) = stp (some 16) φ H (just (aBin E.T .gtr 3 (fget φ 15) (.int .i64 0))) := nrfl rfl
theorem s96_2_5 : stepA E C B 17 r96_2 o96_2_5 (φ, H) = some (fput φ 6 (fget φ 16), H) := nrfl rfl
noncomputable def c96_6 : Code := kR c96_4
theorem x96_6 : execA E C (fg 96) B 17 E0 N c96_6 s = some (.ret, s) := x_ret (by rfl) s
theorem x96_4 : execA E C (fg 96) B 17 E0 N c96_4 s = seqX (execA E C (fg 96) B 17 E0 N c96_5 s) (execA E C (fg 96) B 17 E0 N c96_6) := x_seq (by rfl) s
theorem x96_2 : execA E C (fg 96) B 17 E0 N c96_2 s = seqX (execA E C (fg 96) B 17 E0 N c96_3 s) (execA E C (fg 96) B 17 E0 N c96_4) := x_seq (by rfl) s
theorem x96_0 : execA E C (fg 96) B 17 E0 N c96_0 s = seqX (execA E C (fg 96) B 17 E0 N c96_1 s) (execA E C (fg 96) B 17 E0 N c96_2) := x_seq (by rfl) s
theorem fi_96 : fInfo E 96 = some ⟨17, #[.tmp 6], c96_0⟩ := nrfl rfl
theorem b_96 (args : List AV) : bodyA E C fg N 96 args H B = bodyX E [.tmp 6] (execA E C (fg 96) B 17 H N c96_0 (frame0 args 0 [], H)) := bodyA_eq fi_96 args H
noncomputable def c64_0 : Code := kBody Proofs.Try.f64
noncomputable def c64_1 : Code := kL c64_0
noncomputable def r64_0 : Array Oper := kO c64_1
noncomputable def o64_0_0 : Oper := opN r64_0 0
theorem x64_1 : execA E C (fg 64) B 19 E0 N c64_1 s = regX (runA E C B 19 r64_0 r64_0.toList s) (fun s => gcM E0 [2] (forget s.1 [2], s.2)) := x_reg (ops := r64_0) (by rfl) (by rfl) s
theorem r64_0_l : r64_0.toList = [o64_0_0] := nrfl rfl
theorem s64_0_0 : stepA E C B 19 r64_0 o64_0_0 (φ, H) = some (fput φ 2 (.int .i64 0), H) := nrfl rfl
noncomputable def c64_2 : Code := kR c64_0
noncomputable def c64_3 : Code := kL c64_2
noncomputable def c64_4 : Code := kL c64_3
noncomputable def r64_1 : Array Oper := kO c64_4
noncomputable def o64_1_0 : Oper := opN r64_1 0
noncomputable def o64_1_1 : Oper := opN r64_1 1
noncomputable def o64_1_2 : Oper := opN r64_1 2
theorem x64_4 : execA E C (fg 64) B 19 E0 N c64_4 s = regX (runA E C B 19 r64_1 r64_1.toList s) (fun s => gcM E0 [4] (forget s.1 [4], s.2)) := x_reg (ops := r64_1) (by rfl) (by rfl) s
theorem r64_1_l : r64_1.toList = [o64_1_0, o64_1_1, o64_1_2] := nrfl rfl
theorem s64_1_0 : stepA E C B 19 r64_1 o64_1_0 (φ, H) = some (fput φ 4 (fget φ 0), H) := nrfl rfl
theorem s64_1_1 : stepA E C B 19 r64_1 o64_1_1 (φ, H) = stp (some 5) φ H (aBuiltin E.T (B + 5) .len #[22] [(fget φ 4)]) := nrfl rfl
theorem s64_1_2 : stepA E C B 19 r64_1 o64_1_2 (φ, H) = some (fput φ 6 (.int .i64 0), H) := nrfl rfl
noncomputable def c64_5 : Code := kR c64_3
noncomputable def c64_6 : Code := kB c64_5
noncomputable def c64_7 : Code := kB c64_6
noncomputable def c64_8 : Code := kL c64_7
noncomputable def r64_2 : Array Oper := kO c64_8
noncomputable def o64_2_0 : Oper := opN r64_2 0
theorem x64_8 : execA E C (fg 64) B 19 E0 N c64_8 s = regX (runA E C B 19 r64_2 r64_2.toList s) (fun s => gcM E0 [] (forget s.1 [], s.2)) := x_reg (ops := r64_2) (by rfl) (by rfl) s
theorem r64_2_l : r64_2.toList = [o64_2_0] := nrfl rfl
theorem s64_2_0 : stepA E C B 19 r64_2 o64_2_0 (φ, H) = stp (some 7) φ H (just (aBin E.T .lss 3 (fget φ 6) (fget φ 5))) := nrfl rfl
noncomputable def c64_9 : Code := kR c64_7
noncomputable def c64_10 : Code := kL c64_9
noncomputable def c64_11 : Code := kT c64_10
theorem x64_11 : execA E C (fg 64) B 19 E0 N c64_11 s = some (.normal, s) := x_skip (by rfl) s
noncomputable def c64_12 : Code := kE c64_10
theorem x64_12 : execA E C (fg 64) B 19 E0 N c64_12 s = some (.exit 0, s) := x_exit (by rfl) s
theorem x64_10 : execA E C (fg 64) B 19 E0 N c64_10 (φ, H) = condX (fget φ 7) (execA E C (fg 64) B 19 E0 N c64_11 (φ, H)) (execA E C (fg 64) B 19 E0 N c64_12 (φ, H)) := x_cond (by rfl) _
noncomputable def c64_13 : Code := kR c64_9
noncomputable def c64_14 : Code := kL c64_13
noncomputable def c64_15 : Code := kB c64_14
noncomputable def c64_16 : Code := kL c64_15
noncomputable def r64_3 : Array Oper := kO c64_16
noncomputable def o64_3_0 : Oper := opN r64_3 0
noncomputable def o64_3_1 : Oper := opN r64_3 1
theorem x64_16 : execA E C (fg 64) B 19 E0 N c64_16 s = regX (runA E C B 19 r64_3 r64_3.toList s) (fun s => gcM E0 [7, 8] (forget s.1 [7, 8], s.2)) := x_reg (ops := r64_3) (by rfl) (by rfl) s
theorem r64_3_l : r64_3.toList = [o64_3_0, o64_3_1] := nrfl rfl
theorem s64_3_0 : stepA E C B 19 r64_3 o64_3_0 (φ, H) = some (fput φ 8 (fget φ 6), H) := nrfl rfl
theorem s64_3_1 : stepA E C B 19 r64_3 o64_3_1 (φ, H) = some (fput φ 3 (fget φ 8), H) := nrfl rfl
noncomputable def c64_17 : Code := kR c64_15
noncomputable def c64_18 : Code := kL c64_17
noncomputable def r64_4 : Array Oper := kO c64_18
noncomputable def o64_4_0 : Oper := opN r64_4 0
noncomputable def o64_4_1 : Oper := opN r64_4 1
noncomputable def o64_4_2 : Oper := opN r64_4 2
noncomputable def o64_4_3 : Oper := opN r64_4 3
noncomputable def o64_4_4 : Oper := opN r64_4 4
noncomputable def o64_4_5 : Oper := opN r64_4 5
noncomputable def o64_4_6 : Oper := opN r64_4 6
noncomputable def o64_4_7 : Oper := opN r64_4 7
theorem x64_18 : execA E C (fg 64) B 19 E0 N c64_18 s = regX (runA E C B 19 r64_4 r64_4.toList s) (fun s => gcM E0 [9, 10, 11, 12, 13, 14, 15] (forget s.1 [9, 10, 11, 12, 13, 14, 15], s.2)) := x_reg (ops := r64_4) (by rfl) (by rfl) s
theorem r64_4_l : r64_4.toList = [o64_4_0, o64_4_1, o64_4_2, o64_4_3, o64_4_4, o64_4_5, o64_4_6, o64_4_7] := nrfl rfl
theorem s64_4_0 : stepA E C B 19 r64_4 o64_4_0 (φ, H) = some (fput φ 9 (fget φ 0), H) := nrfl rfl
theorem s64_4_1 : stepA E C B 19 r64_4 o64_4_1 (φ, H) = some (fput φ 10 (fget φ 3), H) := nrfl rfl
theorem s64_4_2 : stepA E C B 19 r64_4 o64_4_2 (φ, H) = stp (some 11) φ H (aCall C (fun j => B + j * 19 + 11) true 96 [(fget φ 9), (fget φ 10), (.int .i64 1)]) := nrfl rfl
theorem s64_4_3 : stepA E C B 19 r64_4 o64_4_3 (φ, H) = some (fput φ 12 (fget φ 11), H) := nrfl rfl
theorem s64_4_4 : stepA E C B 19 r64_4 o64_4_4 (φ, H) = gd φ 12 false (fun φ => some (fput φ 13 (.tup []), H)) (fun φ => some (fput φ 13 (fget φ 0), H)) := s_gd (j := 3) (oj := o64_4_3) rfl rfl rfl (fun _ => rfl) (fun _ => rfl)
theorem s64_4_5 : stepA E C B 19 r64_4 o64_4_5 (φ, H) = gd φ 12 false (fun φ => some (fput φ 14 (.tup []), H)) (fun φ => some (fput φ 14 (fget φ 3), H)) := s_gd (j := 3) (oj := o64_4_3) rfl rfl rfl (fun _ => rfl) (fun _ => rfl)
theorem s64_4_6 : stepA E C B 19 r64_4 o64_4_6 (φ, H) = gd φ 12 false (fun φ => some (fput φ 15 (.tup []), H)) (fun φ => stp (some 15) φ H (aCall C (fun j => B + j * 19 + 15) true 96 [(fget φ 13), (fget φ 14), (.int .i64 (-1))])) := s_gd (j := 3) (oj := o64_4_3) rfl rfl rfl (fun _ => rfl) (fun _ => rfl)
theorem s64_4_7 : stepA E C B 19 r64_4 o64_4_7 (φ, H) = stp (some 16) φ H (opPick (fget φ 12) (.bool true) (fget φ 15)) := nrfl rfl
noncomputable def c64_19 : Code := kR c64_17
noncomputable def c64_20 : Code := kT c64_19
noncomputable def c64_21 : Code := kL c64_20
noncomputable def r64_5 : Array Oper := kO c64_21
noncomputable def o64_5_0 : Oper := opN r64_5 0
noncomputable def o64_5_1 : Oper := opN r64_5 1
theorem x64_21 : execA E C (fg 64) B 19 E0 N c64_21 s = regX (runA E C B 19 r64_5 r64_5.toList s) (fun s => gcM E0 [0, 3, 5, 6, 16, 17] (forget s.1 [0, 3, 5, 6, 16, 17], s.2)) := x_reg (ops := r64_5) (by rfl) (by rfl) s
theorem r64_5_l : r64_5.toList = [o64_5_0, o64_5_1] := nrfl rfl
theorem s64_5_0 : stepA E C B 19 r64_5 o64_5_0 (φ, H) = some (fput φ 17 (fget φ 3), H) := nrfl rfl
theorem s64_5_1 : stepA E C B 19 r64_5 o64_5_1 (φ, H) = some (fput φ 2 (fget φ 17), H) := nrfl rfl
noncomputable def c64_22 : Code := kR c64_20
theorem x64_22 : execA E C (fg 64) B 19 E0 N c64_22 s = some (.ret, s) := x_ret (by rfl) s
theorem x64_20 : execA E C (fg 64) B 19 E0 N c64_20 s = seqX (execA E C (fg 64) B 19 E0 N c64_21 s) (execA E C (fg 64) B 19 E0 N c64_22) := x_seq (by rfl) s
noncomputable def c64_23 : Code := kE c64_19
theorem x64_23 : execA E C (fg 64) B 19 E0 N c64_23 s = some (.normal, s) := x_skip (by rfl) s
theorem x64_19 : execA E C (fg 64) B 19 E0 N c64_19 (φ, H) = condX (fget φ 16) (execA E C (fg 64) B 19 E0 N c64_20 (φ, H)) (execA E C (fg 64) B 19 E0 N c64_23 (φ, H)) := x_cond (by rfl) _
theorem x64_17 : execA E C (fg 64) B 19 E0 N c64_17 s = seqX (execA E C (fg 64) B 19 E0 N c64_18 s) (execA E C (fg 64) B 19 E0 N c64_19) := x_seq (by rfl) s
theorem x64_15 : execA E C (fg 64) B 19 E0 N c64_15 s = seqX (execA E C (fg 64) B 19 E0 N c64_16 s) (execA E C (fg 64) B 19 E0 N c64_17) := x_seq (by rfl) s
theorem x64_14 : execA E C (fg 64) B 19 E0 N c64_14 s = blockX 1 (fun s => (forget s.1 [3, 16], s.2)) (execA E C (fg 64) B 19 E0 N c64_15 s) := x_block (by rfl) (by rfl) s
noncomputable def c64_24 : Code := kR c64_13
noncomputable def r64_6 : Array Oper := kO c64_24
noncomputable def o64_6_0 : Oper := opN r64_6 0
noncomputable def o64_6_1 : Oper := opN r64_6 1
theorem x64_24 : execA E C (fg 64) B 19 E0 N c64_24 s = regX (runA E C B 19 r64_6 r64_6.toList s) (fun s => gcM E0 [18] (forget s.1 [18], s.2)) := x_reg (ops := r64_6) (by rfl) (by rfl) s
theorem r64_6_l : r64_6.toList = [o64_6_0, o64_6_1] := nrfl rfl
theorem s64_6_0 : stepA E C B 19 r64_6 o64_6_0 (φ, H) = stp (some 18) φ H (just (aBin E.T .add 3 (fget φ 6) (.int .i64 1))) := nrfl rfl
theorem s64_6_1 : stepA E C B 19 r64_6 o64_6_1 (φ, H) = some (fput φ 6 (fget φ 18), H) := nrfl rfl
theorem x64_13 : execA E C (fg 64) B 19 E0 N c64_13 s = seqX (execA E C (fg 64) B 19 E0 N c64_14 s) (execA E C (fg 64) B 19 E0 N c64_24) := x_seq (by rfl) s
theorem x64_9 : execA E C (fg 64) B 19 E0 N c64_9 s = seqX (execA E C (fg 64) B 19 E0 N c64_10 s) (execA E C (fg 64) B 19 E0 N c64_13) := x_seq (by rfl) s
theorem x64_7 : execA E C (fg 64) B 19 E0 N c64_7 s = seqX (execA E C (fg 64) B 19 E0 N c64_8 s) (execA E C (fg 64) B 19 E0 N c64_9) := x_seq (by rfl) s
theorem x64_6 : execA E C (fg 64) B 19 E0 N c64_6 s = iterA (execA E C (fg 64) B 19 E0 N c64_7) (headA E0) N s := x_loop (by rfl) s
theorem x64_5 : execA E C (fg 64) B 19 E0 N c64_5 s = blockX 0 (fun s => (forget s.1 [0, 5, 6, 7], s.2)) (execA E C (fg 64) B 19 E0 N c64_6 s) := x_block (by rfl) (by rfl) s
theorem x64_3 : execA E C (fg 64) B 19 E0 N c64_3 s = seqX (execA E C (fg 64) B 19 E0 N c64_4 s) (execA E C (fg 64) B 19 E0 N c64_5) := x_seq (by rfl) s
noncomputable def c64_25 : Code := kR c64_2
noncomputable def c64_26 : Code := kL c64_25
noncomputable def r64_7 : Array Oper := kO c64_26
noncomputable def o64_7_0 : Oper := opN r64_7 0
theorem x64_26 : execA E C (fg 64) B 19 E0 N c64_26 s = regX (runA E C B 19 r64_7 r64_7.toList s) (fun s => gcM E0 [] (forget s.1 [], s.2)) := x_reg (ops := r64_7) (by rfl) (by rfl) s
theorem r64_7_l : r64_7.toList = [o64_7_0] := nrfl rfl
theorem s64_7_0 : stepA E C B 19 r64_7 o64_7_0 (φ, H) = some (fput φ 2 (.int .i64 (-1)), H) := nrfl rfl
noncomputable def c64_27 : Code := kR c64_25
theorem x64_27 : execA E C (fg 64) B 19 E0 N c64_27 s = some (.ret, s) := x_ret (by rfl) s
theorem x64_25 : execA E C (fg 64) B 19 E0 N c64_25 s = seqX (execA E C (fg 64) B 19 E0 N c64_26 s) (execA E C (fg 64) B 19 E0 N c64_27) := x_seq (by rfl) s
theorem x64_2 : execA E C (fg 64) B 19 E0 N c64_2 s = seqX (execA E C (fg 64) B 19 E0 N c64_3 s) (execA E C (fg 64) B 19 E0 N c64_25) := x_seq (by rfl) s
theorem x64_0 : execA E C (fg 64) B 19 E0 N c64_0 s = seqX (execA E C (fg 64) B 19 E0 N c64_1 s) (execA E C (fg 64) B 19 E0 N c64_2) := x_seq (by rfl) s
theorem fi_64 : fInfo E 64 = some ⟨19, #[.tmp 2], c64_0⟩ := nrfl rfl
theorem b_64 (args : List AV) : bodyA E C fg N 64 args H B = bodyX E [.tmp 2] (execA E C (fg 64) B 19 H N c64_0 (frame0 args 0 [], H)) := bodyA_eq fi_64 args H
noncomputable def c32_0 : Code := kBody Proofs.Try.f32
noncomputable def c32_1 : Code := kL c32_0
noncomputable def r32_0 : Array Oper := kO c32_1
noncomputable def o32_0_0 : Oper := opN r32_0 0
noncomputable def o32_0_1 : Oper := opN r32_0 1
theorem x32_1 : execA E C (fg 32) B 13 E0 N c32_1 s = regX (runA E C B 13 r32_0 r32_0.toList s) (fun s => gcM E0 [2, 3] (forget s.1 [2, 3], s.2)) := x_reg (ops := r32_0) (by rfl) (by rfl) s
theorem r32_0_l : r32_0.toList = [o32_0_0, o32_0_1] := nrfl rfl
theorem s32_0_0 : stepA E C B 13 r32_0 o32_0_0 (φ, H) = some (fput φ 2 (.bool false), H) := nrfl rfl
theorem s32_0_1 : stepA E C B 13 r32_0 o32_0_1 (φ, H) = some (fput φ 3 (.int .i64 0), H) := nrfl rfl
noncomputable def c32_2 : Code := kR c32_0
noncomputable def c32_3 : Code := kL c32_2
noncomputable def c32_4 : Code := kL c32_3
noncomputable def r32_1 : Array Oper := kO c32_4
noncomputable def o32_1_0 : Oper := opN r32_1 0
noncomputable def o32_1_1 : Oper := opN r32_1 1
noncomputable def o32_1_2 : Oper := opN r32_1 2
theorem x32_4 : execA E C (fg 32) B 13 E0 N c32_4 s = regX (runA E C B 13 r32_1 r32_1.toList s) (fun s => gcM E0 [5, 6] (forget s.1 [5, 6], s.2)) := x_reg (ops := r32_1) (by rfl) (by rfl) s
theorem r32_1_l : r32_1.toList = [o32_1_0, o32_1_1, o32_1_2] := nrfl rfl
theorem s32_1_0 : stepA E C B 13 r32_1 o32_1_0 (φ, H) = some (fput φ 5 (fget φ 0), H) := nrfl rfl
theorem s32_1_1 : stepA E C B 13 r32_1 o32_1_1 (φ, H) = stp (some 6) φ H (aCall C (fun j => B + j * 13 + 6) true 70 [(fget φ 5)]) := nrfl rfl
theorem s32_1_2 : stepA E C B 13 r32_1 o32_1_2 (φ, H) = some (fput φ 4 (fget φ 6), H) := nrfl rfl
noncomputable def c32_5 : Code := kR c32_3
noncomputable def c32_6 : Code := kL c32_5
noncomputable def r32_2 : Array Oper := kO c32_6
noncomputable def o32_2_0 : Oper := opN r32_2 0
noncomputable def o32_2_1 : Oper := opN r32_2 1
theorem x32_6 : execA E C (fg 32) B 13 E0 N c32_6 s = regX (runA E C B 13 r32_2 r32_2.toList s) (fun s => gcM E0 [7] (forget s.1 [7], s.2)) := x_reg (ops := r32_2) (by rfl) (by rfl) s
theorem r32_2_l : r32_2.toList = [o32_2_0, o32_2_1] := nrfl rfl
theorem s32_2_0 : stepA E C B 13 r32_2 o32_2_0 (φ, H) = some (fput φ 7 (fget φ 4), H) := nrfl rfl
theorem s32_2_1 : stepA E C B 13 r32_2 o32_2_1 (φ, H) = stp (some 8) φ H (just (aBin E.T .neq 28 (fget φ 7) (.int .i64 0))) := nrfl rfl
noncomputable def c32_7 : Code := kR c32_5
noncomputable def c32_8 : Code := kT c32_7
noncomputable def c32_9 : Code := kL c32_8
noncomputable def r32_3 : Array Oper := kO c32_9
noncomputable def o32_3_0 : Oper := opN r32_3 0
noncomputable def o32_3_1 : Oper := opN r32_3 1
noncomputable def o32_3_2 : Oper := opN r32_3 2
theorem x32_9 : execA E C (fg 32) B 13 E0 N c32_9 s = regX (runA E C B 13 r32_3 r32_3.toList s) (fun s => gcM E0 [0, 4, 8, 9] (forget s.1 [0, 4, 8, 9], s.2)) := x_reg (ops := r32_3) (by rfl) (by rfl) s
theorem r32_3_l : r32_3.toList = [o32_3_0, o32_3_1, o32_3_2] := nrfl rfl
theorem s32_3_0 : stepA E C B 13 r32_3 o32_3_0 (φ, H) = some (fput φ 9 (fget φ 4), H) := nrfl rfl
theorem s32_3_1 : stepA E C B 13 r32_3 o32_3_1 (φ, H) = some (fput φ 2 (.bool false), H) := nrfl rfl
theorem s32_3_2 : stepA E C B 13 r32_3 o32_3_2 (φ, H) = some (fput φ 3 (fget φ 9), H) := nrfl rfl
noncomputable def c32_10 : Code := kR c32_8
theorem x32_10 : execA E C (fg 32) B 13 E0 N c32_10 s = some (.ret, s) := x_ret (by rfl) s
theorem x32_8 : execA E C (fg 32) B 13 E0 N c32_8 s = seqX (execA E C (fg 32) B 13 E0 N c32_9 s) (execA E C (fg 32) B 13 E0 N c32_10) := x_seq (by rfl) s
noncomputable def c32_11 : Code := kE c32_7
theorem x32_11 : execA E C (fg 32) B 13 E0 N c32_11 s = some (.normal, s) := x_skip (by rfl) s
theorem x32_7 : execA E C (fg 32) B 13 E0 N c32_7 (φ, H) = condX (fget φ 8) (execA E C (fg 32) B 13 E0 N c32_8 (φ, H)) (execA E C (fg 32) B 13 E0 N c32_11 (φ, H)) := x_cond (by rfl) _
theorem x32_5 : execA E C (fg 32) B 13 E0 N c32_5 s = seqX (execA E C (fg 32) B 13 E0 N c32_6 s) (execA E C (fg 32) B 13 E0 N c32_7) := x_seq (by rfl) s
theorem x32_3 : execA E C (fg 32) B 13 E0 N c32_3 s = seqX (execA E C (fg 32) B 13 E0 N c32_4 s) (execA E C (fg 32) B 13 E0 N c32_5) := x_seq (by rfl) s
noncomputable def c32_12 : Code := kR c32_2
noncomputable def c32_13 : Code := kL c32_12
noncomputable def r32_4 : Array Oper := kO c32_13
noncomputable def o32_4_0 : Oper := opN r32_4 0
noncomputable def o32_4_1 : Oper := opN r32_4 1
noncomputable def o32_4_2 : Oper := opN r32_4 2
noncomputable def o32_4_3 : Oper := opN r32_4 3
noncomputable def o32_4_4 : Oper := opN r32_4 4
theorem x32_13 : execA E C (fg 32) B 13 E0 N c32_13 s = regX (runA E C B 13 r32_4 r32_4.toList s) (fun s => gcM E0 [0, 4, 8, 10, 11, 12] (forget s.1 [0, 4, 8, 10, 11, 12], s.2)) := x_reg (ops := r32_4) (by rfl) (by rfl) s
theorem r32_4_l : r32_4.toList = [o32_4_0, o32_4_1, o32_4_2, o32_4_3, o32_4_4] := nrfl rfl
theorem s32_4_0 : stepA E C B 13 r32_4 o32_4_0 (φ, H) = some (fput φ 10 (fget φ 0), H) := nrfl rfl
theorem s32_4_1 : stepA E C B 13 r32_4 o32_4_1 (φ, H) = stp (some 11) φ H (aCall C (fun j => B + j * 13 + 11) true 64 [(fget φ 10)]) := nrfl rfl
theorem s32_4_2 : stepA E C B 13 r32_4 o32_4_2 (φ, H) = stp (some 12) φ H (just (aBin E.T .lss 3 (fget φ 11) (.int .i64 0))) := nrfl rfl
theorem s32_4_3 : stepA E C B 13 r32_4 o32_4_3 (φ, H) = some (fput φ 2 (fget φ 12), H) := nrfl rfl
theorem s32_4_4 : stepA E C B 13 r32_4 o32_4_4 (φ, H) = some (fput φ 3 (.int .i64 0), H) := nrfl rfl
noncomputable def c32_14 : Code := kR c32_12
theorem x32_14 : execA E C (fg 32) B 13 E0 N c32_14 s = some (.ret, s) := x_ret (by rfl) s
theorem x32_12 : execA E C (fg 32) B 13 E0 N c32_12 s = seqX (execA E C (fg 32) B 13 E0 N c32_13 s) (execA E C (fg 32) B 13 E0 N c32_14) := x_seq (by rfl) s
theorem x32_2 : execA E C (fg 32) B 13 E0 N c32_2 s = seqX (execA E C (fg 32) B 13 E0 N c32_3 s) (execA E C (fg 32) B 13 E0 N c32_12) := x_seq (by rfl) s
theorem x32_0 : execA E C (fg 32) B 13 E0 N c32_0 s = seqX (execA E C (fg 32) B 13 E0 N c32_1 s) (execA E C (fg 32) B 13 E0 N c32_2) := x_seq (by rfl) s
theorem fi_32 : fInfo E 32 = some ⟨13, #[.tmp 2, .tmp 3], c32_0⟩ := nrfl rfl
theorem b_32 (args : List AV) : bodyA E C fg N 32 args H B = bodyX E [.tmp 2, .tmp 3] (execA E C (fg 32) B 13 H N c32_0 (frame0 args 0 [], H)) := bodyA_eq fi_32 args H
noncomputable def c89_0 : Code := kBody Proofs.Try.f89
noncomputable def c89_1 : Code := kL c89_0
noncomputable def r89_0 : Array Oper := kO c89_1
noncomputable def o89_0_0 : Oper := opN r89_0 0
noncomputable def o89_0_1 : Oper := opN r89_0 1
theorem x89_1 : execA E C (fg 89) B 11 E0 N c89_1 s = regX (runA E C B 11 r89_0 r89_0.toList s) (fun s => gcM E0 [0, 4] (forget s.1 [0, 4], s.2)) := x_reg (ops := r89_0) (by rfl) (by rfl) s
theorem r89_0_l : r89_0.toList = [o89_0_0, o89_0_1] := nrfl rfl
theorem s89_0_0 : stepA E C B 11 r89_0 o89_0_0 (φ, H) = stp (some 2) φ H (opBox (B + 2) (acells (fget φ 0))) := nrfl rfl
theorem s89_0_1 : stepA E C B 11 r89_0 o89_0_1 (φ, H) = some (fput φ 4 (.int .i64 0), H) := nrfl rfl
noncomputable def c89_2 : Code := kR c89_0
noncomputable def c89_3 : Code := kL c89_2
noncomputable def c89_4 : Code := kL c89_3
noncomputable def r89_1 : Array Oper := kO c89_4
noncomputable def o89_1_0 : Oper := opN r89_1 0
noncomputable def o89_1_1 : Oper := opN r89_1 1
theorem x89_4 : execA E C (fg 89) B 11 E0 N c89_4 s = regX (runA E C B 11 r89_1 r89_1.toList s) (fun s => gcM E0 [1, 5] (forget s.1 [1, 5], s.2)) := x_reg (ops := r89_1) (by rfl) (by rfl) s
theorem r89_1_l : r89_1.toList = [o89_1_0, o89_1_1] := nrfl rfl
theorem s89_1_0 : stepA E C B 11 r89_1 o89_1_0 (φ, H) = some (fput φ 5 (fget φ 1), H) := nrfl rfl
theorem s89_1_1 : stepA E C B 11 r89_1 o89_1_1 (φ, H) = stp (some 6) φ H (just (aBin E.T .gtr 3 (fget φ 5) (.int .i64 0))) := nrfl rfl
noncomputable def c89_5 : Code := kR c89_3
noncomputable def c89_6 : Code := kT c89_5
noncomputable def c89_7 : Code := kL c89_6
noncomputable def r89_2 : Array Oper := kO c89_7
noncomputable def o89_2_0 : Oper := opN r89_2 0
noncomputable def o89_2_1 : Oper := opN r89_2 1
noncomputable def o89_2_2 : Oper := opN r89_2 2
theorem x89_7 : execA E C (fg 89) B 11 E0 N c89_7 s = regX (runA E C B 11 r89_2 r89_2.toList s) (fun s => gcM E0 [2, 6, 7, 8] (forget s.1 [2, 6, 7, 8], s.2)) := x_reg (ops := r89_2) (by rfl) (by rfl) s
theorem r89_2_l : r89_2.toList = [o89_2_0, o89_2_1, o89_2_2] := nrfl rfl
theorem s89_2_0 : stepA E C B 11 r89_2 o89_2_0 (φ, H) = stp (some 7) φ H (just (aFieldAddr E.T 45 (fget φ 2) 3)) := nrfl rfl
theorem s89_2_1 : stepA E C B 11 r89_2 o89_2_1 (φ, H) = stp (some 8) φ H (just (aLoad E.T 3 (fget φ 7))) := nrfl rfl
theorem s89_2_2 : stepA E C B 11 r89_2 o89_2_2 (φ, H) = some (fput φ 4 (fget φ 8), H) := nrfl rfl
noncomputable def c89_8 : Code := kR c89_6
theorem x89_8 : execA E C (fg 89) B 11 E0 N c89_8 s = some (.ret, s) := x_ret (by rfl) s
theorem x89_6 : execA E C (fg 89) B 11 E0 N c89_6 s = seqX (execA E C (fg 89) B 11 E0 N c89_7 s) (execA E C (fg 89) B 11 E0 N c89_8) := x_seq (by rfl) s
noncomputable def c89_9 : Code := kE c89_5
theorem x89_9 : execA E C (fg 89) B 11 E0 N c89_9 s = some (.normal, s) := x_skip (by rfl) s
theorem x89_5 : execA E C (fg 89) B 11 E0 N c89_5 (φ, H) = condX (fget φ 6) (execA E C (fg 89) B 11 E0 N c89_6 (φ, H)) (execA E C (fg 89) B 11 E0 N c89_9 (φ, H)) := x_cond (by rfl) _
theorem x89_3 : execA E C (fg 89) B 11 E0 N c89_3 s = seqX (execA E C (fg 89) B 11 E0 N c89_4 s) (execA E C (fg 89) B 11 E0 N c89_5) := x_seq (by rfl) s
noncomputable def c89_10 : Code := kR c89_2
noncomputable def c89_11 : Code := kL c89_10
noncomputable def r89_3 : Array Oper := kO c89_11
noncomputable def o89_3_0 : Oper := opN r89_3 0
noncomputable def o89_3_1 : Oper := opN r89_3 1
noncomputable def o89_3_2 : Oper := opN r89_3 2
theorem x89_11 : execA E C (fg 89) B 11 E0 N c89_11 s = regX (runA E C B 11 r89_3 r89_3.toList s) (fun s => gcM E0 [2, 6, 9, 10] (forget s.1 [2, 6, 9, 10], s.2)) := x_reg (ops := r89_3) (by rfl) (by rfl) s
theorem r89_3_l : r89_3.toList = [o89_3_0, o89_3_1, o89_3_2] := nrfl rfl
theorem s89_3_0 : stepA E C B 11 r89_3 o89_3_0 (φ, H) = stp (some 9) φ H (just (aFieldAddr E.T 45 (fget φ 2) 2)) := nrfl rfl
theorem s89_3_1 : stepA E C B 11 r89_3 o89_3_1 (φ, H) = stp (some 10) φ H (just (aLoad E.T 3 (fget φ 9))) := nrfl rfl
theorem s89_3_2 : stepA E C B 11 r89_3 o89_3_2 (φ, H) = some (fput φ 4 (fget φ 10), H) := nrfl rfl
noncomputable def c89_12 : Code := kR c89_10
theorem x89_12 : execA E C (fg 89) B 11 E0 N c89_12 s = some (.ret, s) := x_ret (by rfl) s
theorem x89_10 : execA E C (fg 89) B 11 E0 N c89_10 s = seqX (execA E C (fg 89) B 11 E0 N c89_11 s) (execA E C (fg 89) B 11 E0 N c89_12) := x_seq (by rfl) s
theorem x89_2 : execA E C (fg 89) B 11 E0 N c89_2 s = seqX (execA E C (fg 89) B 11 E0 N c89_3 s) (execA E C (fg 89) B 11 E0 N c89_10) := x_seq (by rfl) s
theorem x89_0 : execA E C (fg 89) B 11 E0 N c89_0 s = seqX (execA E C (fg 89) B 11 E0 N c89_1 s) (execA E C (fg 89) B 11 E0 N c89_2) := x_seq (by rfl) s
theorem fi_89 : fInfo E 89 = some ⟨11, #[.tmp 4], c89_0⟩ := nrfl rfl
theorem b_89 (args : List AV) : bodyA E C fg N 89 args H B = bodyX E [.tmp 4] (execA E C (fg 89) B 11 H N c89_0 (frame0 args 0 [], H)) := bodyA_eq fi_89 args H
noncomputable def c72_0 : Code := kBody Proofs.Try.f72
noncomputable def c72_1 : Code := kL c72_0
noncomputable def r72_0 : Array Oper := kO c72_1
noncomputable def o72_0_0 : Oper := opN r72_0 0
theorem x72_1 : execA E C (fg 72) B 26 E0 N c72_1 s = regX (runA E C B 26 r72_0 r72_0.toList s) (fun s => gcM E0 [6] (forget s.1 [6], s.2)) := x_reg (ops := r72_0) (by rfl) (by rfl) s
theorem r72_0_l : r72_0.toList = [o72_0_0] := nrfl rfl
theorem s72_0_0 : stepA E C B 26 r72_0 o72_0_0 (φ, H) = some (fput φ 6 (.int .i64 0), H) := nrfl rfl
noncomputable def c72_2 : Code := kR c72_0
noncomputable def c72_3 : Code := kL c72_2
noncomputable def r72_1 : Array Oper := kO c72_3
noncomputable def o72_1_0 : Oper := opN r72_1 0
theorem x72_3 : execA E C (fg 72) B 26 E0 N c72_3 s = regX (runA E C B 26 r72_1 r72_1.toList s) (fun s => gcM E0 [] (forget s.1 [], s.2)) := x_reg (ops := r72_1) (by rfl) (by rfl) s
theorem r72_1_l : r72_1.toList = [o72_1_0] := nrfl rfl
theorem s72_1_0 : stepA E C B 26 r72_1 o72_1_0 (φ, H) = some (fput φ 7 (.int .i64 0), H) := nrfl rfl
noncomputable def c72_4 : Code := kR c72_2
noncomputable def c72_5 : Code := kL c72_4
noncomputable def c72_6 : Code := kL c72_5
noncomputable def r72_2 : Array Oper := kO c72_6
noncomputable def o72_2_0 : Oper := opN r72_2 0
noncomputable def o72_2_1 : Oper := opN r72_2 1
theorem x72_6 : execA E C (fg 72) B 26 E0 N c72_6 s = regX (runA E C B 26 r72_2 r72_2.toList s) (fun s => gcM E0 [1, 9] (forget s.1 [1, 9], s.2)) := x_reg (ops := r72_2) (by rfl) (by rfl) s
theorem r72_2_l : r72_2.toList = [o72_2_0, o72_2_1] := nrfl rfl
theorem s72_2_0 : stepA E C B 26 r72_2 o72_2_0 (φ, H) = some (fput φ 9 (fget φ 1), H) := nrfl rfl
theorem s72_2_1 : stepA E C B 26 r72_2 o72_2_1 (φ, H) = some (fput φ 8 (fget φ 9), H) := nrfl rfl
noncomputable def c72_7 : Code := kR c72_5
noncomputable def c72_8 : Code := kB c72_7
noncomputable def c72_9 : Code := kB c72_8
noncomputable def c72_10 : Code := kL c72_9
noncomputable def c72_11 : Code := kL c72_10
noncomputable def r72_3 : Array Oper := kO c72_11
noncomputable def o72_3_0 : Oper := opN r72_3 0
noncomputable def o72_3_1 : Oper := opN r72_3 1
noncomputable def o72_3_2 : Oper := opN r72_3 2
noncomputable def o72_3_3 : Oper := opN r72_3 3
theorem x72_11 : execA E C (fg 72) B 26 E0 N c72_11 s = regX (runA E C B 26 r72_3 r72_3.toList s) (fun s => gcM E0 [10, 11, 12] (forget s.1 [10, 11, 12], s.2)) := x_reg (ops := r72_3) (by rfl) (by rfl) s
theorem r72_3_l : r72_3.toList = [o72_3_0, o72_3_1, o72_3_2, o72_3_3] := nrfl rfl
theorem s72_3_0 : stepA E C B 26 r72_3 o72_3_0 (φ, H) = some (fput φ 10 (fget φ 8), H) := nrfl rfl
theorem s72_3_1 : stepA E C B 26 r72_3 o72_3_1 (φ, H) = some (fput φ 11 (fget φ 0), H) := nrfl rfl
theorem s72_3_2 : stepA E C B 26 r72_3 o72_3_2 (φ, H) = stp (some 12) φ H (aBuiltin E.T (B + 12) .len #[119] [(fget φ 11)]) := nrfl rfl
theorem s72_3_3 : stepA E C B 26 r72_3 o72_3_3 (φ, H) = stp (some 13) φ H (just (aBin E.T .lss 3 (fget φ 10) (fget φ 12))) := nrfl rfl
noncomputable def c72_12 : Code := kR c72_10
noncomputable def c72_13 : Code := kT c72_12
theorem x72_13 : execA E C (fg 72) B 26 E0 N c72_13 s = some (.normal, s) := x_skip (by rfl) s
noncomputable def c72_14 : Code := kE c72_12
theorem x72_14 : execA E C (fg 72) B 26 E0 N c72_14 s = some (.exit 0, s) := x_exit (by rfl) s
theorem x72_12 : execA E C (fg 72) B 26 E0 N c72_12 (φ, H) = condX (fget φ 13) (execA E C (fg 72) B 26 E0 N c72_13 (φ, H)) (execA E C (fg 72) B 26 E0 N c72_14 (φ, H)) := x_cond (by rfl) _
theorem x72_10 : execA E C (fg 72) B 26 E0 N c72_10 s = seqX (execA E C (fg 72) B 26 E0 N c72_11 s) (execA E C (fg 72) B 26 E0 N c72_12) := x_seq (by rfl) s
noncomputable def c72_15 : Code := kR c72_9
noncomputable def c72_16 : Code := kL c72_15
noncomputable def c72_17 : Code := kB c72_16
noncomputable def r72_5 : Array Oper := kO c72_17
noncomputable def o72_5_0 : Oper := opN r72_5 0
noncomputable def o72_5_1 : Oper := opN r72_5 1
noncomputable def o72_5_2 : Oper := opN r72_5 2
noncomputable def o72_5_3 : Oper := opN r72_5 3
noncomputable def o72_5_4 : Oper := opN r72_5 4
noncomputable def o72_5_5 : Oper := opN r72_5 5
noncomputable def o72_5_6 : Oper := opN r72_5 6
noncomputable def o72_5_7 : Oper := opN r72_5 7
noncomputable def o72_5_8 : Oper := opN r72_5 8
noncomputable def o72_5_9 : Oper := opN r72_5 9
theorem x72_17 : execA E C (fg 72) B 26 E0 N c72_17 s = regX (runA E C B 26 r72_5 r72_5.toList s) (fun s => gcM E0 [13, 16, 17, 18, 19, 20, 21, 22, 23, 24] (forget s.1 [13, 16, 17, 18, 19, 20, 21, 22, 23, 24], s.2)) := x_reg (ops := r72_5) (by rfl) (by rfl) s
theorem r72_5_l : r72_5.toList = [o72_5_0, o72_5_1, o72_5_2, o72_5_3, o72_5_4, o72_5_5, o72_5_6, o72_5_7, o72_5_8, o72_5_9] := nrfl rfl
theorem s72_5_0 : stepA E C B 26 r72_5 o72_5_0 (φ, H) = some (fput φ 16 (fget φ 7), H) := nrfl rfl
theorem s72_5_1 : stepA E C B 26 r72_5 o72_5_1 (φ, H) = some (fput φ 17 (fget φ 2), H) := nrfl rfl
theorem s72_5_2 : stepA E C B 26 r72_5 o72_5_2 (φ, H) = some (fput φ 18 (fget φ 8), H) := nrfl rfl
theorem s72_5_3 : stepA E C B 26 r72_5 o72_5_3 (φ, H) = some (fput φ 19 (fget φ 0), H) := nrfl rfl
theorem s72_5_4 : stepA E C B 26 r72_5 o72_5_4 (φ, H) = some (fput φ 20 (fget φ 8), H) := nrfl rfl
theorem s72_5_5 : stepA E C B 26 r72_5 o72_5_5 (φ, H) = stp (some 21) φ H (just (aIndexAddr E.T 119 (fget φ 19) (fget φ 20))) := nrfl rfl
theorem s72_5_6 : stepA E C B 26 r72_5 o72_5_6 (φ, H) = stp (some 22) φ H (just (aLoad E.T 3 (fget φ 21))) := nrfl rfl
theorem s72_5_7 : stepA E C B 26 r72_5 o72_5_7 (φ, H) = callV E C (B + 26 * 8) (some 23) (fun j => B + j * 26 + 23) φ H (fget φ 17) [(fget φ 18), (fget φ 22)] true := nrfl rfl
theorem s72_5_8 : stepA E C B 26 r72_5 o72_5_8 (φ, H) = stp (some 24) φ H (just (aBin E.T .add 3 (fget φ 16) (fget φ 23))) := nrfl rfl
theorem s72_5_9 : stepA E C B 26 r72_5 o72_5_9 (φ, H) = some (fput φ 7 (fget φ 24), H) := nrfl rfl
theorem x72_16 : execA E C (fg 72) B 26 E0 N c72_16 s = blockX 1 (fun s => (forget s.1 [], s.2)) (execA E C (fg 72) B 26 E0 N c72_17 s) := x_block (by rfl) (by rfl) s
noncomputable def c72_18 : Code := kR c72_15
noncomputable def r72_4 : Array Oper := kO c72_18
noncomputable def o72_4_0 : Oper := opN r72_4 0
noncomputable def o72_4_1 : Oper := opN r72_4 1
noncomputable def o72_4_2 : Oper := opN r72_4 2
theorem x72_18 : execA E C (fg 72) B 26 E0 N c72_18 s = regX (runA E C B 26 r72_4 r72_4.toList s) (fun s => gcM E0 [14, 15] (forget s.1 [14, 15], s.2)) := x_reg (ops := r72_4) (by rfl) (by rfl) s
theorem r72_4_l : r72_4.toList = [o72_4_0, o72_4_1, o72_4_2] := nrfl rfl
theorem s72_4_0 : stepA E C B 26 r72_4 o72_4_0 (φ, H) = some (fput φ 14 (fget φ 8), H) := nrfl rfl
theorem s72_4_1 : stepA E C B 26 r72_4 o72_4_1 (φ, H) = stp (some 15) φ H (just (aBin E.T .add 3 (fget φ 14) (.int .i64 1))) := nrfl rfl
theorem s72_4_2 : stepA E C B 26 r72_4 o72_4_2 (φ, H) = some (fput φ 8 (fget φ 15), H) := nrfl rfl
theorem x72_15 : execA E C (fg 72) B 26 E0 N c72_15 s = seqX (execA E C (fg 72) B 26 E0 N c72_16 s) (execA E C (fg 72) B 26 E0 N c72_18) := x_seq (by rfl) s
theorem x72_9 : execA E C (fg 72) B 26 E0 N c72_9 s = seqX (execA E C (fg 72) B 26 E0 N c72_10 s) (execA E C (fg 72) B 26 E0 N c72_15) := x_seq (by rfl) s
theorem x72_8 : execA E C (fg 72) B 26 E0 N c72_8 s = iterA (execA E C (fg 72) B 26 E0 N c72_9) (headA E0) N s := x_loop (by rfl) s
theorem x72_7 : execA E C (fg 72) B 26 E0 N c72_7 s = blockX 0 (fun s => (forget s.1 [0, 2, 8, 13], s.2)) (execA E C (fg 72) B 26 E0 N c72_8 s) := x_block (by rfl) (by rfl) s
theorem x72_5 : execA E C (fg 72) B 26 E0 N c72_5 s = seqX (execA E C (fg 72) B 26 E0 N c72_6 s) (execA E C (fg 72) B 26 E0 N c72_7) := x_seq (by rfl) s
noncomputable def c72_19 : Code := kR c72_4
noncomputable def c72_20 : Code := kL c72_19
noncomputable def r72_6 : Array Oper := kO c72_20
noncomputable def o72_6_0 : Oper := opN r72_6 0
noncomputable def o72_6_1 : Oper := opN r72_6 1
theorem x72_20 : execA E C (fg 72) B 26 E0 N c72_20 s = regX (runA E C B 26 r72_6 r72_6.toList s) (fun s => gcM E0 [7, 25] (forget s.1 [7, 25], s.2)) := x_reg (ops := r72_6) (by rfl) (by rfl) s
theorem r72_6_l : r72_6.toList = [o72_6_0, o72_6_1] := nrfl rfl
theorem s72_6_0 : stepA E C B 26 r72_6 o72_6_0 (φ, H) = some (fput φ 25 (fget φ 7), H) := nrfl rfl
theorem s72_6_1 : stepA E C B 26 r72_6 o72_6_1 (φ, H) = some (fput φ 6 (fget φ 25), H) := nrfl rfl
noncomputable def c72_21 : Code := kR c72_19
theorem x72_21 : execA E C (fg 72) B 26 E0 N c72_21 s = some (.ret, s) := x_ret (by rfl) s
theorem x72_19 : execA E C (fg 72) B 26 E0 N c72_19 s = seqX (execA E C (fg 72) B 26 E0 N c72_20 s) (execA E C (fg 72) B 26 E0 N c72_21) := x_seq (by rfl) s
theorem x72_4 : execA E C (fg 72) B 26 E0 N c72_4 s = seqX (execA E C (fg 72) B 26 E0 N c72_5 s) (execA E C (fg 72) B 26 E0 N c72_19) := x_seq (by rfl) s
theorem x72_2 : execA E C (fg 72) B 26 E0 N c72_2 s = seqX (execA E C (fg 72) B 26 E0 N c72_3 s) (execA E C (fg 72) B 26 E0 N c72_4) := x_seq (by rfl) s
theorem x72_0 : execA E C (fg 72) B 26 E0 N c72_0 s = seqX (execA E C (fg 72) B 26 E0 N c72_1 s) (execA E C (fg 72) B 26 E0 N c72_2) := x_seq (by rfl) s
theorem fi_72 : fInfo E 72 = some ⟨26, #[.tmp 6], c72_0⟩ := nrfl rfl
theorem b_72 (args : List AV) : bodyA E C fg N 72 args H B = bodyX E [.tmp 6] (execA E C (fg 72) B 26 H N c72_0 (frame0 args 0 [], H)) := bodyA_eq fi_72 args H
end Go.AM.Ytmhbnflnlglljaa
end

section
namespace Go.AM.Ytmhbnflnlglljaa
open Go Go.AM
set_option maxRecDepth 100000
set_option maxHeartbeats 1000000
structure Stone where
  half : Int
  pos : Int
  least : Int
  most : Int
deriving Inhabited
def sc (s : Stone) : List AV := [.int .i64 s.half, .int .i64 s.pos, .int .i64 s.least, .int .i64 s.most]
def pcells : List Stone → List AV
  | [] => []
  | s :: l => sc s ++ pcells l
theorem pcells_length : ∀ (l : List Stone), (pcells l).length = l.length * 4
  | [] => rfl
  | s :: l => by simp [pcells, sc, pcells_length l]; omega
theorem pcells_at : ∀ (l : List Stone) (k : Nat) (s : Stone), l[k]? = some s → ((pcells l).drop (k * 4)).take 4 = sc s
  | [], k, s, h => by simp at h
  | a :: l, 0, s, h => by simp at h; subst h; simp [pcells, sc]
  | a :: l, k + 1, s, h => by
    simp at h
    have := pcells_at l k s h
    have e : (k + 1) * 4 = k * 4 + 4 := by omega
    rw [e, pcells, show k * 4 + 4 = 4 + k * 4 by omega, ← List.drop_drop]
    simpa [sc] using this
theorem pcells_off (l : List Stone) (k : Nat) (h : k < l.length) : k * 4 + 4 ≤ l.length * 4 := by omega
theorem pcells_field : ∀ (l : List Stone) (k : Nat) (s : Stone) (j : Nat), l[k]? = some s → j < 4 → (pcells l)[k * 4 + j]? = (sc s)[j]? := by
  intro l k s j h hj
  have := pcells_at l k s h
  have h2 := congrArg (fun x => x[j]?) this
  simp only [List.getElem?_take, hj, if_true, List.getElem?_drop] at h2
  exact h2
theorem at_lt {α : Type} {l : List α} {k : Nat} {s : α} (h : l[k]? = some s) : k < l.length := (List.getElem?_eq_some_iff.1 h).1
theorem at_ex {α : Type} {l : List α} {k : Nat} (h : k < l.length) : ∃ s, l[k]? = some s := ⟨l[k], List.getElem?_eq_getElem h⟩
def icells (l : List Int) : List AV := l.map (AV.int .i64)
theorem icells_length (l : List Int) : (icells l).length = l.length := by simp [icells]
theorem icells_at {l : List Int} {k : Nat} {z : Int} (h : l[k]? = some z) : (icells l)[k]? = some (.int .i64 z) := by simp [icells, h]
def within (s : Stone) : Int :=
  if ¬s.half < 1 then if s.half > 4194304 then 1 else if ¬s.pos < -33554432 then if s.pos > 33554432 then 1 else if ¬(if s.most < s.least then s.most else s.least) < 1 then if (if s.most > s.least then s.most else s.least) > 9 then 1 else if s.least > s.most then 7 else 0 else 1 else 1 else 1
structure Fits (s : Stone) : Prop where
  h1 : 1 ≤ s.half
  h2 : s.half ≤ 4194304
  p1 : -33554432 ≤ s.pos
  p2 : s.pos ≤ 33554432
  l1 : 1 ≤ s.least
  lm : s.least ≤ s.most
  m9 : s.most ≤ 9
theorem within_zero {s : Stone} : within s = 0 ↔ Fits s := by
  constructor
  · intro h
    unfold within at h
    repeat' split at h
    all_goals first | (simp at h; done) | constructor
    all_goals omega
  · rintro ⟨h1, h2, p1, p2, l1, lm, m9⟩
    unfold within
    repeat' split
    all_goals first | rfl | omega
theorem within_run {C : Callee} (s : Stone) : rsOf (bodyA E C fg 1000 99 [.agg (sc s)] [] 0) = some (.int .i64 (within s)) := by
  simp only [sc, seqX_normal, seqX_ret, seqX_exit, seqX_ite, bindR_some, bindR_ite, regX_some, regX_ite, condX_bool, blockX_exit, blockX_normal, blockX_ret, blockX_ite, ↓gd, fset_cons, Bool.not_false, bodyX_ite, bodyX_ret, run_nil, run_cons, fget_cons', fput_nil, fput_cons', forget_nil, forget_cons', hget_nil', hget_cons', hset_nil', frame0, gcM_n, gcM_c, stp, opPick, opBox, justO, just, Rd.bind, Rd.run, Rd.opt, upds, acells, rdCells, fieldOf, aFieldAddr, aLoad, resA, resL, fresh, aBuiltin, aMin, aMax, aBin, aInt, Nat.reduceAdd, Nat.reduceBEq, Nat.reduceEqDiff, Nat.reduceLeDiff, Int.reduceNeg, ↓reduceIte, reduceCtorEq, liveBlk_eq, decide_eq_true_eq, decide_eq_false_iff_not, Nat.zero_add, Nat.add_zero, rs_ite, m_int, ite_not, Bool.not_false, putD_some, Option.map_some, List.elem_cons, List.elem_nil, List.length_cons, List.length_nil, List.getElem?_cons_zero, List.getElem?_cons_succ, T_3, T_45, x99_1, r99_0_l, s99_0_0, s99_0_1, x99_13, r99_1_l, s99_1_0, s99_1_1, s99_1_2, s99_1_3, s99_1_4, s99_1_5, s99_1_6, s99_1_7, s99_1_8, x99_15, x99_16, x99_14, x99_12, x99_19, r99_2_l, s99_2_0, s99_2_1, s99_2_2, s99_2_3, s99_2_4, s99_2_5, s99_2_6, s99_2_7, s99_2_8, x99_21, x99_22, x99_20, x99_18, x99_25, r99_3_l, s99_3_0, s99_3_1, s99_3_2, s99_3_3, s99_3_4, s99_3_5, s99_3_6, s99_3_7, s99_3_8, s99_3_9, s99_3_10, s99_3_11, s99_3_12, s99_3_13, s99_3_14, x99_27, x99_28, x99_26, x99_24, x99_30, r99_4_l, s99_4_0, s99_4_1, s99_4_2, s99_4_3, s99_4_4, s99_4_5, x99_32, x99_33, x99_31, x99_29, x99_23, x99_17, x99_11, x99_34, x99_10, x99_9, x99_8, x99_7, x99_37, r99_5_l, s99_5_0, x99_38, x99_36, x99_35, x99_6, x99_5, x99_42, r99_6_l, s99_6_0, x99_43, x99_41, x99_40, x99_4, x99_3, x99_46, r99_7_l, s99_7_0, x99_47, x99_45, x99_2, x99_0, b_99, within]
theorem within_call {d : Nat} {site : Nat → Nat} {seen : List Nat} (s : Stone) : aBack site true seen (thaw (callA E fg 1000 (d + 1)) 99 [.agg [.int .i64 s.half, .int .i64 s.pos, .int .i64 s.least, .int .i64 s.most]] [] 0) = .pure (.int .i64 (within s), []) :=
  aBack_int (rs_ex (within_run s))
def checkL : List Stone → Int
  | [] => 0
  | s :: l => if within s = 0 then checkL l else within s
def check (l : List Stone) : Int := if (l.length : Int) = 0 then 4 else if (l.length : Int) > 5 then 3 else checkL l
theorem check_loop {d : Nat} (l : List Stone) (ex : Bool) (hl : l.length < 1000000) : ∀ (m k F : Nat) (H : AHeap), k + m = l.length → m < F →
    ∃ H', iterA (execA E (callA E fg 1000 (d + 1)) (fg 70) 0 26 [] 1000 c70_22) (headA []) F ([(16, .int .i64 k), (15, .int .i64 l.length), (14, .imm (pcells l) l.length ex)], H) =
      if checkL (l.drop k) = 0 then some (.exit 1, [(17, .bool false), (16, .int .i64 l.length), (15, .int .i64 l.length), (14, .imm (pcells l) l.length ex)], []) else some (.ret, [(2, .int .i64 (checkL (l.drop k)))], H')
  | 0, k, F + 1, H, hk, _ => by
    obtain rfl : k = l.length := by omega
    rw [iterA_succ]
    simp only [seqX_normal, seqX_exit, bindR_some, regX_some, condX_bool, run_nil, run_cons, fget_cons', fput_cons', forget_nil, forget_cons', gcM_n, stp, just, Rd.bind, Rd.run, Rd.opt, upds, aBin, aInt, Nat.reduceEqDiff, Nat.reduceLeDiff, ↓reduceIte, headA_drop, refsF, refsOf, decide_false, putD_some, List.append_nil, List.elem_nil, x70_23, r70_6_l, s70_6_0, x70_26, x70_27, x70_25, x70_24, x70_22, Int.lt_irrefl, decide_false, Bool.false_eq_true, List.drop_length, checkL]
    exact ⟨[], trivial⟩
  | m + 1, k, F + 1, H, hk, hF => by
    have hkl : k < l.length := by omega
    obtain ⟨s, hs⟩ := at_ex hkl
    have hd : l.drop k = s :: l.drop (k + 1) := by
      rw [List.drop_eq_getElem_cons hkl]
      rw [List.getElem?_eq_getElem hkl] at hs
      rw [Option.some.inj hs]
    obtain ⟨H', ih⟩ := check_loop l ex hl m (k + 1) F [(4, ⟨.box, sc s⟩)] (by omega) (by omega)
    simp only [sc] at ih
    rw [iterA_succ]
    simp only [seqX_normal, seqX_ret, seqX_ite, bindR_some, regX_some, condX_bool, blockX_normal, blockX_ret, blockX_ite, run_nil, run_cons, fget_cons', fput_nil, fput_cons', forget_nil, forget_cons', hget_nil', hget_cons', hset_nil', hset_cons', gcM_n, gcM_c, stp, opBox, just, Rd.bind, Rd.run, Rd.opt, upds, acells, zeroCells, tsz, rdCells, aLoad, aStore, opStore, fresh, aIndexAddr, aNum, aBin, aInt, putC, Nat.reduceAdd, Nat.reduceLT, Nat.reduceBEq, Nat.reduceEqDiff, Nat.reduceLeDiff, ↓reduceIte, reduceCtorEq, liveBlk_eq, Nat.zero_add, bne_iff_ne, ne_eq, ite_not, headA_drop, refsF, refsOf, List.nil_append, decide_true, frz, putD_some, putD_none, and_true, Int.natCast_nonneg, Int.ofNat_lt, Int.toNat_natCast, aCall, snaps, snap, List.append_nil, List.elem_cons, List.elem_nil, List.length_cons, List.length_nil, List.drop_zero, List.take_succ_cons, List.take_nil, List.set_cons_zero, List.set_cons_succ, T_22, T_45, x70_23, r70_6_l, s70_6_0, x70_26, x70_27, x70_25, x70_31, r70_7_l, s70_7_0, s70_7_1, s70_7_2, s70_7_3, x70_33, r70_8_l, s70_8_0, s70_8_1, s70_8_2, x70_35, r70_9_l, s70_9_0, s70_9_1, x70_38, r70_10_l, s70_10_0, s70_10_1, x70_39, x70_37, x70_40, x70_36, x70_34, x70_32, x70_30, x70_29, x70_41, r70_11_l, s70_11_0, s70_11_1, x70_28, x70_24, x70_22, hkl, pcells_length, pcells_at l k s hs, sc, pcells_off l k hkl, within_call, wrp_succ (Nat.lt_trans hkl hl), hd, checkL]
    by_cases hw : within s = 0
    · simp only [hw, if_true]
      exact ⟨H', ih⟩
    · simp only [hw, if_false]
      exact ⟨_, rfl⟩
theorem check_run {d : Nat} (l : List Stone) (ex : Bool) : rsOf (callA E fg 1000 (d + 2) 70 [.imm (pcells l) l.length ex] [] 0) = some (.int .i64 (check l)) := by
  change rsOf (bodyA E (callA E fg 1000 (d + 1)) fg 1000 70 _ _ _) = _
  by_cases h5 : (l.length : Int) > 5
  · by_cases h0 : (l.length : Int) = 0
    · omega
    · simp only [seqX_normal, seqX_ret, bindR_some, regX_some, condX_bool, blockX_ret, bodyX_ret, run_nil, run_cons, fget_cons', fput_cons', forget_nil, forget_cons', frame0, gcM_c, stp, just, Rd.bind, Rd.run, Rd.opt, upds, resA, resL, aLen, aBuiltin, aBin, aInt, Nat.reduceBEq, Nat.reduceEqDiff, Nat.reduceLeDiff, ↓reduceIte, reduceCtorEq, beq_iff_eq, List.getElem?_toArray, decide_true, putD_some, Option.map_some, List.elem_cons, List.elem_nil, List.getElem?_cons_zero, T_22, x70_1, r70_0_l, s70_0_0, x70_5, r70_1_l, s70_1_0, s70_1_1, s70_1_2, s70_1_3, x70_8, r70_2_l, s70_2_0, x70_9, x70_7, x70_11, r70_3_l, s70_3_0, s70_3_1, s70_3_2, s70_3_3, x70_14, r70_4_l, s70_4_0, x70_15, x70_13, x70_16, x70_12, x70_10, x70_6, x70_4, x70_3, x70_2, x70_0, b_70, check, h5, h0]
  · obtain ⟨H', h⟩ := check_loop (d := d) l ex (by omega) l.length 0 1000 [] (by omega) (by omega)
    simp only [List.drop_zero, Int.natCast_zero] at h
    by_cases h0 : (l.length : Int) = 0
    · simp only [seqX_normal, seqX_ret, bindR_some, regX_some, condX_bool, blockX_ret, bodyX_ret, run_nil, run_cons, fget_cons', fput_cons', forget_nil, forget_cons', frame0, gcM_c, stp, just, Rd.bind, Rd.run, Rd.opt, upds, resA, resL, aLen, aBuiltin, aBin, aInt, Nat.reduceBEq, Nat.reduceEqDiff, Nat.reduceLeDiff, ↓reduceIte, reduceCtorEq, decide_eq_true_eq, beq_iff_eq, List.getElem?_toArray, putD_some, Option.map_some, List.elem_cons, List.elem_nil, List.getElem?_cons_zero, T_22, x70_1, r70_0_l, s70_0_0, x70_5, r70_1_l, s70_1_0, s70_1_1, s70_1_2, s70_1_3, x70_8, r70_2_l, s70_2_0, x70_9, x70_7, x70_11, r70_3_l, s70_3_0, s70_3_1, s70_3_2, s70_3_3, x70_14, r70_4_l, s70_4_0, x70_15, x70_13, x70_16, x70_12, x70_10, x70_6, x70_4, x70_3, x70_2, x70_0, b_70, check, h0]
    · by_cases hc : checkL l = 0
      · simp only [hc, if_true] at h
        simp only [seqX_normal, bindR_some, regX_some, condX_bool, blockX_exit, blockX_normal, bodyX_ret, run_nil, run_cons, fget_cons', fput_nil, fput_cons', forget_nil, forget_cons', frame0, gcM_n, gcM_c, stp, just, Rd.bind, Rd.run, Rd.opt, upds, resA, resL, aLen, aBuiltin, aBin, aInt, Nat.reduceBEq, Nat.reduceEqDiff, Nat.reduceLeDiff, ↓reduceIte, reduceCtorEq, beq_iff_eq, List.getElem?_toArray, decide_false, putD_some, Option.map_some, List.elem_cons, List.elem_nil, List.getElem?_cons_zero, T_22, x70_1, r70_0_l, s70_0_0, x70_5, r70_1_l, s70_1_0, s70_1_1, s70_1_2, s70_1_3, x70_8, r70_2_l, s70_2_0, x70_9, x70_7, x70_11, r70_3_l, s70_3_0, s70_3_1, s70_3_2, s70_3_3, x70_14, r70_4_l, s70_4_0, x70_15, x70_13, x70_16, x70_12, x70_10, x70_6, x70_4, x70_3, x70_19, r70_5_l, s70_5_0, s70_5_1, s70_5_2, x70_21, x70_20, x70_18, x70_43, r70_12_l, s70_12_0, x70_44, x70_42, x70_17, x70_2, x70_0, b_70, check, h5, h0, h, hc]
      · simp only [hc, if_false] at h
        simp only [seqX_normal, seqX_ret, bindR_some, regX_some, condX_bool, blockX_normal, blockX_ret, bodyX_ret, run_nil, run_cons, fget_cons', fput_cons', forget_nil, forget_cons', frame0, gcM_c, stp, just, Rd.bind, Rd.run, Rd.opt, upds, resA, resL, aLen, aBuiltin, aBin, aInt, Nat.reduceBEq, Nat.reduceEqDiff, Nat.reduceLeDiff, ↓reduceIte, reduceCtorEq, beq_iff_eq, List.getElem?_toArray, decide_false, putD_some, Option.map_some, List.elem_cons, List.elem_nil, List.getElem?_cons_zero, T_22, x70_1, r70_0_l, s70_0_0, x70_5, r70_1_l, s70_1_0, s70_1_1, s70_1_2, s70_1_3, x70_8, r70_2_l, s70_2_0, x70_9, x70_7, x70_11, r70_3_l, s70_3_0, s70_3_1, s70_3_2, s70_3_3, x70_14, r70_4_l, s70_4_0, x70_15, x70_13, x70_16, x70_12, x70_10, x70_6, x70_4, x70_3, x70_19, r70_5_l, s70_5_0, s70_5_1, s70_5_2, x70_21, x70_20, x70_18, x70_17, x70_2, x70_0, b_70, check, h5, h0, h]
theorem check_nil {d : Nat} : rsOf (callA E fg 1000 (d + 2) 70 [.nilsl] [] 0) = some (.int .i64 (check [])) := by
  change rsOf (bodyA E (callA E fg 1000 (d + 1)) fg 1000 70 _ _ _) = _
  simp only [seqX_normal, seqX_ret, bindR_some, regX_some, condX_bool, blockX_ret, bodyX_ret, run_nil, run_cons, fget_cons', fput_cons', forget_nil, forget_cons', frame0, gcM_c, stp, just, Rd.bind, Rd.run, Rd.opt, upds, resA, resL, aLen, aBuiltin, aBin, aInt, Nat.reduceBEq, Nat.reduceEqDiff, Nat.reduceLeDiff, ↓reduceIte, reduceCtorEq, decide_eq_true_eq, beq_iff_eq, List.getElem?_toArray, putD_some, Option.map_some, List.elem_cons, List.elem_nil, List.length_nil, List.getElem?_cons_zero, T_22, x70_1, r70_0_l, s70_0_0, x70_5, r70_1_l, s70_1_0, s70_1_1, s70_1_2, s70_1_3, x70_8, r70_2_l, s70_2_0, x70_9, x70_7, x70_11, r70_3_l, s70_3_0, s70_3_1, s70_3_2, s70_3_3, x70_14, r70_4_l, s70_4_0, x70_15, x70_13, x70_16, x70_12, x70_10, x70_6, x70_4, x70_3, x70_2, x70_0, b_70, check, List.length_nil, Int.natCast_zero]
/-- A pile as it is handed on. -/
def IsP (a : AV) (l : List Stone) : Prop := (a = .nilsl ∧ l = []) ∨ ∃ ex, a = .imm (pcells l) l.length ex
theorem check_call {d : Nat} {site : Nat → Nat} {seen : List Nat} {a : AV} {l : List Stone} (h : IsP a l) : aBack site true seen (thaw (callA E fg 1000 (d + 2)) 70 [a] [] 0) = .pure (.int .i64 (check l), []) := by
  rcases h with ⟨rfl, rfl⟩ | ⟨ex, rfl⟩
  · exact aBack_int (rs_ex check_nil)
  · exact aBack_int (rs_ex (check_run l ex))
structure OkP (l : List Stone) : Prop where
  ne : 0 < l.length
  le : l.length ≤ 5
  fits : ∀ (k : Nat) (s : Stone), l[k]? = some s → Fits s
theorem checkL_zero : ∀ {l : List Stone}, checkL l = 0 ↔ ∀ (k : Nat) (s : Stone), l[k]? = some s → Fits s
  | [] => by simp [checkL]
  | a :: l => by
    simp only [checkL]
    constructor
    · intro h k s hs
      split at h
      · rename_i hw
        cases k with
        | zero => simp at hs; subst hs; exact within_zero.1 hw
        | succ k => simp at hs; exact checkL_zero.1 h k s hs
      · rename_i hw; exact absurd h hw
    · intro h
      rw [if_pos (within_zero.2 (h 0 a (by simp)))]
      exact checkL_zero.2 fun k s hs => h (k + 1) s (by simpa using hs)
theorem check_zero {l : List Stone} : check l = 0 ↔ OkP l := by
  unfold check
  constructor
  · intro h
    split at h
    · simp at h
    · split at h
      · simp at h
      · exact ⟨by omega, by omega, checkL_zero.1 h⟩
  · rintro ⟨h1, h2, h3⟩
    rw [if_neg (by omega), if_neg (by omega)]
    exact checkL_zero.2 h3
end Go.AM.Ytmhbnflnlglljaa
end

section
namespace Go.AM.Ytmhbnflnlglljaa
open Go Go.AM
set_option maxRecDepth 100000
set_option maxHeartbeats 1000000
def sumF (F : Nat → Int) (k : Nat) : Nat → Int
  | 0 => 0
  | m + 1 => sumF F k m + F (k + m)
theorem sumF_bound {F : Nat → Int} {M : Int} (hM : 0 ≤ M) {k n : Nat} (h : ∀ i, k ≤ i → i < n → -M ≤ F i ∧ F i ≤ M) : ∀ m, k + m ≤ n → -(M * m) ≤ sumF F k m ∧ sumF F k m ≤ M * m
  | 0, _ => by simp [sumF]
  | m + 1, hm => by
    obtain ⟨h1, h2⟩ := sumF_bound hM h m (by omega)
    obtain ⟨h3, h4⟩ := h (k + m) (by omega) (by omega)
    have e : M * ((m + 1 : Nat) : Int) = M * m + M := by rw [Int.natCast_add, Int.mul_add]; simp
    rw [e]
    simp only [sumF]
    omega
/-- A closure that is asked about the elements of a list, none of the heap's own. -/
structure Asks (C : Callee) (f : AV) (g : Nat → List AV) (F : Nat → Int) (k n : Nat) : Prop where
  pure_ : ∀ args, mutV E f args = none
  ask : ∀ (site : Nat → Nat) (i : Nat), k ≤ i → i < n → opCallV E C site true f (.int .i64 i :: g i) = .pure (.int .i64 (F i), [])
theorem sumP_run {C : Callee} {l : List Stone} {ex : Bool} {f : AV} {F : Nat → Int} {k : Nat} (hk : k ≤ l.length) (hl : l.length ≤ 5) (hf : Asks C f (fun i => [.agg (sc (l.getD i default))]) F k l.length) (hr : refsOf f = [])
    (hb : ∀ i, k ≤ i → i < l.length → -1000000000000 ≤ F i ∧ F i ≤ 1000000000000) : rsOf (bodyA E C fg 1000 114 [.imm (pcells l) l.length ex, .int .i64 k, f] [] 0) = some (.int .i64 (sumF F k (l.length - k))) := by
  have hloop := iter_all (f := execA E C (fg 114) 0 26 [] 1000 c114_9) (hd := headA []) (fun i => ([(8, .int .i64 i), (7, .int .i64 (sumF F k (i - k))), (2, f), (0, .imm (pcells l) l.length ex)], [])) (l.length - k) 1000 k
    ([(8, .int .i64 k), (7, .int .i64 0), (2, f), (0, .imm (pcells l) l.length ex)], []) (by simp [headA_nil, sumF]) (by omega) (fun i h1 h2 => by
      have hil : i < l.length := by omega
      obtain ⟨s, hs⟩ := at_ex hil
      have hg : l.getD i default = s := by simp [hs]
      have ha := fun site => hf.ask site i h1 hil
      simp only [hg, sc] at ha
      obtain ⟨b1, b2⟩ := sumF_bound (M := 1000000000000) (by omega) hb (i - k) (by omega)
      obtain ⟨b3, b4⟩ := hb i h1 hil
      have e : sumF F k (i + 1 - k) = sumF F k (i - k) + F i := by
        rw [show i + 1 - k = (i - k) + 1 by omega]; simp only [sumF, show k + (i - k) = i by omega]
      have hw : wrp .i64 (sumF F k (i - k) + F i) = sumF F k (i + 1 - k) := by rw [e]; exact wrp64 (by omega)
      simp only [seqX_normal, bindR_some, regX_some, condX_bool, blockX_normal, run_nil, run_cons, fget_cons', fput_cons', forget_nil, forget_cons', gcM_c, stp, just, Rd.bind, Rd.run, Rd.opt, upds, tsz, rdCells, aLoad, aIndexAddr, aNum, aLen, aBuiltin, aBin, aInt, Nat.reduceMul, Nat.reduceLT, Nat.reduceBEq, Nat.reduceEqDiff, Nat.reduceLeDiff, ↓reduceIte, reduceCtorEq, Nat.zero_add, List.getElem?_toArray, decide_true, putD_some, and_true, Int.natCast_nonneg, Int.ofNat_lt, Int.toNat_natCast, List.elem_cons, List.elem_nil, List.getElem?_cons_zero, T_45, T_164, x114_11, r114_3_l, s114_3_0, s114_3_1, s114_3_2, s114_3_3, x114_13, x114_14, x114_12, x114_10, x114_17, r114_5_l, s114_5_0, s114_5_1, s114_5_2, s114_5_3, s114_5_4, s114_5_5, s114_5_6, s114_5_7, s114_5_8, s114_5_9, x114_16, x114_18, r114_4_l, s114_4_0, s114_4_1, s114_4_2, x114_15, x114_9, callV_eq (hf.pure_ _), hil, pcells_length, pcells_at l i s hs, sc, pcells_off l i hil, ha, hw, wrp_succ (show i < 1000000 by omega)]
      exact ⟨_, rfl, by simp only [headA_nil]⟩) (e := .exit 0) (se := ([(13, .bool false), (8, .int .i64 l.length), (7, .int .i64 (sumF F k (l.length - k))), (2, f), (0, .imm (pcells l) l.length ex)], [])) (by
      rw [show k + (l.length - k) = l.length by omega]
      simp only [seqX_normal, seqX_exit, bindR_some, regX_some, condX_bool, run_nil, run_cons, fget_cons', fput_cons', forget_nil, forget_cons', gcM_c, stp, just, Rd.bind, Rd.run, Rd.opt, upds, aLen, aBuiltin, aBin, aInt, Nat.reduceBEq, Nat.reduceEqDiff, Nat.reduceLeDiff, ↓reduceIte, reduceCtorEq, List.getElem?_toArray, decide_false, putD_some, List.elem_cons, List.elem_nil, List.getElem?_cons_zero, T_164, x114_11, r114_3_l, s114_3_0, s114_3_1, s114_3_2, s114_3_3, x114_13, x114_14, x114_12, x114_10, x114_9, Int.lt_irrefl, decide_false, Bool.false_eq_true]) (by simp)
  simp only [seqX_normal, bindR_some, regX_some, blockX_exit, bodyX_ret, run_nil, run_cons, fget_cons', fput_nil, fput_cons', forget_nil, forget_cons', frame0, gcM_n, gcM_c, resA, resL, Nat.reduceAdd, Nat.reduceBEq, Nat.reduceEqDiff, Nat.reduceLeDiff, ↓reduceIte, reduceCtorEq, Nat.zero_add, Option.map_some, List.elem_cons, List.elem_nil, x114_1, r114_0_l, s114_0_0, x114_3, r114_1_l, s114_1_0, x114_6, r114_2_l, s114_2_0, s114_2_1, x114_8, x114_7, x114_5, x114_20, r114_6_l, s114_6_0, s114_6_1, x114_21, x114_19, x114_4, x114_2, x114_0, b_114, hloop]
theorem sumI_run {C : Callee} {l : List Int} {ex : Bool} {f : AV} {F : Nat → Int} {k : Nat} (hk : k ≤ l.length) (hl : l.length ≤ 5) (hf : Asks C f (fun i => [.int .i64 (l.getD i 0)]) F k l.length)
    (hb : ∀ i, k ≤ i → i < l.length → -1000000000000 ≤ F i ∧ F i ≤ 1000000000000) : rsOf (bodyA E C fg 1000 72 [.imm (icells l) l.length ex, .int .i64 k, f] [] 0) = some (.int .i64 (sumF F k (l.length - k))) := by
  have hloop := iter_all (f := execA E C (fg 72) 0 26 [] 1000 c72_9) (hd := headA []) (fun i => ([(8, .int .i64 i), (7, .int .i64 (sumF F k (i - k))), (2, f), (0, .imm (icells l) l.length ex)], [])) (l.length - k) 1000 k
    ([(8, .int .i64 k), (7, .int .i64 0), (2, f), (0, .imm (icells l) l.length ex)], []) (by simp [headA_nil, sumF]) (by omega) (fun i h1 h2 => by
      have hil : i < l.length := by omega
      obtain ⟨s, hs⟩ := at_ex hil
      have hg : l.getD i 0 = s := by simp [hs]
      have ha := fun site => hf.ask site i h1 hil
      simp only [hg] at ha
      obtain ⟨b1, b2⟩ := sumF_bound (M := 1000000000000) (by omega) hb (i - k) (by omega)
      obtain ⟨b3, b4⟩ := hb i h1 hil
      have e : sumF F k (i + 1 - k) = sumF F k (i - k) + F i := by
        rw [show i + 1 - k = (i - k) + 1 by omega]; simp only [sumF, show k + (i - k) = i by omega]
      have hw : wrp .i64 (sumF F k (i - k) + F i) = sumF F k (i + 1 - k) := by rw [e]; exact wrp64 (by omega)
      simp only [seqX_normal, bindR_some, regX_some, condX_bool, blockX_normal, run_nil, run_cons, fget_cons', fput_cons', forget_nil, forget_cons', gcM_c, stp, just, Rd.bind, Rd.run, Rd.opt, upds, tsz, rdCells, aLoad, aIndexAddr, aNum, aLen, aBuiltin, aBin, aInt, Nat.reduceMul, Nat.reduceLT, Nat.reduceBEq, Nat.reduceEqDiff, Nat.reduceLeDiff, ↓reduceIte, reduceCtorEq, Nat.zero_add, List.getElem?_toArray, decide_true, putD_some, and_true, Int.natCast_nonneg, Int.ofNat_lt, Int.toNat_natCast, List.elem_cons, List.elem_nil, List.getElem?_cons_zero, T_3, T_119, x72_11, r72_3_l, s72_3_0, s72_3_1, s72_3_2, s72_3_3, x72_13, x72_14, x72_12, x72_10, x72_17, r72_5_l, s72_5_0, s72_5_1, s72_5_2, s72_5_3, s72_5_4, s72_5_5, s72_5_6, s72_5_7, s72_5_8, s72_5_9, x72_16, x72_18, r72_4_l, s72_4_0, s72_4_1, s72_4_2, x72_15, x72_9, callV_eq (hf.pure_ _), hil, icells_length, icells_at hs, Nat.mul_one, ha, hw, wrp_succ (show i < 1000000 by omega)]
      exact ⟨_, rfl, by simp only [headA_nil]⟩) (e := .exit 0) (se := ([(13, .bool false), (8, .int .i64 l.length), (7, .int .i64 (sumF F k (l.length - k))), (2, f), (0, .imm (icells l) l.length ex)], [])) (by
      rw [show k + (l.length - k) = l.length by omega]
      simp only [seqX_normal, seqX_exit, bindR_some, regX_some, condX_bool, run_nil, run_cons, fget_cons', fput_cons', forget_nil, forget_cons', gcM_c, stp, just, Rd.bind, Rd.run, Rd.opt, upds, aLen, aBuiltin, aBin, aInt, Nat.reduceBEq, Nat.reduceEqDiff, Nat.reduceLeDiff, ↓reduceIte, reduceCtorEq, List.getElem?_toArray, decide_false, putD_some, List.elem_cons, List.elem_nil, List.getElem?_cons_zero, T_119, x72_11, r72_3_l, s72_3_0, s72_3_1, s72_3_2, s72_3_3, x72_13, x72_14, x72_12, x72_10, x72_9, Int.lt_irrefl, decide_false, Bool.false_eq_true]) (by simp)
  simp only [seqX_normal, bindR_some, regX_some, blockX_exit, bodyX_ret, run_nil, run_cons, fget_cons', fput_nil, fput_cons', forget_nil, forget_cons', frame0, gcM_n, gcM_c, resA, resL, Nat.reduceAdd, Nat.reduceBEq, Nat.reduceEqDiff, Nat.reduceLeDiff, ↓reduceIte, reduceCtorEq, Nat.zero_add, Option.map_some, List.elem_cons, List.elem_nil, x72_1, r72_0_l, s72_0_0, x72_3, r72_1_l, s72_1_0, x72_6, r72_2_l, s72_2_0, s72_2_1, x72_8, x72_7, x72_5, x72_20, r72_6_l, s72_6_0, s72_6_1, x72_21, x72_19, x72_4, x72_2, x72_0, b_72, hloop]
end Go.AM.Ytmhbnflnlglljaa
end

section
namespace Go.AM.Ytmhbnflnlglljaa
open Go Go.AM
set_option maxRecDepth 100000
set_option maxHeartbeats 1000000
def leftE (l : List Stone) : Nat → Int
  | 0 => -268435456
  | k + 1 => (l.getD k default).pos - (l.getD k default).half
def rightE (l : List Stone) : Nat → Int
  | 0 => 0
  | k + 1 => (l.getD k default).pos + (l.getD k default).half
theorem edge_bounds {l : List Stone} (h : OkP l) {k : Nat} (hk : k ≤ l.length) : -268435456 ≤ leftE l k ∧ leftE l k ≤ 37748736 ∧ -37748736 ≤ rightE l k ∧ rightE l k ≤ 37748736 := by
  cases k with
  | zero => simp [leftE, rightE]
  | succ k =>
    obtain ⟨s, hs⟩ := at_ex (show k < l.length by omega)
    obtain ⟨h1, h2, p1, p2, _, _, _⟩ := h.fits k s hs
    simp only [leftE, rightE, List.getD_eq_getElem?_getD, hs, Option.getD_some]
    omega
theorem edges_run {C : Callee} {l : List Stone} {ex : Bool} (h : OkP l) {k : Nat} (hk : k ≤ l.length) : rsOf (bodyA E C fg 1000 101 [.imm (pcells l) l.length ex, .int .i64 k] [] 0) = some (.tup [.int .i64 (leftE l k), .int .i64 (rightE l k)]) := by
  cases k with
  | zero => simp only [seqX_normal, seqX_ret, bindR_some, regX_some, condX_bool, bodyX_ret, run_nil, run_cons, fget_cons', fput_cons', forget_nil, forget_cons', frame0, gcM_c, stp, just, Rd.bind, Rd.run, Rd.opt, upds, resA, resL, aBin, aInt, Nat.reduceBEq, Nat.reduceEqDiff, Nat.reduceLeDiff, Int.reduceNeg, ↓reduceIte, reduceCtorEq, Nat.zero_add, beq_iff_eq, putD_some, Option.map_some, List.elem_cons, List.elem_nil, x101_1, r101_0_l, s101_0_0, s101_0_1, x101_4, r101_1_l, s101_1_0, s101_1_1, x101_7, r101_2_l, s101_2_0, s101_2_1, x101_8, x101_6, x101_9, x101_5, x101_3, x101_2, x101_0, b_101, leftE, rightE, Int.natCast_zero]
  | succ k =>
    have hkl : k < l.length := by omega
    obtain ⟨s, hs⟩ := at_ex hkl
    obtain ⟨h1, h2, p1, p2, _, _, _⟩ := h.fits k s hs
    have e0 : ((k + 1 : Nat) : Int) ≠ 0 := by omega
    have e1 : wrp .i64 (((k + 1 : Nat) : Int) - 1) = (k : Int) := by rw [wrp64 (by have := h.le; omega)]; omega
    have e2 : wrp .i64 (s.pos - s.half) = s.pos - s.half := wrp64 (by omega)
    have e3 : wrp .i64 (s.pos + s.half) = s.pos + s.half := wrp64 (by omega)
    have f2 : (l.getD k default) = s := by simp [hs]
    simp only [seqX_normal, bindR_some, regX_some, condX_bool, Bool.not_true, Bool.not_false, bodyX_ret, run_nil, run_cons, fget_cons', fput_nil, fput_cons', forget_nil, forget_cons', hget_nil', hget_cons', hset_nil', hset_cons', frame0, gcM_c, stp, opBox, just, Rd.bind, Rd.run, Rd.opt, upds, acells, zeroCells, tsz, rdCells, fieldOf, aFieldAddr, aLoad, aStore, opStore, resA, resL, fresh, aIndexAddr, aNum, aBin, aInt, putC, Nat.reduceAdd, Nat.reduceLT, Nat.reduceBEq, Nat.reduceEqDiff, Nat.reduceLeDiff, Int.reduceNeg, ↓reduceIte, reduceCtorEq, liveBlk_eq, Nat.zero_add, Nat.add_zero, beq_iff_eq, List.nil_append, rtX_some, addT_some, drX_some, runT_nil, runT_cons, neat_eq, descF_nil', descF_cons', ascH_nil', ascH_cons', stpT, Rd.foot, writing, touching, Tr.empty, dynPairs, apartT, disj, List.isEmpty_nil, List.isEmpty_cons, List.map_nil, Bool.not_false, Bool.not_true, Bool.true_or, Bool.or_false, Bool.and_true, Bool.true_and, Bool.and_self, decide_true, frz, putD_some, putD_none, and_true, Int.natCast_nonneg, Int.ofNat_lt, Int.toNat_natCast, snaps, snap, List.append_nil, Option.map_some, List.elem_cons, List.elem_nil, List.length_cons, List.length_nil, List.getElem?_cons_zero, List.getElem?_cons_succ, List.set_cons_zero, List.set_cons_succ, T_3, T_22, T_45, x101_1, r101_0_l, s101_0_0, s101_0_1, x101_4, r101_1_l, s101_1_0, s101_1_1, x101_7, r101_2_l, s101_2_0, s101_2_1, x101_8, x101_6, x101_9, x101_5, x101_3, x101_11, r101_3_l, s101_3_0, s101_3_1, s101_3_2, s101_3_3, s101_3_4, s101_3_5, s101_3_6, x101_13, r101_4_l, r101_4_dr, r101_4_an, s101_4_0, s101_4_1, s101_4_2, s101_4_3, s101_4_4, s101_4_5, s101_4_6, s101_4_7, s101_4_8, s101_4_9, s101_4_10, s101_4_11, x101_14, x101_12, x101_10, x101_2, x101_0, b_101, leftE, rightE, e0, e1, hkl, pcells_length, pcells_at l k s hs, sc, pcells_off l k hkl, e2, e3, f2]
theorem edges_call {d : Nat} {site : Nat → Nat} {seen : List Nat} {l : List Stone} {ex : Bool} (h : OkP l) {k : Nat} (hk : k ≤ l.length) :
    aBack site true seen (thaw (callA E fg 1000 (d + 1)) 101 [.imm (pcells l) l.length ex, .int .i64 k] [] 0) = .pure (.tup [.int .i64 (leftE l k), .int .i64 (rightE l k)], []) :=
  aBack_ints (rs_ex (edges_run h hk))
/-- The closure that tells how far a stone is beyond an edge. -/
def farV (side right left : Int) : AV := .clo 102 [.iptr [.int .i64 side] 0, .iptr [.int .i64 right] 0, .iptr [.int .i64 left] 0]
def far (side right left : Int) (s : Stone) : Int := if side > 0 then s.pos - right else left - s.pos
theorem beyond_run {d : Nat} {l : List Stone} {ex : Bool} (h : OkP l) {k : Nat} (hk : k ≤ l.length) (side : Int) : ∃ H', thaw (callA E fg 1000 (d + 2)) 88 [.imm (pcells l) l.length ex, .int .i64 k, .int .i64 side] [] 0 = some (farV side (rightE l k) (leftE l k), H') := by
  have e : callA E fg 1000 (d + 2) 88 [.imm (pcells l) l.length ex, .int .i64 k, .int .i64 side] [] 0 = bodyA E (callA E fg 1000 (d + 1)) fg 1000 88 [.imm (pcells l) l.length ex, .int .i64 k, .int .i64 side] [] 0 := rfl
  simp only [thaw, e]
  simp only [seqX_normal, bindR_some, regX_some, bodyX_ret, run_nil, run_cons, fget_cons', fput_cons', forget_nil, forget_cons', hget_nil', hget_cons', hset_nil', hset_cons', frame0, gcM_c, stp, opBox, justO, Rd.bind, Rd.run, upds, acells, zeroCells, tsz, aStore, opStore, opExtract, resA, resL, fresh, putC, Nat.reduceAdd, Nat.reduceBEq, Nat.reduceEqDiff, Nat.reduceLeDiff, ↓reduceIte, reduceCtorEq, liveBlk_eq, Nat.zero_add, List.nil_append, Bool.and_self, frz, putD_some, putD_none, and_true, aCall, snaps, snap, List.append_nil, Option.map_some, List.elem_cons, List.elem_nil, List.length_cons, List.length_nil, List.getElem?_cons_zero, List.getElem?_cons_succ, List.set_cons_zero, T_3, x88_1, r88_0_l, s88_0_0, s88_0_1, x88_3, r88_1_l, s88_1_0, s88_1_1, s88_1_2, s88_1_3, s88_1_4, s88_1_5, s88_1_6, s88_1_7, s88_1_8, s88_1_9, x88_5, r88_2_l, s88_2_0, s88_2_1, x88_6, x88_4, x88_2, x88_0, b_88, edges_call h hk, frzRet, frz, List.all_cons, List.all_nil, AV.flat, List.cons_append, farV]
  exact ⟨_, rfl⟩
theorem beyond_call {d : Nat} {site : Nat → Nat} {l : List Stone} {ex : Bool} (h : OkP l) {k : Nat} (hk : k ≤ l.length) (side : Int) :
    aBack site true [] (thaw (callA E fg 1000 (d + 2)) 88 [.imm (pcells l) l.length ex, .int .i64 k, .int .i64 side] [] 0) = .pure (farV side (rightE l k) (leftE l k), []) := by
  obtain ⟨H', e⟩ := beyond_run (d := d) (ex := ex) h hk side
  rw [e]
  rfl
theorem far_run {C : Callee} (s : Stone) (side right left : Int) (hs : Fits s) (h1 : -268435456 ≤ left ∧ left ≤ 37748736 ∧ -37748736 ≤ right ∧ right ≤ 37748736) :
    rsOf (bodyA E C fg 1000 102 [.agg (sc s), .iptr [.int .i64 side] 0, .iptr [.int .i64 right] 0, .iptr [.int .i64 left] 0] [] 0) = some (.int .i64 (far side right left s)) := by
  obtain ⟨_, _, p1, p2, _, _, _⟩ := hs
  have e1 : wrp .i64 (s.pos - right) = s.pos - right := wrp64 (by omega)
  have e2 : wrp .i64 (left - s.pos) = left - s.pos := wrp64 (by omega)
  simp only [sc, seqX_normal, seqX_ret, seqX_ite, bindR_some, regX_some, condX_bool, bodyX_ite, bodyX_ret, run_nil, run_cons, fget_cons', fput_cons', forget_nil, forget_cons', hget_nil', hget_cons', hset_nil', frame0, gcM_c, stp, opBox, just, Rd.bind, Rd.run, Rd.opt, upds, acells, rdCells, fieldOf, aFieldAddr, aLoad, resA, resL, fresh, aBin, aInt, Nat.reduceAdd, Nat.reduceBEq, Nat.reduceEqDiff, Nat.reduceLeDiff, ↓reduceIte, reduceCtorEq, liveBlk_eq, decide_eq_true_eq, Nat.zero_add, rs_ite, m_int, putD_some, Option.map_some, List.elem_cons, List.elem_nil, List.length_cons, List.length_nil, List.getElem?_cons_zero, List.getElem?_cons_succ, T_3, T_45, x102_1, r102_0_l, s102_0_0, s102_0_1, x102_4, r102_1_l, s102_1_0, s102_1_1, x102_7, r102_2_l, s102_2_0, s102_2_1, s102_2_2, s102_2_3, s102_2_4, x102_8, x102_6, x102_9, x102_5, x102_3, x102_11, r102_3_l, s102_3_0, s102_3_1, s102_3_2, s102_3_3, s102_3_4, x102_12, x102_10, x102_2, x102_0, b_102, far, e1, e2]
theorem far_bound {s : Stone} {side right left : Int} (hs : Fits s) (h1 : -268435456 ≤ left ∧ left ≤ 37748736 ∧ -37748736 ≤ right ∧ right ≤ 37748736) : -301989888 ≤ far side right left s ∧ far side right left s ≤ 71303168 := by
  obtain ⟨_, _, p1, p2, _, _, _⟩ := hs
  unfold far; split <;> omega
theorem far_ask {d : Nat} {site : Nat → Nat} (s : Stone) (side right left : Int) (hs : Fits s) (h1 : -268435456 ≤ left ∧ left ≤ 37748736 ∧ -37748736 ≤ right ∧ right ≤ 37748736) :
    opCallV E (callA E fg 1000 (d + 1)) site true (farV side right left) [.agg [.int .i64 s.half, .int .i64 s.pos, .int .i64 s.least, .int .i64 s.most]] = .pure (.int .i64 (far side right left s), []) := by
  have := aBack_int (site := site) (seen := []) (rs_ex (far_run (C := callA E fg 1000 d) s side right left hs h1))
  simp only [sc] at this
  simp only [opCallV, farV, fi_102, aCall, List.cons_append, List.nil_append, snaps, snap, Rd.bind]
  exact this
theorem far_pure (side right left : Int) (args : List AV) : mutV E (farV side right left) args = none := rfl
def wt (s : Stone) (b : Int) : Int := if b > 0 then s.most else s.least
theorem worst_run {C : Callee} (s : Stone) (b : Int) : rsOf (bodyA E C fg 1000 89 [.agg (sc s), .int .i64 b] [] 0) = some (.int .i64 (wt s b)) := by
  simp only [sc, seqX_normal, seqX_ret, seqX_ite, bindR_some, regX_some, condX_bool, bodyX_ite, bodyX_ret, run_nil, run_cons, fget_cons', fput_cons', forget_nil, forget_cons', hget_nil', hget_cons', hset_nil', frame0, gcM_c, stp, opBox, just, Rd.bind, Rd.run, Rd.opt, upds, acells, rdCells, fieldOf, aFieldAddr, aLoad, resA, resL, fresh, aBin, aInt, Nat.reduceAdd, Nat.reduceBEq, Nat.reduceEqDiff, Nat.reduceLeDiff, ↓reduceIte, reduceCtorEq, liveBlk_eq, decide_eq_true_eq, Nat.zero_add, rs_ite, m_int, putD_some, Option.map_some, List.elem_cons, List.elem_nil, List.length_cons, List.length_nil, List.getElem?_cons_zero, List.getElem?_cons_succ, T_3, T_45, x89_1, r89_0_l, s89_0_0, s89_0_1, x89_4, r89_1_l, s89_1_0, s89_1_1, x89_7, r89_2_l, s89_2_0, s89_2_1, s89_2_2, x89_8, x89_6, x89_9, x89_5, x89_3, x89_11, r89_3_l, s89_3_0, s89_3_1, s89_3_2, x89_12, x89_10, x89_2, x89_0, b_89, wt]
theorem worst_call {d : Nat} {site : Nat → Nat} {seen : List Nat} (s : Stone) (b : Int) : aBack site true seen (thaw (callA E fg 1000 (d + 1)) 89 [.agg [.int .i64 s.half, .int .i64 s.pos, .int .i64 s.least, .int .i64 s.most], .int .i64 b] [] 0) = .pure (.int .i64 (wt s b), []) :=
  aBack_int (rs_ex (worst_run s b))
/-- What a stone adds in the worst truth. -/
def term (side right left : Int) (s : Stone) : Int := wt s (far side right left s) * far side right left s
theorem mul_bound {w x M : Int} (h1 : 0 ≤ w) (h2 : w ≤ 9) (h3 : -M ≤ x) (h4 : x ≤ M) : -(9 * M) ≤ w * x ∧ w * x ≤ 9 * M := by
  have hM : 0 ≤ M := by omega
  have a1 : w * x ≤ w * M := Int.mul_le_mul_of_nonneg_left h4 h1
  have a2 : w * M ≤ 9 * M := Int.mul_le_mul_of_nonneg_right h2 hM
  have a3 : w * (-M) ≤ w * x := Int.mul_le_mul_of_nonneg_left h3 h1
  have a4 : w * (-M) = -(w * M) := Int.mul_neg _ _
  omega
theorem term_bound {s : Stone} {side right left : Int} (hs : Fits s) (h1 : -268435456 ≤ left ∧ left ≤ 37748736 ∧ -37748736 ≤ right ∧ right ≤ 37748736) : -2717908992 ≤ term side right left s ∧ term side right left s ≤ 2717908992 := by
  obtain ⟨a, b⟩ := far_bound (side := side) hs h1
  obtain ⟨_, _, _, _, l1, lm, m9⟩ := hs
  have := mul_bound (w := wt s (far side right left s)) (x := far side right left s) (M := 301989888) (by unfold wt; split <;> omega) (by unfold wt; split <;> omega) a (by omega)
  unfold term
  omega
theorem mayTerm_run {d : Nat} (i : Int) (s : Stone) (side right left : Int) (hs : Fits s) (h1 : -268435456 ≤ left ∧ left ≤ 37748736 ∧ -37748736 ≤ right ∧ right ≤ 37748736) :
    rsOf (bodyA E (callA E fg 1000 (d + 1)) fg 1000 115 [.int .i64 i, .agg (sc s), .iptr [farV side right left] 0] [] 0) = some (.int .i64 (term side right left s)) := by
  obtain ⟨b1, b2⟩ := term_bound (side := side) hs h1
  have e : wrp .i64 (wt s (far side right left s) * far side right left s) = term side right left s := wrp64 (by unfold term at b1 b2; omega)
  simp only [sc, seqX_normal, bindR_some, regX_some, Bool.not_true, Bool.not_false, bodyX_ret, run_nil, run_cons, fget_cons', fput_cons', forget_nil, forget_cons', hget_nil', hget_cons', hset_nil', frame0, gcM_c, stp, opBox, just, Rd.bind, Rd.run, Rd.opt, upds, acells, rdCells, aLoad, resA, resL, fresh, aBin, aInt, Nat.reduceAdd, Nat.reduceMul, Nat.reduceBEq, Nat.reduceEqDiff, Nat.reduceLeDiff, ↓reduceIte, reduceCtorEq, liveBlk_eq, Nat.zero_add, rtX_some, addT_some, drX_some, runT_nil, runT_cons, neat_eq, descF_nil', descF_cons', ascH_nil', ascH_cons', stpT, Rd.foot, writing, touching, Tr.empty, dynPairs, apartT, disj, List.isEmpty_nil, List.isEmpty_cons, List.map_nil, Bool.not_false, Bool.not_true, Bool.true_or, Bool.or_false, Bool.and_true, Bool.true_and, Bool.and_self, decide_true, putD_some, aCall, snaps, snap, List.append_nil, Option.map_some, List.elem_cons, List.elem_nil, List.length_cons, List.length_nil, List.getElem?_cons_zero, List.drop_zero, List.take_succ_cons, List.take_nil, T_45, T_138, x115_1, r115_0_l, s115_0_0, s115_0_1, x115_3, r115_1_l, r115_1_dr, r115_1_an, s115_1_0, s115_1_1, s115_1_2, s115_1_3, s115_1_4, s115_1_5, s115_1_6, s115_1_7, s115_1_8, s115_1_9, x115_4, x115_2, x115_0, b_115, callVT_eq (far_pure _ _ _ _), far_ask s side right left hs h1, worst_call, e]
end Go.AM.Ytmhbnflnlglljaa
end
