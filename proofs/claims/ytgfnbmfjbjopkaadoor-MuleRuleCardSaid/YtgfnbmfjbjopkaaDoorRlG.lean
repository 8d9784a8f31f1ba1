/- A part of the proof of muleRule_card: MBase, AmSy, SyA, AmBk, Bas, Cel. Own work of this project; texts printed by own programs among it. -/
import Derived.Test.YtgfnbmfjbjopkaaDoorRows
import Derived.Test.YtgfnbmfjbjopkaaDoorChecked
import Derived.ProofKit
import Derived.OpenShut
import Derived.LaidLaws
import Derived.Handed
import Derived.KernelRfl
import Derived.Test.YtgfnbmfjbjopkaaDoorRlF
section
namespace Go.AM.YtgfnbmfjbjopkaaDoor
open Go Go.AM Go.RowKit Go.Proofs Go.Proofs.YtgfnbmfjbjopkaaDoor Go.ChangeShapes Go.WideShapes
set_option maxRecDepth 1000000
theorem own : ownKnob Tryd.prog.godebug = none := by kernel_rfl
theorem laidOut : laidOutB Tryd.prog = true := by kernel_rfl
/-- An array of integers, read back out of what is laid. -/
theorem ints_of_trod {H : Type} {enc : TypeId × Value → H} {P : Program} {w : World} {base : Nat} {spare : Nat → Bool} {hld : Bool} {fuel : Nat} {t e : TypeId} {cs : List Value} {n : Nat} {k : IntKind} {l : List Int} {p : List MemPlace}
    (ht : P.underlying t = some (.array n e)) (he : P.underlying e = some (.int k)) (hc : P.cellsOf e = 1) (h : DataW.trod enc P w base spare hld fuel t cs = some (.agg (l.map fun z => .lit (.int k z)), p)) :
    ∀ (i : Nat) (z : Int), l[i]? = some z → cs[i]? = some (.int k z) := by
  obtain ⟨xs, m, _, hx, _, hl, hi⟩ := DataW.trod_array ht h
  simp only [Prod.mk.injEq, DataW.agg.injEq] at hx
  intro i z hz
  have hlen : l.length = xs.length := by have := congrArg List.length hx.1; simpa using this
  have hlt : i < n := by rw [← hl, ← hlen]; exact (List.getElem?_eq_some_iff.1 hz).1
  have h1 := hi i hlt
  have hxi : xs[i]? = some xs[i] := List.getElem?_eq_getElem (by omega)
  rw [hxi, hc, Nat.mul_one] at h1
  obtain ⟨s, q1, q2, _⟩ := DataW.trod_int he h1
  have h2 := congrArg (fun y => y[i]?) hx.1
  simp only [List.getElem?_map, hz, hxi, Option.map_some, q2, Option.some.injEq, DataW.lit.injEq, Lit.int.injEq, true_and] at h2
  subst h2
  have h3 := congrArg (fun y => y[0]?) q1
  simp only [List.getElem?_take, List.getElem?_drop, Nat.add_zero] at h3
  simpa using h3
def intsOf : DataW Unit → List Int
  | .agg ds => ds.map fun
    | .lit (.int _ z) => z
    | _ => 0
  | _ => []
noncomputable def tab0 : List Int := intsOf Rows.laid_math_bits_deBruijn32tab
noncomputable def tab1 : List Int := intsOf Rows.laid_math_bits_deBruijn64tab
theorem laid0 : (Rows.laid_math_bits_deBruijn32tab : DataW Unit) = .agg (tab0.map fun z => .lit (.int .u8 z)) := rfl
theorem laid1 : (Rows.laid_math_bits_deBruijn64tab : DataW Unit) = .agg (tab1.map fun z => .lit (.int .u8 z)) := rfl
/-- What is laid. -/
abbrev laid : List (String × DataW Unit) := [("math/bits.deBruijn32tab", Rows.laid_math_bits_deBruijn32tab), ("math/bits.deBruijn64tab", Rows.laid_math_bits_deBruijn64tab)]
theorem globN0 : Tryd.prog.globalNamed "math/bits.deBruijn32tab" = some 0 := by kernel_rfl
theorem globN1 : Tryd.prog.globalNamed "math/bits.deBruijn64tab" = some 1 := by kernel_rfl
theorem globT0 : (Tryd.prog.globals[0]?).map (·.type) = some 154 := by kernel_rfl
theorem globT1 : (Tryd.prog.globals[1]?).map (·.type) = some 155 := by kernel_rfl
theorem cells5 : Tryd.prog.cellsOf 5 = 1 := by kernel_rfl
theorem cells_of_laid {W : World} (h : laidMet Tryd.prog laid W) :
    (∀ (i : Nat) (z : Int), tab0[i]? = some z → W.cell? ⟨0, i, none⟩ = some (.int .u8 z)) ∧ (∀ (i : Nat) (z : Int), tab1[i]? = some z → W.cell? ⟨1, i, none⟩ = some (.int .u8 z)) := by
  obtain ⟨ps, ⟨g, t, cs, fuel, p, q, hg, ht, hvar, hd, ⟨g', t', cs', fuel', p', q', hg', ht', hvar', hd', _, _⟩, _⟩, _⟩ := h
  obtain rfl := Option.some.inj (globN0.symm.trans hg)
  obtain rfl := Option.some.inj (globT0.symm.trans ht)
  obtain rfl := Option.some.inj (globN1.symm.trans hg')
  obtain rfl := Option.some.inj (globT1.symm.trans ht')
  rw [laid0] at hd
  rw [laid1] at hd'
  refine ⟨fun i z hz => ?_, fun i z hz => ?_⟩
  · have := ints_of_trod Tryd.underlying154 Tryd.underlying5 cells5 hd i z hz
    rw [World.var?_cell hg hvar i]
    simpa using this
  · have := ints_of_trod Tryd.underlying155 Tryd.underlying5 cells5 hd' i z hz
    rw [World.var?_cell hg' hvar' i]
    simpa using this
/-- The state at a call's begin: the listed variables are there, and what else nobody writes. -/
def start (fz : Nat → Prop) (W : World) : Gh := ⟨fun _ => (0, 0), fun k => k = 0 ∨ k = 1 ∨ fz k, [], W⟩
theorem tabs0 : globs 0 = some (tab0.map (AV.int .u8)) := rfl
theorem tabs1 : globs 1 = some (tab1.map (AV.int .u8)) := rfl
theorem tabs2 (k : Nat) : globs (k + 2) = none := rfl
theorem lt_of_cell {W : World} {b o : Nat} {v : Value} (h : W.cell? ⟨b, o, none⟩ = some v) : b < W.heap.size := by
  simp only [World.cell?] at h
  split at h
  · rename_i hb; exact (Array.getElem?_eq_some_iff.1 hb).1
  · exact absurd h (by simp)
theorem glob_cells {fz : Nat → Prop} {W : World} {b : Nat} {l : List Int} (h : ∀ (i : Nat) (z : Int), l[i]? = some z → W.cell? ⟨b, i, none⟩ = some (.int .u8 z)) : VRc fz W (l.map (AV.int .u8)) noRef b 0 := by
  rw [VRc_iff]
  intro i a hi
  rw [List.getElem?_map] at hi
  cases hz : l[i]? with
  | none => rw [hz] at hi; simp at hi
  | some z =>
    rw [hz] at hi
    simp only [Option.map_some, Option.some.injEq] at hi
    subst hi
    exact ⟨_, by rw [Nat.zero_add]; exact h i z hz, rfl, by simp only [VR]⟩
theorem start_inv {fz : Nat → Prop} {W : World} (h : laidMet Tryd.prog laid W) (hfz : ∀ k, fz k → k < W.heap.size) : Inv E (start fz W) := by
  obtain ⟨h0, h1⟩ := cells_of_laid h
  refine ⟨fun _ _ h => by simp [start, hget_n] at h, fun _ _ _ _ h => by simp [start, hget_n] at h, fun _ _ h => by simp [start, hget_n] at h, fun _ _ h => by simp [start, hget_n] at h, ?_, ?_⟩
  · rintro k (rfl | rfl | hk)
    · exact lt_of_cell (h0 0 0 rfl)
    · exact lt_of_cell (h1 0 0 rfl)
    · exact hfz k hk
  · intro k cells hk
    change globs k = some cells at hk
    match k with
    | 0 => rw [tabs0] at hk; obtain rfl := Option.some.inj hk; exact ⟨.inl rfl, glob_cells h0⟩
    | 1 => rw [tabs1] at hk; obtain rfl := Option.some.inj hk; exact ⟨.inr (.inl rfl), glob_cells h1⟩
    | k + 2 => rw [tabs2] at hk; exact absurd hk (by simp)
/-- A law's run: it gives true, and nothing that was there has turned. -/
theorem law_run {C : Callee} (hC : CS Tryd.prog E C) {f : FuncId} {args : List AV} {H' : AHeap} (h : C f args [] 0 = some (.bool true, H')) {fz : Nat → Prop} {W : World} (hl : laidMet Tryd.prog laid W) (hfz : ∀ k, fz k → k < W.heap.size) {vs : List Value}
    (hs : (start fz W).Rs args vs) : Calls Tryd.prog f vs.toArray W fun e w' => e = .returned (.bool true) ∧ Below W.heap.size W w' := by
  refine (hC f args [] 0 _ _ h (start fz W) vs rfl (start_inv hl hfz) hs).mono ?_
  intro e w' he
  cases e with
  | returned v =>
    obtain ⟨g', rfl, _, _, hA, hv⟩ := he
    simp only [Gh.R, VR] at hv
    subst hv
    exact ⟨rfl, hA.os, hA.tape, hA.out, hA.size, fun k hk => hA.old k hk wr_empty⟩
  | panicked => exact he.elim
  | outgrown => exact he.elim
/-- The settled world, but the tables as they are laid. -/
noncomputable def laidWorld (os : Os) : World :=
  let w0 := World.holding Tryd.prog os ⟨#[], #[], []⟩
  { w0 with heap := (w0.heap.modify 0 fun
      | .cells _ t frozen => .cells (tab0.map (Value.int .u8)).toArray t frozen
      | o => o).modify 1 fun
      | .cells _ t frozen => .cells (tab1.map (Value.int .u8)).toArray t frozen
      | o => o }
theorem laid_met (os : Os) (args : Array Value) : laidMet Tryd.prog laid ((laidWorld os).forCall (fun _ _ => 0) ⟨#[], args, []⟩).memory :=
  laidMet_of_run (ps := MemPlace.row ⟨0, 0, none⟩ 32 ++ MemPlace.row ⟨1, 0, none⟩ 64) 8 (by kernel_rfl) (by kernel_rfl) (by kernel_rfl)
end Go.AM.YtgfnbmfjbjopkaaDoor
end

section
namespace Go.AM
/-- So that simp doesn't leave a step to the kernel. -/
theorem nrfl {α : Type} {a b : α} (h : a = b) : a = b := h
def kL : Code → Code
  | .seq a _ => a
  | c => c
def kR : Code → Code
  | .seq _ b => b
  | c => c
def kT : Code → Code
  | .cond _ t _ => t
  | c => c
def kE : Code → Code
  | .cond _ _ e => e
  | c => c
def kB : Code → Code
  | .block _ b => b
  | .loop b => b
  | .scope b => b
  | c => c
def kO : Code → Array Oper
  | .region _ ops _ => ops
  | _ => #[]
def kBody (f : Func) : Code := f.body.getD .skip
def opN (ops : Array Oper) (i : Nat) : Oper := ops.toList.getD i ⟨none, .move (.tmp 0), 0, "", #[], none⟩
abbrev XR := Option (Ex × St)
def seqX (r : XR) (k : St → XR) : XR :=
  match r with
  | some (.normal, s) => k s
  | r => r
def bindR (r : Option St) (k : St → Option St) : Option St :=
  match r with
  | some s => k s
  | none => none
def regX (r : Option St) (k : St → St) : XR :=
  match r with
  | some s => some (.normal, k s)
  | none => none
def condX (v : AV) (t e : XR) : XR :=
  match v with
  | .bool true => t
  | .bool false => e
  | _ => none
def blockX (id : Nat) (k : St → St) (r : XR) : XR :=
  match r with
  | some (.exit i, s) => match Nat.beq i id with
    | true => some (.normal, k s)
    | false => some (.exit i, s)
  | some (.normal, s) => some (.normal, k s)
  | r => r
def fset : AFr → Nat → AV → AFr
  | [], _, _ => []
  | (k, a) :: t, i, b => if k = i then (k, b) :: t else (k, a) :: fset t i b
/-- Behind a guard it is known what the guard told. -/
noncomputable def gd (φ : AFr) (k : Nat) (want : Bool) (no yes : AFr → Option St) : Option St :=
  match fget φ k with
  | .bool b => if b = want then yes (fset φ k (.bool want)) else no (fset φ k (.bool !want))
  | .tup _ => no φ
  | _ => none
noncomputable def putD (d : Option Nat) (φ : AFr) (v : AV) : AFr :=
  match d with
  | some d => fput φ d v
  | none => φ
noncomputable def stp (d : Option Nat) (φ : AFr) (H : AHeap) (r : Rd (AV × Ups)) : Option St :=
  match r.run H with
  | some (v, us) => some (putD d φ v, upds H us)
  | none => none
/-- A call that is handed the heap. -/
noncomputable def mutX (d : Option Nat) (φ : AFr) (r : Option (AV × AHeap)) : Option St :=
  match r with
  | some (v, H) => some (putD d φ v, H)
  | none => none
/-- A call of a function value. -/
noncomputable def callV (E : Env) (C : Callee) (Bn : Nat) (d : Option Nat) (site : Nat → Nat) (φ : AFr) (H : AHeap) (f : AV) (args : List AV) (keep : Bool) : Option St :=
  match mutV E f args with
  | some (g, asx) => mutX d φ (C g asx H Bn)
  | none => stp d φ H (opCallV E C site keep f args)
noncomputable def bodyX (E : Env) (rs : List ResultVar) (r : XR) : Option (AV × AHeap) :=
  match r with
  | some (.normal, s) => match resA E s rs with
    | some v => some (v, s.2)
    | none => none
  | some (.ret, s) => match resA E s rs with
    | some v => some (v, s.2)
    | none => none
  | _ => none
section
variable {E : Env} {C : Callee} {fg : Nat → List Nat} {B n N : Nat} {E0 : AHeap}
theorem x_seq {c a b : Code} (h : c = .seq a b) (s : St) : execA E C fg B n E0 N c s = seqX (execA E C fg B n E0 N a s) (execA E C fg B n E0 N b) := by
  subst h; simp only [execA, seqX]; rfl
theorem x_skip {c : Code} (h : c = .skip) (s : St) : execA E C fg B n E0 N c s = some (.normal, s) := by subst h; simp only [execA]
theorem x_ret {c : Code} (h : c = .ret) (s : St) : execA E C fg B n E0 N c s = some (.ret, s) := by subst h; simp only [execA]
theorem x_exit {c : Code} {id} (h : c = .exit id) (s : St) : execA E C fg B n E0 N c s = some (.exit id, s) := by subst h; simp only [execA]
theorem x_reg {c : Code} {id ops} {l : List Nat} (h : c = .region id ops false) (hl : fg id = l) (s : St) : execA E C fg B n E0 N c s = regX (runA E C B n ops ops.toList s) (fun s => gcM E0 l (forget s.1 l, s.2)) := by
  subst h; subst hl; simp only [execA, regA, regX]
  split <;> rename_i h <;> simp only [h]
theorem x_draw {c : Code} {id ops} {l : List Nat} (h : c = .region id ops true) (hl : fg id = l) (s : St) : execA E C fg B n E0 N c s = regX (drawA E C B n ops s) (fun s => gcM E0 l (forget s.1 l, s.2)) := by
  subst h; subst hl; simp only [execA, regA, regX]
  split <;> rename_i h <;> simp only [h]
theorem x_cond {c : Code} {x t e} (h : c = .cond x t e) (s : St) : execA E C fg B n E0 N c s = condX (evO E s.1 x) (execA E C fg B n E0 N t s) (execA E C fg B n E0 N e s) := by
  subst h; simp only [execA, condX]; rfl
theorem x_block {c : Code} {id b} {l : List Nat} (h : c = .block id b) (hl : fg (id + 1000000) = l) (s : St) : execA E C fg B n E0 N c s = blockX id (fun s => (forget s.1 l, s.2)) (execA E C fg B n E0 N b s) := by
  subst h; subst hl; simp only [execA, blockX]; rfl
theorem x_loop {c : Code} {b} (h : c = .loop b) (s : St) : execA E C fg B n E0 N c s = iterA (execA E C fg B n E0 N b) (headA E0) N s := by
  subst h; simp only [execA]
theorem fset_get : ∀ (φ : AFr) (i : Nat), fset φ i (fget φ i) = φ
  | [], _ => rfl
  | (k, a) :: t, i => by
    simp only [fset, fget_c]
    cases h : Nat.beq k i
    · rw [if_neg (Nat.ne_of_beq_eq_false h)]
      simp only [cond_false]
      rw [fset_get t i]
    · rw [if_pos (Nat.eq_of_beq_eq_true h)]; rfl
theorem s_gd {ops : Array Oper} {o oj : Oper} {j dj : Nat} {want : Bool} {φ : AFr} {H : AHeap} {no yes : AFr → Option St} (hg : o.guard = some (j, want)) (hj : ops[j]? = some oj) (hd : oj.dst = some dj) (hn : ∀ φ, fin n o φ (.tup []) H = no φ) (hy : ∀ φ, goA E C B n o (φ, H) = yes φ) :
    stepA E C B n ops o (φ, H) = gd φ dj want no yes := by
  simp only [stepA, hg, wantA, hj, hd, gd]
  have hs := fset_get φ dj
  cases h : fget φ dj <;> simp only [hn, hy]
  rename_i b
  rw [h] at hs
  cases b <;> cases want <;> simp [hs]
theorem run_nil (ops : Array Oper) (s : St) : runA E C B n ops [] s = some s := rfl
theorem run_cons (ops : Array Oper) (o : Oper) (os : List Oper) (s : St) : runA E C B n ops (o :: os) s = bindR (stepA E C B n ops o s) (runA E C B n ops os) := by
  simp only [runA, bindR]; rfl
theorem bodyA_eq {fgf : FuncId → Nat → List Nat} {f : FuncId} {nt : Nat} {rs : Array ResultVar} {c : Code} (h : fInfo E f = some ⟨nt, rs, c⟩) (args : List AV) (H : AHeap) :
    bodyA E C fgf N f args H B = bodyX E rs.toList (execA E C (fgf f) B nt H N c (frame0 args 0 [], H)) := by
  simp only [bodyA, h, bodyX]; rfl
@[simp] theorem seqX_normal (s : St) (k) : seqX (some (.normal, s)) k = k s := rfl
@[simp] theorem seqX_ret (s : St) (k) : seqX (some (.ret, s)) k = some (.ret, s) := rfl
@[simp] theorem seqX_exit (i) (s : St) (k) : seqX (some (.exit i, s)) k = some (.exit i, s) := rfl
@[simp] theorem seqX_none (k) : seqX none k = none := rfl
@[simp] theorem seqX_ite (p : Prop) [Decidable p] (a b : XR) (k) : seqX (if p then a else b) k = if p then seqX a k else seqX b k := by split <;> rfl
@[simp] theorem bindR_none (k) : bindR none k = none := rfl
@[simp] theorem bindR_ite (p : Prop) [Decidable p] (a b) (k) : bindR (if p then a else b) k = if p then bindR a k else bindR b k := by split <;> rfl
@[simp] theorem regX_none (k) : regX none k = none := rfl
@[simp] theorem regX_ite (p : Prop) [Decidable p] (a b) (k) : regX (if p then a else b) k = if p then regX a k else regX b k := by split <;> rfl
@[simp] theorem condX_bool (b : Bool) (t e : XR) : condX (.bool b) t e = if b = true then t else e := by cases b <;> rfl
@[simp] theorem blockX_exit (id : Nat) (k) (i : Nat) (s : St) : blockX id k (some (.exit i, s)) = if i = id then some (.normal, k s) else some (.exit i, s) := by
  simp only [blockX]
  split <;> rename_i h
  · rw [if_pos (Nat.eq_of_beq_eq_true h)]
  · rw [if_neg (Nat.ne_of_beq_eq_false h)]
@[simp] theorem blockX_normal (id : Nat) (k) (s : St) : blockX id k (some (.normal, s)) = some (.normal, k s) := rfl
@[simp] theorem blockX_ret (id : Nat) (k) (s : St) : blockX id k (some (.ret, s)) = some (.ret, s) := rfl
@[simp] theorem blockX_none (id : Nat) (k) : blockX id k none = none := rfl
@[simp] theorem blockX_ite (id : Nat) (k) (p : Prop) [Decidable p] (a b) : blockX id k (if p then a else b) = if p then blockX id k a else blockX id k b := by split <;> rfl
theorem fset_nil (i : Nat) (b : AV) : fset [] i b = [] := rfl
theorem fset_cons (k : Nat) (a : AV) (t : AFr) (i : Nat) (b : AV) : fset ((k, a) :: t) i b = if k = i then (k, b) :: t else (k, a) :: fset t i b := rfl
@[simp] theorem bodyX_ite (rs) (p : Prop) [Decidable p] (a b) : bodyX E rs (if p then a else b) = if p then bodyX E rs a else bodyX E rs b := by split <;> rfl
theorem bodyX_ret (rs) (s : St) : bodyX E rs (some (.ret, s)) = (resA E s rs).map fun v => (v, s.2) := by
  simp only [bodyX]; cases resA E s rs <;> rfl
theorem bodyX_normal (rs) (s : St) : bodyX E rs (some (.normal, s)) = (resA E s rs).map fun v => (v, s.2) := by
  simp only [bodyX]; cases resA E s rs <;> rfl
theorem putD_some (d : Nat) (φ : AFr) (v : AV) : putD (some d) φ v = fput φ d v := rfl
theorem putD_none (φ : AFr) (v : AV) : putD none φ v = φ := rfl
theorem iterA_succ (f : St → XR) (hd : St → St) (k : Nat) (s : St) : iterA f hd (k + 1) s = seqX (f (hd s)) (iterA f hd k) := by
  simp only [iterA, seqX]; rfl
/-- A loop: 'st k' is the state at its head (what is dropped is dropped) when k rounds are over; round n leaves it. -/
theorem iter_all {f : St → XR} {hd : St → St} (st : Nat → St) : ∀ (n F k : Nat) (s0 : St), hd s0 = st k → n < F →
    (∀ i, k ≤ i → i < k + n → ∃ s', f (st i) = some (.normal, s') ∧ hd s' = st (i + 1)) → ∀ {e : Ex} {se : St}, f (st (k + n)) = some (e, se) → e ≠ .normal → iterA f hd F s0 = some (e, se)
  | 0, F + 1, k, s0, h0, _, _, e, se, he, hn => by
    rw [iterA_succ, h0]
    rw [Nat.add_zero] at he
    rw [he]
    cases e with
    | normal => exact absurd rfl hn
    | ret => rfl
    | exit i => rfl
  | n + 1, F + 1, k, s0, h0, hF, h, e, se, he, hn => by
    obtain ⟨s', h1, h2⟩ := h k (Nat.le_refl _) (by omega)
    rw [iterA_succ, h0, h1, seqX_normal]
    refine iter_all st n F (k + 1) s' h2 (by omega) (fun i h3 h4 => h i (by omega) (by omega)) (e := e) (se := se) ?_ hn
    rw [show k + 1 + n = k + (n + 1) by omega]
    exact he
  | _, 0, _, _, _, hF, _, _, _, _, _ => absurd hF (by omega)
theorem callV_eq {f : AV} {args : List AV} (h : mutV E f args = none) (Bn : Nat) (d : Option Nat) (site) (φ H) (keep) : callV E C Bn d site φ H f args keep = stp d φ H (opCallV E C site keep f args) := by
  simp only [callV, h]
/-- A result that leads nowhere, of a call. -/
theorem aBack_plain {site : Nat → Nat} {seen : List Nat} {f : FuncId} {args : List AV} {r : AV} {H' : AHeap} (h : C f args [] 0 = some (r, H')) (ht : frzRet H' r = some (r, H')) (hi : ∀ site, imp H' site 200 r [] [] = some (r, [], [])) (hl : r.leads = false) :
    aBack site true seen (thaw C f args [] 0) = .pure (r, []) := by
  simp only [thaw, h, ht, aBack, sitesB, freeOff, allFree, aBackAt, hi, List.map_nil, AM.apart, if_true, freeAll, Rd.bind, hl]
theorem aBack_int {site : Nat → Nat} {seen : List Nat} {f : FuncId} {args : List AV} {k : IntKind} {z : Int} (h : ∃ H', C f args [] 0 = some (.int k z, H')) : aBack site true seen (thaw C f args [] 0) = .pure (.int k z, []) := by
  obtain ⟨H', h⟩ := h; exact aBack_plain h rfl (fun _ => rfl) rfl
theorem aBack_bool {site : Nat → Nat} {seen : List Nat} {f : FuncId} {args : List AV} {b : Bool} (h : ∃ H', C f args [] 0 = some (.bool b, H')) : aBack site true seen (thaw C f args [] 0) = .pure (.bool b, []) := by
  obtain ⟨H', h⟩ := h; exact aBack_plain h rfl (fun _ => rfl) rfl
theorem wrp_id {k : IntKind} {z : Int} (h1 : kLo k ≤ z) (h2 : z ≤ kHi k) : wrp k z = z := by
  simp only [wrp, if_pos (And.intro h1 h2)]
theorem wrp64 {z : Int} (h : -9223372036854775808 ≤ z ∧ z ≤ 9223372036854775807) : wrp .i64 z = z := wrp_id h.1 h.2
theorem wrp_succ {k : Nat} (h : k < 1000000) : wrp .i64 ((k : Int) + 1) = ((k + 1 : Nat) : Int) := by
  rw [wrp64 (by omega)]; rfl
abbrev rsOf (r : Option (AV × AHeap)) : Option AV := r.map (·.1)
theorem rs_ite (p : Prop) [Decidable p] (a b : Option (AV × AHeap)) : rsOf (if p then a else b) = if p then rsOf a else rsOf b := by split <;> rfl
theorem rs_some (v : AV) (H : AHeap) : rsOf (some (v, H)) = some v := rfl
theorem m_int (p : Prop) [Decidable p] (k : IntKind) (a b : Int) : (if p then some (AV.int k a) else some (AV.int k b)) = some (AV.int k (if p then a else b)) := by split <;> rfl
theorem m_bool (p : Prop) [Decidable p] (a b : Bool) : (if p then some (AV.bool a) else some (AV.bool b)) = some (AV.bool (if p then a else b)) := by split <;> rfl
theorem m_ints (p : Prop) [Decidable p] (k l : IntKind) (a b c d : Int) : (if p then some (AV.tup [AV.int k a, AV.int l c]) else some (AV.tup [AV.int k b, AV.int l d])) = some (AV.tup [AV.int k (if p then a else b), AV.int l (if p then c else d)]) := by split <;> rfl
theorem m_boolint (p : Prop) [Decidable p] (l : IntKind) (a b : Bool) (c d : Int) : (if p then some (AV.tup [AV.bool a, AV.int l c]) else some (AV.tup [AV.bool b, AV.int l d])) = some (AV.tup [AV.bool (if p then a else b), AV.int l (if p then c else d)]) := by split <;> rfl
theorem rs_ex {r : Option (AV × AHeap)} {v : AV} (h : rsOf r = some v) : ∃ H', r = some (v, H') := by
  cases r with
  | none => exact absurd h (by simp)
  | some x => obtain ⟨a, H⟩ := x; simp at h; exact ⟨H, by rw [h]⟩
theorem gcM_n (E0 : AHeap) (s : St) : gcM E0 [] s = s := rfl
theorem gcM_c (E0 : AHeap) (a : Nat) (l : List Nat) (s : St) : gcM E0 (a :: l) s = if a = 999999 then headA E0 s else s := by
  by_cases h : a = 999999
  · subst h; rfl
  · rw [if_neg h]; unfold gcM; split
    · rename_i e; exact absurd (List.cons.inj e).1 h
    · rfl
theorem fget_nil (i : Nat) : fget [] i = .any := rfl
theorem fget_cons' (k : Nat) (a : AV) (t : AFr) (i : Nat) : fget ((k, a) :: t) i = if k = i then a else fget t i := by
  simp only [fget_c]
  cases h : Nat.beq k i
  · rw [if_neg (Nat.ne_of_beq_eq_false h)]; rfl
  · rw [if_pos (Nat.eq_of_beq_eq_true h)]; rfl
theorem fput_nil (i : Nat) (b : AV) : fput [] i b = [(i, b)] := rfl
theorem fput_cons' (k : Nat) (c : AV) (t : AFr) (i : Nat) (b : AV) : fput ((k, c) :: t) i b = if k = i then (i, b) :: t else if i ≤ k then (k, c) :: fput t i b else (i, b) :: (k, c) :: t := by
  simp only [fput_c]
  cases h : Nat.beq k i
  · rw [if_neg (Nat.ne_of_beq_eq_false h)]
    simp only [cond_false]
    cases h2 : Nat.ble i k
    · rw [if_neg (by intro h3; rw [Nat.ble_eq_true_of_le h3] at h2; exact absurd h2 (by simp))]; rfl
    · rw [if_pos (Nat.le_of_ble_eq_true h2)]; rfl
  · rw [if_pos (Nat.eq_of_beq_eq_true h)]; rfl
theorem forget_nil (l : List Nat) : forget [] l = [] := rfl
theorem forget_cons' (k : Nat) (a : AV) (t : AFr) (l : List Nat) : forget ((k, a) :: t) l = if l.elem k = true then forget t l else (k, a) :: forget t l := by
  simp only [forget_c]; cases l.elem k <;> rfl
theorem hget_nil' (i : Nat) : hget [] i = none := rfl
theorem hget_cons' (k : Nat) (b : Blk) (t : AHeap) (i : Nat) : hget ((k, b) :: t) i = if k = i then some b else hget t i := by
  simp only [hget_c]
  cases h : Nat.beq k i
  · rw [if_neg (Nat.ne_of_beq_eq_false h)]; rfl
  · rw [if_pos (Nat.eq_of_beq_eq_true h)]; rfl
theorem hset_nil' (i : Nat) (b : Blk) : hset [] i b = [(i, b)] := rfl
theorem hset_cons' (k : Nat) (c : Blk) (t : AHeap) (i : Nat) (b : Blk) : hset ((k, c) :: t) i b = if k = i then (i, b) :: t else if k ≤ i then (k, c) :: hset t i b else (i, b) :: (k, c) :: t := by
  simp only [hset_c]
  cases h : Nat.beq k i
  · rw [if_neg (Nat.ne_of_beq_eq_false h)]
    simp only [cond_false]
    cases h2 : Nat.ble k i
    · rw [if_neg (by intro h3; rw [Nat.ble_eq_true_of_le h3] at h2; exact absurd h2 (by simp))]; rfl
    · rw [if_pos (Nat.le_of_ble_eq_true h2)]; rfl
  · rw [if_pos (Nat.eq_of_beq_eq_true h)]; rfl
theorem liveBlk_eq (i gl : Nat) : Rd.liveBlk i gl = .get i fun
    | some b => if gl = b.cells.length then (match b.st with | .mp => .fail | _ => .pure b) else .fail
    | none => .fail := by
  simp only [Rd.liveBlk]
  congr 1
  funext b
  cases b with
  | none => rfl
  | some b =>
    simp only
    cases h : Nat.beq gl b.cells.length
    · rw [if_neg (Nat.ne_of_beq_eq_false h)]; rfl
    · rw [if_pos (Nat.eq_of_beq_eq_true h)]; rfl
theorem headA_drop (φ : AFr) (H : AHeap) (h : refsF φ = []) : headA [] (φ, H) = (φ, []) := by
  have h1 : ∀ H : AHeap, keepB [] [] H = [] := by
    intro H
    induction H with
    | nil => rfl
    | cons p t ih => obtain ⟨i, b⟩ := p; simp only [keepB, hget_n, List.elem_nil, Option.isSome_none, Bool.or_false, cond_false, ih]
  simp only [headA, h, mark, h1, gcIf, closedB, allHeld, closedH, Bool.and_true]
theorem headA_nil (E0 : AHeap) (φ : AFr) : headA E0 (φ, []) = (φ, []) := by
  simp only [headA, keepB, gcIf]; split <;> rfl
noncomputable def stepT (E : Env) (C : Callee) (B n : Nat) (ops : Array Oper) (o : Oper) (s : St) : Option (St × Tr) := (stepA E C B n ops o s).map fun s' => (s', trA E C B n ops o s)
noncomputable def goT (E : Env) (C : Callee) (B n : Nat) (o : Oper) (s : St) : Option (St × Tr) := (goA E C B n o s).map fun s' => (s', trG E C B n o s)
noncomputable def trS (r : Rd (AV × Ups)) (H : AHeap) : Tr :=
  match r.run H with
  | some (_, us) => ⟨false, r.foot H, us.map (·.1)⟩
  | none => ⟨true, [], []⟩
noncomputable def stpT (d : Option Nat) (φ : AFr) (H : AHeap) (r : Rd (AV × Ups)) : Option (St × Tr) :=
  match r.run H with
  | some (v, us) => some ((putD d φ v, upds H us), ⟨false, r.foot H, us.map (·.1)⟩)
  | none => none
noncomputable def gdT (φ : AFr) (k : Nat) (want : Bool) (no yes : AFr → Option (St × Tr)) : Option (St × Tr) :=
  match fget φ k with
  | .bool b => if b = want then yes (fset φ k (.bool want)) else no (fset φ k (.bool !want))
  | .tup _ => no φ
  | _ => none
theorem goT_R {o : Oper} {φ : AFr} {H : AHeap} {d} {R : Rd (AV × Ups)} (h : goA E C B n o (φ, H) = stp d φ H R) (ht : trG E C B n o (φ, H) = trS R H) : goT E C B n o (φ, H) = stpT d φ H R := by
  simp only [goT, h, ht, stp, stpT, trS]
  cases R.run H <;> rfl
theorem goT_mv {o : Oper} {φ : AFr} {H : AHeap} {s'} (h : goA E C B n o (φ, H) = some s') (ht : trG E C B n o (φ, H) = ⟨false, [], []⟩) : goT E C B n o (φ, H) = some (s', ⟨false, [], []⟩) := by
  simp only [goT, h, ht, Option.map_some]
theorem stT_go {ops : Array Oper} {o : Oper} {s : St} {x} (hg : o.guard = none) (h : goT E C B n o s = x) : stepT E C B n ops o s = x := by
  rw [← h]; simp only [stepT, goT, stepA, trA, hg]
noncomputable def rtX (n i : Nat) (r : Option (St × Tr)) (k : St → Option (St × List (Nat × Tr))) : Option (St × List (Nat × Tr)) :=
  match r with
  | some (s', t) => match neat n s' with
    | true => match k s' with
      | some (s2, l) => some (s2, (i, t) :: l)
      | none => none
    | false => none
  | none => none
theorem runT_nil (ops : Array Oper) (i : Nat) (s : St) : runT E C B n ops [] i s = some (s, []) := rfl
theorem runT_cons (ops : Array Oper) (o : Oper) (os : List Oper) (i : Nat) (s : St) : runT E C B n ops (o :: os) i s = rtX n i (stepT E C B n ops o s) (runT E C B n ops os (i + 1)) := by
  simp only [runT, stepT, rtX]
  cases stepA E C B n ops o s with
  | none => rfl
  | some s' =>
    simp only [Option.map_some]
    cases neat n s' <;> rfl
def addT (i : Nat) (t : Tr) (r : Option (St × List (Nat × Tr))) : Option (St × List (Nat × Tr)) :=
  match r with
  | some (s2, l) => some (s2, (i, t) :: l)
  | none => none
theorem rtX_some (i : Nat) (s' : St) (t : Tr) (k) : rtX n i (some (s', t)) k = if neat n s' = true then addT i t (k s') else none := by
  simp only [rtX, addT]; cases neat n s' <;> rfl
theorem rtX_none (i : Nat) (k) : rtX n i none k = none := rfl
theorem rtX_ite (i : Nat) (p : Prop) [Decidable p] (a b) (k) : rtX n i (if p then a else b) k = if p then rtX n i a k else rtX n i b k := by split <;> rfl
theorem addT_some (i : Nat) (t : Tr) (s l) : addT i t (some (s, l)) = some (s, (i, t) :: l) := rfl
theorem addT_none (i : Nat) (t : Tr) : addT i t none = none := rfl
theorem addT_ite (i : Nat) (t : Tr) (p : Prop) [Decidable p] (a b) : addT i t (if p then a else b) = if p then addT i t a else addT i t b := by split <;> rfl
def drX (ops : Array Oper) (r : Option (St × List (Nat × Tr))) : Option St :=
  match r with
  | some (s', l) => if dynOk ops l = true then some s' else none
  | none => none
theorem drX_some (ops : Array Oper) (s' l) : drX ops (some (s', l)) = if dynOk ops l = true then some s' else none := rfl
theorem drX_none (ops : Array Oper) : drX ops none = none := rfl
theorem drX_ite (ops : Array Oper) (p : Prop) [Decidable p] (a b) : drX ops (if p then a else b) = if p then drX ops a else drX ops b := by split <;> rfl
theorem draw_eq {ops : Array Oper} (h : statOk ops = true) (s : St) : drawA E C B n ops s = if neat n s = true then drX ops (runT E C B n ops ops.toList 0 s) else none := by
  simp only [drawA, h, drX]
  cases neat n s with
  | false => rfl
  | true =>
    simp only [if_true]
    cases runT E C B n ops ops.toList 0 s with
    | none => rfl
    | some x =>
      obtain ⟨s', l⟩ := x
      simp only
      cases dynOk ops l <;> rfl
theorem dynOk_eq {ops : Array Oper} {an : List (List Nat)} (h : ancs ops.toList [] = an) (l) : dynOk ops l = (!writing l || dynPairs an (touching l)) := by simp only [dynOk, h]
theorem neat_eq (n : Nat) (φ : AFr) (H : AHeap) : neat n (φ, H) = (descF n φ && ascH 0 H) := rfl
theorem descF_nil' (h : Nat) : descF h [] = true := rfl
theorem descF_cons' (hi k : Nat) (a : AV) (t : AFr) : descF hi ((k, a) :: t) = (decide (k + 1 ≤ hi) && descF k t) := by
  simp only [descF_c]; congr 1
  cases h : Nat.ble (k + 1) hi
  · rw [eq_comm, decide_eq_false_iff_not]; intro h2; rw [Nat.ble_eq_true_of_le h2] at h; exact absurd h (by simp)
  · rw [eq_comm, decide_eq_true_eq]; exact Nat.le_of_ble_eq_true h
theorem ascH_nil' (h : Nat) : ascH h [] = true := rfl
theorem ascH_cons' (lo k : Nat) (a : Blk) (t : AHeap) : ascH lo ((k, a) :: t) = (decide (lo ≤ k) && ascH (k + 1) t) := by
  simp only [ascH_c]; congr 1
  cases h : Nat.ble lo k
  · rw [eq_comm, decide_eq_false_iff_not]; intro h2; rw [Nat.ble_eq_true_of_le h2] at h; exact absurd h (by simp)
  · rw [eq_comm, decide_eq_true_eq]; exact Nat.le_of_ble_eq_true h
end
end Go.AM
end

section
namespace Go.AM.YtgfnbmfjbjopkaaDoor
open Go Go.AM
set_option maxRecDepth 100000
variable {C : Callee} {B N : Nat} {E0 : AHeap} (φ : AFr) (H : AHeap) (s : St)
theorem T_3 : E.T 3 = some ⟨.int .i64, 1, 8, (some [.int .i64 0])⟩ := nrfl rfl
theorem T_4 : E.T 4 = some ⟨.bool, 1, 1, (some [.bool false])⟩ := nrfl rfl
theorem T_5 : E.T 5 = some ⟨.int .u8, 1, 1, (some [.int .u8 0])⟩ := nrfl rfl
theorem T_22 : E.T 22 = some ⟨.slice 62, 1, 24, (some [.nilsl])⟩ := nrfl rfl
theorem T_23 : E.T 23 = some ⟨.slice 64, 1, 24, (some [.nilsl])⟩ := nrfl rfl
theorem T_25 : E.T 25 = some ⟨.struct [(0, 22, 1), (1, 23, 1)] false, 2, 48, (some [.nilsl, .nilsl])⟩ := nrfl rfl
theorem T_28 : E.T 28 = some ⟨.slice 105, 1, 24, (some [.nilsl])⟩ := nrfl rfl
theorem T_30 : E.T 30 = some ⟨.struct [(0, 28, 1), (1, 23, 1)] false, 2, 48, (some [.nilsl, .nilsl])⟩ := nrfl rfl
theorem T_32 : E.T 32 = some ⟨.int .i64, 1, 8, (some [.int .i64 0])⟩ := nrfl rfl
theorem T_36 : E.T 36 = some ⟨.slice 3, 1, 24, (some [.nilsl])⟩ := nrfl rfl
theorem T_53 : E.T 53 = some ⟨.arr 5 5 true, 5, 5, (some [.int .u8 0, .int .u8 0, .int .u8 0, .int .u8 0, .int .u8 0])⟩ := nrfl rfl
theorem T_54 : E.T 54 = some ⟨.arr 6 53 false, 30, 30, (some [.int .u8 0, .int .u8 0, .int .u8 0, .int .u8 0, .int .u8 0, .int .u8 0, .int .u8 0, .int .u8 0, .int .u8 0, .int .u8 0, .int .u8 0, .int .u8 0, .int .u8 0, .int .u8 0, .int .u8 0, .int .u8 0, .int .u8 0, .int .u8 0, .int .u8 0, .int .u8 0, .int .u8 0, .int .u8 0, .int .u8 0, .int .u8 0, .int .u8 0, .int .u8 0, .int .u8 0, .int .u8 0, .int .u8 0, .int .u8 0])⟩ := nrfl rfl
theorem T_55 : E.T 55 = some ⟨.int .u16, 1, 2, (some [.int .u16 0])⟩ := nrfl rfl
theorem T_56 : E.T 56 = some ⟨.arr 6 5 true, 6, 6, (some [.int .u8 0, .int .u8 0, .int .u8 0, .int .u8 0, .int .u8 0, .int .u8 0])⟩ := nrfl rfl
theorem T_58 : E.T 58 = some ⟨.struct [(0, 5, 1), (1, 54, 30), (31, 55, 1), (32, 56, 6)] false, 38, 40, (some [.int .u8 0, .int .u8 0, .int .u8 0, .int .u8 0, .int .u8 0, .int .u8 0, .int .u8 0, .int .u8 0, .int .u8 0, .int .u8 0, .int .u8 0, .int .u8 0, .int .u8 0, .int .u8 0, .int .u8 0, .int .u8 0, .int .u8 0, .int .u8 0, .int .u8 0, .int .u8 0, .int .u8 0, .int .u8 0, .int .u8 0, .int .u8 0, .int .u8 0, .int .u8 0, .int .u8 0, .int .u8 0, .int .u8 0, .int .u8 0, .int .u8 0, .int .u16 0, .int .u8 0, .int .u8 0, .int .u8 0, .int .u8 0, .int .u8 0, .int .u8 0])⟩ := nrfl rfl
theorem T_62 : E.T 62 = some ⟨.struct [(0, 3, 1), (1, 3, 1), (2, 3, 1), (3, 3, 1), (4, 3, 1)] true, 5, 40, (some [.int .i64 0, .int .i64 0, .int .i64 0, .int .i64 0, .int .i64 0])⟩ := nrfl rfl
theorem T_64 : E.T 64 = some ⟨.arr 2 3 true, 2, 16, (some [.int .i64 0, .int .i64 0])⟩ := nrfl rfl
theorem T_81 : E.T 81 = some ⟨.other, 1, 8, (some [.nilfunc])⟩ := nrfl rfl
theorem T_92 : E.T 92 = some ⟨.slice 5, 1, 24, (some [.nilsl])⟩ := nrfl rfl
theorem T_105 : E.T 105 = some ⟨.struct [(0, 3, 1), (1, 3, 1), (2, 3, 1), (3, 3, 1), (4, 3, 1)] true, 5, 40, (some [.int .i64 0, .int .i64 0, .int .i64 0, .int .i64 0, .int .i64 0])⟩ := nrfl rfl
theorem T_106 : E.T 106 = some ⟨.slice 126, 1, 24, (some [.nilsl])⟩ := nrfl rfl
theorem T_107 : E.T 107 = some ⟨.slice 121, 1, 24, (some [.nilsl])⟩ := nrfl rfl
theorem T_109 : E.T 109 = some ⟨.struct [(0, 106, 1), (1, 107, 1)] false, 2, 48, (some [.nilsl, .nilsl])⟩ := nrfl rfl
theorem T_114 : E.T 114 = some ⟨.slice 36, 1, 24, (some [.nilsl])⟩ := nrfl rfl
theorem T_121 : E.T 121 = some ⟨.int .u64, 1, 8, (some [.int .u64 0])⟩ := nrfl rfl
theorem T_123 : E.T 123 = some ⟨.other, 1, 8, (some [.nilfunc])⟩ := nrfl rfl
theorem T_126 : E.T 126 = some ⟨.arr 5 3 true, 5, 40, (some [.int .i64 0, .int .i64 0, .int .i64 0, .int .i64 0, .int .i64 0])⟩ := nrfl rfl
theorem T_135 : E.T 135 = some ⟨.slice 53, 1, 24, (some [.nilsl])⟩ := nrfl rfl
noncomputable def c126_0 : Code := kBody Proofs.Tryd.f126
noncomputable def c126_1 : Code := kL c126_0
noncomputable def r126_0 : Array Oper := kO c126_1
noncomputable def o126_0_0 : Oper := opN r126_0 0
noncomputable def o126_0_1 : Oper := opN r126_0 1
theorem x126_1 : execA E C (fg 126) B 14 E0 N c126_1 s = regX (runA E C B 14 r126_0 r126_0.toList s) (fun s => gcM E0 [0] (forget s.1 [0], s.2)) := x_reg (ops := r126_0) (by rfl) (by rfl) s
theorem r126_0_l : r126_0.toList = [o126_0_0, o126_0_1] := nrfl rfl
theorem s126_0_0 : stepA E C B 14 r126_0 o126_0_0 (φ, H) = stp (some 1) φ H (opBox (B + 1) (acells (fget φ 0))) := nrfl rfl
theorem s126_0_1 : stepA E C B 14 r126_0 o126_0_1 (φ, H) = stp (some 2) φ H (opBox (B + 2) (zeroCells E.T 126)) := nrfl rfl
noncomputable def c126_2 : Code := kR c126_0
noncomputable def c126_3 : Code := kL c126_2
noncomputable def r126_1 : Array Oper := kO c126_3
noncomputable def o126_1_0 : Oper := opN r126_1 0
noncomputable def o126_1_1 : Oper := opN r126_1 1
noncomputable def o126_1_2 : Oper := opN r126_1 2
noncomputable def o126_1_3 : Oper := opN r126_1 3
noncomputable def o126_1_4 : Oper := opN r126_1 4
noncomputable def o126_1_5 : Oper := opN r126_1 5
noncomputable def o126_1_6 : Oper := opN r126_1 6
noncomputable def o126_1_7 : Oper := opN r126_1 7
noncomputable def o126_1_8 : Oper := opN r126_1 8
noncomputable def o126_1_9 : Oper := opN r126_1 9
noncomputable def o126_1_10 : Oper := opN r126_1 10
noncomputable def o126_1_11 : Oper := opN r126_1 11
theorem x126_3 : execA E C (fg 126) B 14 E0 N c126_3 s = regX (runA E C B 14 r126_1 r126_1.toList s) (fun s => gcM E0 [1, 3, 4, 5, 6, 7, 8, 9, 10, 11, 12, 13] (forget s.1 [1, 3, 4, 5, 6, 7, 8, 9, 10, 11, 12, 13], s.2)) := x_reg (ops := r126_1) (by rfl) (by rfl) s
theorem r126_1_l : r126_1.toList = [o126_1_0, o126_1_1, o126_1_2, o126_1_3, o126_1_4, o126_1_5, o126_1_6, o126_1_7, o126_1_8, o126_1_9, o126_1_10, o126_1_11] := nrfl rfl
theorem s126_1_0 : stepA E C B 14 r126_1 o126_1_0 (φ, H) = stp (some 3) φ H (just (aFieldAddr E.T 62 (fget φ 1) 0)) := nrfl rfl
theorem s126_1_1 : stepA E C B 14 r126_1 o126_1_1 (φ, H) = stp (some 4) φ H (just (aLoad E.T 3 (fget φ 3))) := nrfl rfl
theorem s126_1_2 : stepA E C B 14 r126_1 o126_1_2 (φ, H) = stp (some 5) φ H (just (aFieldAddr E.T 62 (fget φ 1) 1)) := nrfl rfl
theorem s126_1_3 : stepA E C B 14 r126_1 o126_1_3 (φ, H) = stp (some 6) φ H (just (aLoad E.T 3 (fget φ 5))) := nrfl rfl
theorem s126_1_4 : stepA E C B 14 r126_1 o126_1_4 (φ, H) = stp (some 7) φ H (just (aFieldAddr E.T 62 (fget φ 1) 2)) := nrfl rfl
theorem s126_1_5 : stepA E C B 14 r126_1 o126_1_5 (φ, H) = stp (some 8) φ H (just (aLoad E.T 3 (fget φ 7))) := nrfl rfl
theorem s126_1_6 : stepA E C B 14 r126_1 o126_1_6 (φ, H) = stp (some 9) φ H (just (aFieldAddr E.T 62 (fget φ 1) 3)) := nrfl rfl
theorem s126_1_7 : stepA E C B 14 r126_1 o126_1_7 (φ, H) = stp (some 10) φ H (just (aLoad E.T 3 (fget φ 9))) := nrfl rfl
theorem s126_1_8 : stepA E C B 14 r126_1 o126_1_8 (φ, H) = stp (some 11) φ H (just (aFieldAddr E.T 62 (fget φ 1) 4)) := nrfl rfl
theorem s126_1_9 : stepA E C B 14 r126_1 o126_1_9 (φ, H) = stp (some 12) φ H (just (aLoad E.T 3 (fget φ 11))) := nrfl rfl
theorem s126_1_10 : stepA E C B 14 r126_1 o126_1_10 (φ, H) = stp (some 13) φ H (justO (aBuild E.T 126 (evO E φ) [(0, Operand.tmp 4), (1, Operand.tmp 6), (2, Operand.tmp 8), (3, Operand.tmp 10), (4, Operand.tmp 12)])) := nrfl rfl
theorem s126_1_11 : stepA E C B 14 r126_1 o126_1_11 (φ, H) = stp none φ H (opStore E.T 126 (fget φ 2) (fget φ 13)) := nrfl rfl
noncomputable def c126_4 : Code := kR c126_2
theorem x126_4 : execA E C (fg 126) B 14 E0 N c126_4 s = some (.ret, s) := x_ret (by rfl) s
theorem x126_2 : execA E C (fg 126) B 14 E0 N c126_2 s = seqX (execA E C (fg 126) B 14 E0 N c126_3 s) (execA E C (fg 126) B 14 E0 N c126_4) := x_seq (by rfl) s
theorem x126_0 : execA E C (fg 126) B 14 E0 N c126_0 s = seqX (execA E C (fg 126) B 14 E0 N c126_1 s) (execA E C (fg 126) B 14 E0 N c126_2) := x_seq (by rfl) s
theorem fi_126 : fInfo E 126 = some ⟨14, #[.cell 2 126], c126_0⟩ := nrfl rfl
theorem b_126 (args : List AV) : bodyA E C fg N 126 args H B = bodyX E [.cell 2 126] (execA E C (fg 126) B 14 H N c126_0 (frame0 args 0 [], H)) := bodyA_eq fi_126 args H
noncomputable def c99_0 : Code := kBody Proofs.Tryd.f99
noncomputable def c99_1 : Code := kL c99_0
noncomputable def r99_0 : Array Oper := kO c99_1
noncomputable def o99_0_0 : Oper := opN r99_0 0
noncomputable def o99_0_1 : Oper := opN r99_0 1
theorem x99_1 : execA E C (fg 99) B 16 E0 N c99_1 s = regX (runA E C B 16 r99_0 r99_0.toList s) (fun s => gcM E0 [0, 4] (forget s.1 [0, 4], s.2)) := x_reg (ops := r99_0) (by rfl) (by rfl) s
theorem r99_0_l : r99_0.toList = [o99_0_0, o99_0_1] := nrfl rfl
theorem s99_0_0 : stepA E C B 16 r99_0 o99_0_0 (φ, H) = stp (some 2) φ H (opBox (B + 2) (acells (fget φ 0))) := nrfl rfl
theorem s99_0_1 : stepA E C B 16 r99_0 o99_0_1 (φ, H) = some (fput φ 4 (.int .i64 0), H) := nrfl rfl
noncomputable def c99_2 : Code := kR c99_0
noncomputable def c99_3 : Code := kL c99_2
noncomputable def r99_1 : Array Oper := kO c99_3
noncomputable def o99_1_0 : Oper := opN r99_1 0
noncomputable def o99_1_1 : Oper := opN r99_1 1
noncomputable def o99_1_2 : Oper := opN r99_1 2
noncomputable def o99_1_3 : Oper := opN r99_1 3
noncomputable def o99_1_4 : Oper := opN r99_1 4
noncomputable def o99_1_5 : Oper := opN r99_1 5
noncomputable def o99_1_6 : Oper := opN r99_1 6
noncomputable def o99_1_7 : Oper := opN r99_1 7
noncomputable def o99_1_8 : Oper := opN r99_1 8
noncomputable def o99_1_9 : Oper := opN r99_1 9
noncomputable def o99_1_10 : Oper := opN r99_1 10
noncomputable def o99_1_11 : Oper := opN r99_1 11
theorem x99_3 : execA E C (fg 99) B 16 E0 N c99_3 s = regX (runA E C B 16 r99_1 r99_1.toList s) (fun s => gcM E0 [1, 2, 5, 6, 7, 8, 9, 10, 11, 12, 13, 14, 15] (forget s.1 [1, 2, 5, 6, 7, 8, 9, 10, 11, 12, 13, 14, 15], s.2)) := x_reg (ops := r99_1) (by rfl) (by rfl) s
theorem r99_1_l : r99_1.toList = [o99_1_0, o99_1_1, o99_1_2, o99_1_3, o99_1_4, o99_1_5, o99_1_6, o99_1_7, o99_1_8, o99_1_9, o99_1_10, o99_1_11] := nrfl rfl
theorem s99_1_0 : stepA E C B 16 r99_1 o99_1_0 (φ, H) = stp (some 5) φ H (just (aIndexAddr E.T 126 (fget φ 2) (.int .i64 4))) := nrfl rfl
theorem s99_1_1 : stepA E C B 16 r99_1 o99_1_1 (φ, H) = stp (some 6) φ H (just (aLoad E.T 3 (fget φ 5))) := nrfl rfl
theorem s99_1_2 : stepA E C B 16 r99_1 o99_1_2 (φ, H) = stp (some 7) φ H (just (aIndexAddr E.T 126 (fget φ 2) (.int .i64 3))) := nrfl rfl
theorem s99_1_3 : stepA E C B 16 r99_1 o99_1_3 (φ, H) = stp (some 8) φ H (just (aLoad E.T 3 (fget φ 7))) := nrfl rfl
theorem s99_1_4 : stepA E C B 16 r99_1 o99_1_4 (φ, H) = some (fput φ 9 (fget φ 1), H) := nrfl rfl
theorem s99_1_5 : stepA E C B 16 r99_1 o99_1_5 (φ, H) = stp (some 10) φ H (just (aIndexAddr E.T 126 (fget φ 2) (.int .i64 2))) := nrfl rfl
theorem s99_1_6 : stepA E C B 16 r99_1 o99_1_6 (φ, H) = stp (some 11) φ H (just (aLoad E.T 3 (fget φ 10))) := nrfl rfl
theorem s99_1_7 : stepA E C B 16 r99_1 o99_1_7 (φ, H) = stp (some 12) φ H (just (aBin E.T .sub 3 (fget φ 9) (fget φ 11))) := nrfl rfl
theorem s99_1_8 : stepA E C B 16 r99_1 o99_1_8 (φ, H) = stp (some 13) φ H (aBuiltin E.T (B + 13) .max #[3, 3] [(.int .i64 0), (fget φ 12)]) := nrfl rfl
theorem s99_1_9 : stepA E C B 16 r99_1 o99_1_9 (φ, H) = stp (some 14) φ H (just (aBin E.T .mul 3 (fget φ 8) (fget φ 13))) := nrfl rfl
theorem s99_1_10 : stepA E C B 16 r99_1 o99_1_10 (φ, H) = stp (some 15) φ H (just (aBin E.T .add 3 (fget φ 6) (fget φ 14))) := nrfl rfl
theorem s99_1_11 : stepA E C B 16 r99_1 o99_1_11 (φ, H) = some (fput φ 4 (fget φ 15), H) := nrfl rfl
noncomputable def c99_4 : Code := kR c99_2
theorem x99_4 : execA E C (fg 99) B 16 E0 N c99_4 s = some (.ret, s) := x_ret (by rfl) s
theorem x99_2 : execA E C (fg 99) B 16 E0 N c99_2 s = seqX (execA E C (fg 99) B 16 E0 N c99_3 s) (execA E C (fg 99) B 16 E0 N c99_4) := x_seq (by rfl) s
theorem x99_0 : execA E C (fg 99) B 16 E0 N c99_0 s = seqX (execA E C (fg 99) B 16 E0 N c99_1 s) (execA E C (fg 99) B 16 E0 N c99_2) := x_seq (by rfl) s
theorem fi_99 : fInfo E 99 = some ⟨16, #[.tmp 4], c99_0⟩ := nrfl rfl
theorem b_99 (args : List AV) : bodyA E C fg N 99 args H B = bodyX E [.tmp 4] (execA E C (fg 99) B 16 H N c99_0 (frame0 args 0 [], H)) := bodyA_eq fi_99 args H
noncomputable def c88_0 : Code := kBody Proofs.Tryd.f88
noncomputable def c88_1 : Code := kL c88_0
noncomputable def r88_0 : Array Oper := kO c88_1
noncomputable def o88_0_0 : Oper := opN r88_0 0
noncomputable def o88_0_1 : Oper := opN r88_0 1
noncomputable def o88_0_2 : Oper := opN r88_0 2
theorem x88_1 : execA E C (fg 88) B 156 E0 N c88_1 s = regX (runA E C B 156 r88_0 r88_0.toList s) (fun s => gcM E0 [0, 3] (forget s.1 [0, 3], s.2)) := x_reg (ops := r88_0) (by rfl) (by rfl) s
theorem r88_0_l : r88_0.toList = [o88_0_0, o88_0_1, o88_0_2] := nrfl rfl
theorem s88_0_0 : stepA E C B 156 r88_0 o88_0_0 (φ, H) = stp (some 1) φ H (opBox (B + 1) (acells (fget φ 0))) := nrfl rfl
theorem s88_0_1 : stepA E C B 156 r88_0 o88_0_1 (φ, H) = stp (some 2) φ H (opBox (B + 2) (zeroCells E.T 109)) := nrfl rfl
theorem s88_0_2 : stepA E C B 156 r88_0 o88_0_2 (φ, H) = some (fput φ 3 (.int .i64 0), H) := nrfl rfl
noncomputable def c88_2 : Code := kR c88_0
noncomputable def c88_3 : Code := kL c88_2
noncomputable def r88_1 : Array Oper := kO c88_3
noncomputable def o88_1_0 : Oper := opN r88_1 0
noncomputable def o88_1_1 : Oper := opN r88_1 1
noncomputable def o88_1_2 : Oper := opN r88_1 2
noncomputable def o88_1_3 : Oper := opN r88_1 3
theorem x88_3 : execA E C (fg 88) B 156 E0 N c88_3 s = regX (runA E C B 156 r88_1 r88_1.toList s) (fun s => gcM E0 [15, 16, 17] (forget s.1 [15, 16, 17], s.2)) := x_reg (ops := r88_1) (by rfl) (by rfl) s
theorem r88_1_l : r88_1.toList = [o88_1_0, o88_1_1, o88_1_2, o88_1_3] := nrfl rfl
theorem s88_1_0 : stepA E C B 156 r88_1 o88_1_0 (φ, H) = stp (some 15) φ H (just (aFieldAddr E.T 25 (fget φ 1) 0)) := nrfl rfl
theorem s88_1_1 : stepA E C B 156 r88_1 o88_1_1 (φ, H) = stp (some 16) φ H (just (aLoad E.T 22 (fget φ 15))) := nrfl rfl
theorem s88_1_2 : stepA E C B 156 r88_1 o88_1_2 (φ, H) = stp (some 17) φ H (aBuiltin E.T (B + 17) .len #[22] [(fget φ 16)]) := nrfl rfl
theorem s88_1_3 : stepA E C B 156 r88_1 o88_1_3 (φ, H) = some (fput φ 4 (fget φ 17), H) := nrfl rfl
noncomputable def c88_4 : Code := kR c88_2
noncomputable def c88_5 : Code := kL c88_4
noncomputable def c88_6 : Code := kB c88_5
noncomputable def c88_7 : Code := kL c88_6
noncomputable def r88_2 : Array Oper := kO c88_7
noncomputable def o88_2_0 : Oper := opN r88_2 0
noncomputable def o88_2_1 : Oper := opN r88_2 1
noncomputable def o88_2_2 : Oper := opN r88_2 2
theorem x88_7 : execA E C (fg 88) B 156 E0 N c88_7 s = regX (runA E C B 156 r88_2 r88_2.toList s) (fun s => gcM E0 [19, 20] (forget s.1 [19, 20], s.2)) := x_reg (ops := r88_2) (by rfl) (by rfl) s
theorem r88_2_l : r88_2.toList = [o88_2_0, o88_2_1, o88_2_2] := nrfl rfl
theorem s88_2_0 : stepA E C B 156 r88_2 o88_2_0 (φ, H) = some (fput φ 19 (fget φ 4), H) := nrfl rfl
theorem s88_2_1 : stepA E C B 156 r88_2 o88_2_1 (φ, H) = stp (some 20) φ H (just (aBin E.T .eql 3 (fget φ 19) (.int .i64 0))) := nrfl rfl
theorem s88_2_2 : stepA E C B 156 r88_2 o88_2_2 (φ, H) = some (fput φ 18 (fget φ 20), H) := nrfl rfl
noncomputable def c88_8 : Code := kR c88_6
noncomputable def c88_9 : Code := kT c88_8
noncomputable def c88_10 : Code := kL c88_9
noncomputable def r88_3 : Array Oper := kO c88_10
noncomputable def o88_3_0 : Oper := opN r88_3 0
noncomputable def o88_3_1 : Oper := opN r88_3 1
noncomputable def o88_3_2 : Oper := opN r88_3 2
theorem x88_10 : execA E C (fg 88) B 156 E0 N c88_10 s = regX (runA E C B 156 r88_3 r88_3.toList s) (fun s => gcM E0 [1, 4, 18, 21] (forget s.1 [1, 4, 18, 21], s.2)) := x_reg (ops := r88_3) (by rfl) (by rfl) s
theorem r88_3_l : r88_3.toList = [o88_3_0, o88_3_1, o88_3_2] := nrfl rfl
theorem s88_3_0 : stepA E C B 156 r88_3 o88_3_0 (φ, H) = stp (some 21) φ H (justO (aBuild E.T 109 (evO E φ) [])) := nrfl rfl
theorem s88_3_1 : stepA E C B 156 r88_3 o88_3_1 (φ, H) = stp none φ H (opStore E.T 109 (fget φ 2) (fget φ 21)) := nrfl rfl
theorem s88_3_2 : stepA E C B 156 r88_3 o88_3_2 (φ, H) = some (fput φ 3 (.int .i64 4), H) := nrfl rfl
noncomputable def c88_11 : Code := kR c88_9
theorem x88_11 : execA E C (fg 88) B 156 E0 N c88_11 s = some (.ret, s) := x_ret (by rfl) s
theorem x88_9 : execA E C (fg 88) B 156 E0 N c88_9 s = seqX (execA E C (fg 88) B 156 E0 N c88_10 s) (execA E C (fg 88) B 156 E0 N c88_11) := x_seq (by rfl) s
noncomputable def c88_12 : Code := kE c88_8
noncomputable def c88_13 : Code := kL c88_12
noncomputable def r88_4 : Array Oper := kO c88_13
noncomputable def o88_4_0 : Oper := opN r88_4 0
noncomputable def o88_4_1 : Oper := opN r88_4 1
noncomputable def o88_4_2 : Oper := opN r88_4 2
noncomputable def o88_4_3 : Oper := opN r88_4 3
noncomputable def o88_4_4 : Oper := opN r88_4 4
noncomputable def o88_4_5 : Oper := opN r88_4 5
noncomputable def o88_4_6 : Oper := opN r88_4 6
noncomputable def o88_4_7 : Oper := opN r88_4 7
noncomputable def o88_4_8 : Oper := opN r88_4 8
theorem x88_13 : execA E C (fg 88) B 156 E0 N c88_13 s = regX (runA E C B 156 r88_4 r88_4.toList s) (fun s => gcM E0 [18, 23, 24, 25, 26, 27, 28, 29, 30] (forget s.1 [18, 23, 24, 25, 26, 27, 28, 29, 30], s.2)) := x_reg (ops := r88_4) (by rfl) (by rfl) s
theorem r88_4_l : r88_4.toList = [o88_4_0, o88_4_1, o88_4_2, o88_4_3, o88_4_4, o88_4_5, o88_4_6, o88_4_7, o88_4_8] := nrfl rfl
theorem s88_4_0 : stepA E C B 156 r88_4 o88_4_0 (φ, H) = some (fput φ 23 (fget φ 4), H) := nrfl rfl
theorem s88_4_1 : stepA E C B 156 r88_4 o88_4_1 (φ, H) = stp (some 24) φ H (just (aBin E.T .gtr 3 (fget φ 23) (.int .i64 6))) := nrfl rfl
theorem s88_4_2 : stepA E C B 156 r88_4 o88_4_2 (φ, H) = some (fput φ 25 (fget φ 24), H) := nrfl rfl
theorem s88_4_3 : stepA E C B 156 r88_4 o88_4_3 (φ, H) = gd φ 25 false (fun φ => some (fput φ 26 (.tup []), H)) (fun φ => stp (some 26) φ H (just (aFieldAddr E.T 25 (fget φ 1) 1))) := s_gd (j := 2) (oj := o88_4_2) rfl rfl rfl (fun _ => rfl) (fun _ => rfl)
theorem s88_4_4 : stepA E C B 156 r88_4 o88_4_4 (φ, H) = gd φ 25 false (fun φ => some (fput φ 27 (.tup []), H)) (fun φ => stp (some 27) φ H (just (aLoad E.T 23 (fget φ 26)))) := s_gd (j := 2) (oj := o88_4_2) rfl rfl rfl (fun _ => rfl) (fun _ => rfl)
theorem s88_4_5 : stepA E C B 156 r88_4 o88_4_5 (φ, H) = gd φ 25 false (fun φ => some (fput φ 28 (.tup []), H)) (fun φ => stp (some 28) φ H (aBuiltin E.T (B + 28) .len #[23] [(fget φ 27)])) := s_gd (j := 2) (oj := o88_4_2) rfl rfl rfl (fun _ => rfl) (fun _ => rfl)
theorem s88_4_6 : stepA E C B 156 r88_4 o88_4_6 (φ, H) = gd φ 25 false (fun φ => some (fput φ 29 (.tup []), H)) (fun φ => stp (some 29) φ H (just (aBin E.T .gtr 3 (fget φ 28) (.int .i64 15)))) := s_gd (j := 2) (oj := o88_4_2) rfl rfl rfl (fun _ => rfl) (fun _ => rfl)
theorem s88_4_7 : stepA E C B 156 r88_4 o88_4_7 (φ, H) = stp (some 30) φ H (opPick (fget φ 25) (.bool true) (fget φ 29)) := nrfl rfl
theorem s88_4_8 : stepA E C B 156 r88_4 o88_4_8 (φ, H) = some (fput φ 22 (fget φ 30), H) := nrfl rfl
noncomputable def c88_14 : Code := kR c88_12
noncomputable def c88_15 : Code := kT c88_14
noncomputable def c88_16 : Code := kL c88_15
noncomputable def r88_5 : Array Oper := kO c88_16
noncomputable def o88_5_0 : Oper := opN r88_5 0
noncomputable def o88_5_1 : Oper := opN r88_5 1
noncomputable def o88_5_2 : Oper := opN r88_5 2
theorem x88_16 : execA E C (fg 88) B 156 E0 N c88_16 s = regX (runA E C B 156 r88_5 r88_5.toList s) (fun s => gcM E0 [1, 4, 22, 31] (forget s.1 [1, 4, 22, 31], s.2)) := x_reg (ops := r88_5) (by rfl) (by rfl) s
theorem r88_5_l : r88_5.toList = [o88_5_0, o88_5_1, o88_5_2] := nrfl rfl
theorem s88_5_0 : stepA E C B 156 r88_5 o88_5_0 (φ, H) = stp (some 31) φ H (justO (aBuild E.T 109 (evO E φ) [])) := nrfl rfl
theorem s88_5_1 : stepA E C B 156 r88_5 o88_5_1 (φ, H) = stp none φ H (opStore E.T 109 (fget φ 2) (fget φ 31)) := nrfl rfl
theorem s88_5_2 : stepA E C B 156 r88_5 o88_5_2 (φ, H) = some (fput φ 3 (.int .i64 3), H) := nrfl rfl
noncomputable def c88_17 : Code := kR c88_15
theorem x88_17 : execA E C (fg 88) B 156 E0 N c88_17 s = some (.ret, s) := x_ret (by rfl) s
theorem x88_15 : execA E C (fg 88) B 156 E0 N c88_15 s = seqX (execA E C (fg 88) B 156 E0 N c88_16 s) (execA E C (fg 88) B 156 E0 N c88_17) := x_seq (by rfl) s
noncomputable def c88_18 : Code := kE c88_14
theorem x88_18 : execA E C (fg 88) B 156 E0 N c88_18 s = some (.normal, s) := x_skip (by rfl) s
theorem x88_14 : execA E C (fg 88) B 156 E0 N c88_14 (φ, H) = condX (fget φ 22) (execA E C (fg 88) B 156 E0 N c88_15 (φ, H)) (execA E C (fg 88) B 156 E0 N c88_18 (φ, H)) := x_cond (by rfl) _
theorem x88_12 : execA E C (fg 88) B 156 E0 N c88_12 s = seqX (execA E C (fg 88) B 156 E0 N c88_13 s) (execA E C (fg 88) B 156 E0 N c88_14) := x_seq (by rfl) s
theorem x88_8 : execA E C (fg 88) B 156 E0 N c88_8 (φ, H) = condX (fget φ 18) (execA E C (fg 88) B 156 E0 N c88_9 (φ, H)) (execA E C (fg 88) B 156 E0 N c88_12 (φ, H)) := x_cond (by rfl) _
theorem x88_6 : execA E C (fg 88) B 156 E0 N c88_6 s = seqX (execA E C (fg 88) B 156 E0 N c88_7 s) (execA E C (fg 88) B 156 E0 N c88_8) := x_seq (by rfl) s
theorem x88_5 : execA E C (fg 88) B 156 E0 N c88_5 s = blockX 0 (fun s => (forget s.1 [22], s.2)) (execA E C (fg 88) B 156 E0 N c88_6 s) := x_block (by rfl) (by rfl) s
noncomputable def c88_19 : Code := kR c88_4
noncomputable def c88_20 : Code := kL c88_19
noncomputable def r88_6 : Array Oper := kO c88_20
noncomputable def o88_6_0 : Oper := opN r88_6 0
noncomputable def o88_6_1 : Oper := opN r88_6 1
noncomputable def o88_6_2 : Oper := opN r88_6 2
noncomputable def o88_6_3 : Oper := opN r88_6 3
noncomputable def o88_6_4 : Oper := opN r88_6 4
theorem x88_20 : execA E C (fg 88) B 156 E0 N c88_20 s = regX (runA E C B 156 r88_6 r88_6.toList s) (fun s => gcM E0 [32, 33, 34] (forget s.1 [32, 33, 34], s.2)) := x_reg (ops := r88_6) (by rfl) (by rfl) s
theorem r88_6_l : r88_6.toList = [o88_6_0, o88_6_1, o88_6_2, o88_6_3, o88_6_4] := nrfl rfl
theorem s88_6_0 : stepA E C B 156 r88_6 o88_6_0 (φ, H) = some (fput φ 32 (fget φ 4), H) := nrfl rfl
theorem s88_6_1 : stepA E C B 156 r88_6 o88_6_1 (φ, H) = stp (some 33) φ H (aMake E.T (B + 33) 107 (fget φ 32) (fget φ 32)) := nrfl rfl
theorem s88_6_2 : stepA E C B 156 r88_6 o88_6_2 (φ, H) = stp (some 34) φ H (justO (aBuild E.T 109 (evO E φ) [(1, Operand.tmp 33)])) := nrfl rfl
theorem s88_6_3 : stepA E C B 156 r88_6 o88_6_3 (φ, H) = stp (some 5) φ H (opBox (B + 5) (zeroCells E.T 109)) := nrfl rfl
theorem s88_6_4 : stepA E C B 156 r88_6 o88_6_4 (φ, H) = stp none φ H (opStore E.T 109 (fget φ 5) (fget φ 34)) := nrfl rfl
noncomputable def c88_21 : Code := kR c88_19
noncomputable def c88_22 : Code := kL c88_21
noncomputable def c88_23 : Code := kL c88_22
noncomputable def r88_7 : Array Oper := kO c88_23
noncomputable def o88_7_0 : Oper := opN r88_7 0
noncomputable def o88_7_1 : Oper := opN r88_7 1
noncomputable def o88_7_2 : Oper := opN r88_7 2
noncomputable def o88_7_3 : Oper := opN r88_7 3
theorem x88_23 : execA E C (fg 88) B 156 E0 N c88_23 s = regX (runA E C B 156 r88_7 r88_7.toList s) (fun s => gcM E0 [35] (forget s.1 [35], s.2)) := x_reg (ops := r88_7) (by rfl) (by rfl) s
theorem r88_7_l : r88_7.toList = [o88_7_0, o88_7_1, o88_7_2, o88_7_3] := nrfl rfl
theorem s88_7_0 : stepA E C B 156 r88_7 o88_7_0 (φ, H) = stp (some 35) φ H (just (aFieldAddr E.T 25 (fget φ 1) 0)) := nrfl rfl
theorem s88_7_1 : stepA E C B 156 r88_7 o88_7_1 (φ, H) = stp (some 36) φ H (just (aLoad E.T 22 (fget φ 35))) := nrfl rfl
theorem s88_7_2 : stepA E C B 156 r88_7 o88_7_2 (φ, H) = stp (some 37) φ H (aBuiltin E.T (B + 37) .len #[22] [(fget φ 36)]) := nrfl rfl
theorem s88_7_3 : stepA E C B 156 r88_7 o88_7_3 (φ, H) = some (fput φ 38 (.int .i64 0), H) := nrfl rfl
noncomputable def c88_24 : Code := kR c88_22
noncomputable def c88_25 : Code := kB c88_24
noncomputable def c88_26 : Code := kB c88_25
noncomputable def c88_27 : Code := kL c88_26
noncomputable def r88_8 : Array Oper := kO c88_27
noncomputable def o88_8_0 : Oper := opN r88_8 0
theorem x88_27 : execA E C (fg 88) B 156 E0 N c88_27 s = regX (runA E C B 156 r88_8 r88_8.toList s) (fun s => gcM E0 [] (forget s.1 [], s.2)) := x_reg (ops := r88_8) (by rfl) (by rfl) s
theorem r88_8_l : r88_8.toList = [o88_8_0] := nrfl rfl
theorem s88_8_0 : stepA E C B 156 r88_8 o88_8_0 (φ, H) = stp (some 39) φ H (just (aBin E.T .lss 3 (fget φ 38) (fget φ 37))) := nrfl rfl
noncomputable def c88_28 : Code := kR c88_26
noncomputable def c88_29 : Code := kL c88_28
noncomputable def c88_30 : Code := kT c88_29
theorem x88_30 : execA E C (fg 88) B 156 E0 N c88_30 s = some (.normal, s) := x_skip (by rfl) s
noncomputable def c88_31 : Code := kE c88_29
theorem x88_31 : execA E C (fg 88) B 156 E0 N c88_31 s = some (.exit 1, s) := x_exit (by rfl) s
theorem x88_29 : execA E C (fg 88) B 156 E0 N c88_29 (φ, H) = condX (fget φ 39) (execA E C (fg 88) B 156 E0 N c88_30 (φ, H)) (execA E C (fg 88) B 156 E0 N c88_31 (φ, H)) := x_cond (by rfl) _
noncomputable def c88_32 : Code := kR c88_28
noncomputable def c88_33 : Code := kL c88_32
noncomputable def c88_34 : Code := kB c88_33
noncomputable def c88_35 : Code := kL c88_34
noncomputable def r88_9 : Array Oper := kO c88_35
noncomputable def o88_9_0 : Oper := opN r88_9 0
noncomputable def o88_9_1 : Oper := opN r88_9 1
noncomputable def o88_9_2 : Oper := opN r88_9 2
noncomputable def o88_9_3 : Oper := opN r88_9 3
theorem x88_35 : execA E C (fg 88) B 156 E0 N c88_35 s = regX (runA E C B 156 r88_9 r88_9.toList s) (fun s => gcM E0 [39, 40, 41] (forget s.1 [39, 40, 41], s.2)) := x_reg (ops := r88_9) (by rfl) (by rfl) s
theorem r88_9_l : r88_9.toList = [o88_9_0, o88_9_1, o88_9_2, o88_9_3] := nrfl rfl
theorem s88_9_0 : stepA E C B 156 r88_9 o88_9_0 (φ, H) = stp (some 40) φ H (just (aIndexAddr E.T 22 (fget φ 36) (fget φ 38))) := nrfl rfl
theorem s88_9_1 : stepA E C B 156 r88_9 o88_9_1 (φ, H) = stp (some 41) φ H (just (aLoad E.T 62 (fget φ 40))) := nrfl rfl
theorem s88_9_2 : stepA E C B 156 r88_9 o88_9_2 (φ, H) = stp (some 7) φ H (opBox (B + 7) (zeroCells E.T 62)) := nrfl rfl
theorem s88_9_3 : stepA E C B 156 r88_9 o88_9_3 (φ, H) = stp none φ H (opStore E.T 62 (fget φ 7) (fget φ 41)) := nrfl rfl
noncomputable def c88_36 : Code := kR c88_34
noncomputable def c88_37 : Code := kL c88_36
noncomputable def r88_10 : Array Oper := kO c88_37
noncomputable def o88_10_0 : Oper := opN r88_10 0
noncomputable def o88_10_1 : Oper := opN r88_10 1
noncomputable def o88_10_2 : Oper := opN r88_10 2
noncomputable def o88_10_3 : Oper := opN r88_10 3
theorem x88_37 : execA E C (fg 88) B 156 E0 N c88_37 s = regX (runA E C B 156 r88_10 r88_10.toList s) (fun s => gcM E0 [7, 42, 43] (forget s.1 [7, 42, 43], s.2)) := x_reg (ops := r88_10) (by rfl) (by rfl) s
theorem r88_10_l : r88_10.toList = [o88_10_0, o88_10_1, o88_10_2, o88_10_3] := nrfl rfl
theorem s88_10_0 : stepA E C B 156 r88_10 o88_10_0 (φ, H) = stp (some 42) φ H (just (aLoad E.T 62 (fget φ 7))) := nrfl rfl
theorem s88_10_1 : stepA E C B 156 r88_10 o88_10_1 (φ, H) = stp (some 43) φ H (aCall C (fun j => B + j * 156 + 43) true 126 [(fget φ 42)]) := nrfl rfl
theorem s88_10_2 : stepA E C B 156 r88_10 o88_10_2 (φ, H) = stp (some 8) φ H (opBox (B + 8) (zeroCells E.T 126)) := nrfl rfl
theorem s88_10_3 : stepA E C B 156 r88_10 o88_10_3 (φ, H) = stp none φ H (opStore E.T 126 (fget φ 8) (fget φ 43)) := nrfl rfl
noncomputable def c88_38 : Code := kR c88_36
noncomputable def c88_39 : Code := kL c88_38
noncomputable def c88_40 : Code := kB c88_39
noncomputable def c88_41 : Code := kL c88_40
noncomputable def r88_11 : Array Oper := kO c88_41
noncomputable def o88_11_0 : Oper := opN r88_11 0
noncomputable def o88_11_1 : Oper := opN r88_11 1
noncomputable def o88_11_2 : Oper := opN r88_11 2
noncomputable def o88_11_3 : Oper := opN r88_11 3
noncomputable def o88_11_4 : Oper := opN r88_11 4
theorem x88_41 : execA E C (fg 88) B 156 E0 N c88_41 s = regX (drawA E C B 156 r88_11 s) (fun s => gcM E0 [45, 46, 47, 48] (forget s.1 [45, 46, 47, 48], s.2)) := x_draw (ops := r88_11) (by rfl) (by rfl) s
theorem r88_11_l : r88_11.toList = [o88_11_0, o88_11_1, o88_11_2, o88_11_3, o88_11_4] := nrfl rfl
theorem r88_11_st : statOk r88_11 = true := by kernel_rfl
theorem r88_11_dr : drawA E C B 156 r88_11 s = if neat 156 s = true then drX r88_11 (runT E C B 156 r88_11 r88_11.toList 0 s) else none := draw_eq r88_11_st s
theorem r88_11_an (l : List (Nat × Tr)) : dynOk r88_11 l = (!writing l || dynPairs [[], [], [1], [0, 1, 2], [0, 1, 2, 3]] (touching l)) := dynOk_eq (by kernel_rfl) l
theorem s88_11_0 : stepT E C B 156 r88_11 o88_11_0 (φ, H) = stpT (some 45) φ H (just (aLoad E.T 126 (fget φ 8))) := stT_go rfl (goT_R rfl rfl)
theorem s88_11_1 : stepT E C B 156 r88_11 o88_11_1 (φ, H) = stpT (some 46) φ H (just (aLoad E.T 126 (fget φ 8))) := stT_go rfl (goT_R rfl rfl)
theorem s88_11_2 : stepT E C B 156 r88_11 o88_11_2 (φ, H) = stpT (some 47) φ H (aCall C (fun j => B + j * 156 + 47) true 127 [(fget φ 46)]) := stT_go rfl (goT_R rfl rfl)
theorem s88_11_3 : stepT E C B 156 r88_11 o88_11_3 (φ, H) = stpT (some 48) φ H (just (aBin E.T .neq 126 (fget φ 45) (fget φ 47))) := stT_go rfl (goT_R rfl rfl)
theorem s88_11_4 : stepT E C B 156 r88_11 o88_11_4 (φ, H) = some ((fput φ 44 (fget φ 48), H), ⟨false, [], []⟩) := stT_go rfl (goT_mv rfl rfl)
noncomputable def c88_42 : Code := kR c88_40
noncomputable def c88_43 : Code := kT c88_42
noncomputable def c88_44 : Code := kL c88_43
noncomputable def r88_12 : Array Oper := kO c88_44
noncomputable def o88_12_0 : Oper := opN r88_12 0
noncomputable def o88_12_1 : Oper := opN r88_12 1
noncomputable def o88_12_2 : Oper := opN r88_12 2
theorem x88_44 : execA E C (fg 88) B 156 E0 N c88_44 s = regX (runA E C B 156 r88_12 r88_12.toList s) (fun s => gcM E0 [1, 4, 5, 8, 36, 37, 38, 44, 49] (forget s.1 [1, 4, 5, 8, 36, 37, 38, 44, 49], s.2)) := x_reg (ops := r88_12) (by rfl) (by rfl) s
theorem r88_12_l : r88_12.toList = [o88_12_0, o88_12_1, o88_12_2] := nrfl rfl
theorem s88_12_0 : stepA E C B 156 r88_12 o88_12_0 (φ, H) = stp (some 49) φ H (justO (aBuild E.T 109 (evO E φ) [])) := nrfl rfl
theorem s88_12_1 : stepA E C B 156 r88_12 o88_12_1 (φ, H) = stp none φ H (opStore E.T 109 (fget φ 2) (fget φ 49)) := nrfl rfl
theorem s88_12_2 : stepA E C B 156 r88_12 o88_12_2 (φ, H) = some (fput φ 3 (.int .i64 1), H) := nrfl rfl
noncomputable def c88_45 : Code := kR c88_43
theorem x88_45 : execA E C (fg 88) B 156 E0 N c88_45 s = some (.ret, s) := x_ret (by rfl) s
theorem x88_43 : execA E C (fg 88) B 156 E0 N c88_43 s = seqX (execA E C (fg 88) B 156 E0 N c88_44 s) (execA E C (fg 88) B 156 E0 N c88_45) := x_seq (by rfl) s
noncomputable def c88_46 : Code := kE c88_42
noncomputable def c88_47 : Code := kL c88_46
noncomputable def r88_13 : Array Oper := kO c88_47
noncomputable def o88_13_0 : Oper := opN r88_13 0
noncomputable def o88_13_1 : Oper := opN r88_13 1
noncomputable def o88_13_2 : Oper := opN r88_13 2
noncomputable def o88_13_3 : Oper := opN r88_13 3
noncomputable def o88_13_4 : Oper := opN r88_13 4
noncomputable def o88_13_5 : Oper := opN r88_13 5
theorem x88_47 : execA E C (fg 88) B 156 E0 N c88_47 s = regX (runA E C B 156 r88_13 r88_13.toList s) (fun s => gcM E0 [44, 51, 52, 53, 54, 55] (forget s.1 [44, 51, 52, 53, 54, 55], s.2)) := x_reg (ops := r88_13) (by rfl) (by rfl) s
theorem r88_13_l : r88_13.toList = [o88_13_0, o88_13_1, o88_13_2, o88_13_3, o88_13_4, o88_13_5] := nrfl rfl
theorem s88_13_0 : stepA E C B 156 r88_13 o88_13_0 (φ, H) = stp (some 51) φ H (just (aIndexAddr E.T 126 (fget φ 8) (.int .i64 0))) := nrfl rfl
theorem s88_13_1 : stepA E C B 156 r88_13 o88_13_1 (φ, H) = stp (some 52) φ H (just (aLoad E.T 3 (fget φ 51))) := nrfl rfl
theorem s88_13_2 : stepA E C B 156 r88_13 o88_13_2 (φ, H) = stp (some 53) φ H (just (aIndexAddr E.T 126 (fget φ 8) (.int .i64 1))) := nrfl rfl
theorem s88_13_3 : stepA E C B 156 r88_13 o88_13_3 (φ, H) = stp (some 54) φ H (just (aLoad E.T 3 (fget φ 53))) := nrfl rfl
theorem s88_13_4 : stepA E C B 156 r88_13 o88_13_4 (φ, H) = stp (some 55) φ H (just (aBin E.T .gtr 3 (fget φ 52) (fget φ 54))) := nrfl rfl
theorem s88_13_5 : stepA E C B 156 r88_13 o88_13_5 (φ, H) = some (fput φ 50 (fget φ 55), H) := nrfl rfl
noncomputable def c88_48 : Code := kR c88_46
noncomputable def c88_49 : Code := kT c88_48
noncomputable def c88_50 : Code := kL c88_49
noncomputable def r88_14 : Array Oper := kO c88_50
noncomputable def o88_14_0 : Oper := opN r88_14 0
noncomputable def o88_14_1 : Oper := opN r88_14 1
noncomputable def o88_14_2 : Oper := opN r88_14 2
theorem x88_50 : execA E C (fg 88) B 156 E0 N c88_50 s = regX (runA E C B 156 r88_14 r88_14.toList s) (fun s => gcM E0 [1, 4, 5, 8, 36, 37, 38, 50, 56] (forget s.1 [1, 4, 5, 8, 36, 37, 38, 50, 56], s.2)) := x_reg (ops := r88_14) (by rfl) (by rfl) s
theorem r88_14_l : r88_14.toList = [o88_14_0, o88_14_1, o88_14_2] := nrfl rfl
theorem s88_14_0 : stepA E C B 156 r88_14 o88_14_0 (φ, H) = stp (some 56) φ H (justO (aBuild E.T 109 (evO E φ) [])) := nrfl rfl
theorem s88_14_1 : stepA E C B 156 r88_14 o88_14_1 (φ, H) = stp none φ H (opStore E.T 109 (fget φ 2) (fget φ 56)) := nrfl rfl
theorem s88_14_2 : stepA E C B 156 r88_14 o88_14_2 (φ, H) = some (fput φ 3 (.int .i64 7), H) := nrfl rfl
noncomputable def c88_51 : Code := kR c88_49
theorem x88_51 : execA E C (fg 88) B 156 E0 N c88_51 s = some (.ret, s) := x_ret (by rfl) s
theorem x88_49 : execA E C (fg 88) B 156 E0 N c88_49 s = seqX (execA E C (fg 88) B 156 E0 N c88_50 s) (execA E C (fg 88) B 156 E0 N c88_51) := x_seq (by rfl) s
noncomputable def c88_52 : Code := kE c88_48
theorem x88_52 : execA E C (fg 88) B 156 E0 N c88_52 s = some (.normal, s) := x_skip (by rfl) s
theorem x88_48 : execA E C (fg 88) B 156 E0 N c88_48 (φ, H) = condX (fget φ 50) (execA E C (fg 88) B 156 E0 N c88_49 (φ, H)) (execA E C (fg 88) B 156 E0 N c88_52 (φ, H)) := x_cond (by rfl) _
theorem x88_46 : execA E C (fg 88) B 156 E0 N c88_46 s = seqX (execA E C (fg 88) B 156 E0 N c88_47 s) (execA E C (fg 88) B 156 E0 N c88_48) := x_seq (by rfl) s
theorem x88_42 : execA E C (fg 88) B 156 E0 N c88_42 (φ, H) = condX (fget φ 44) (execA E C (fg 88) B 156 E0 N c88_43 (φ, H)) (execA E C (fg 88) B 156 E0 N c88_46 (φ, H)) := x_cond (by rfl) _
theorem x88_40 : execA E C (fg 88) B 156 E0 N c88_40 s = seqX (execA E C (fg 88) B 156 E0 N c88_41 s) (execA E C (fg 88) B 156 E0 N c88_42) := x_seq (by rfl) s
theorem x88_39 : execA E C (fg 88) B 156 E0 N c88_39 s = blockX 3 (fun s => (forget s.1 [50], s.2)) (execA E C (fg 88) B 156 E0 N c88_40 s) := x_block (by rfl) (by rfl) s
noncomputable def c88_53 : Code := kR c88_38
noncomputable def r88_15 : Array Oper := kO c88_53
noncomputable def o88_15_0 : Oper := opN r88_15 0
noncomputable def o88_15_1 : Oper := opN r88_15 1
noncomputable def o88_15_2 : Oper := opN r88_15 2
noncomputable def o88_15_3 : Oper := opN r88_15 3
noncomputable def o88_15_4 : Oper := opN r88_15 4
noncomputable def o88_15_5 : Oper := opN r88_15 5
noncomputable def o88_15_6 : Oper := opN r88_15 6
theorem x88_53 : execA E C (fg 88) B 156 E0 N c88_53 s = regX (runA E C B 156 r88_15 r88_15.toList s) (fun s => gcM E0 [8, 57, 58, 59, 60, 61, 62] (forget s.1 [8, 57, 58, 59, 60, 61, 62], s.2)) := x_reg (ops := r88_15) (by rfl) (by rfl) s
theorem r88_15_l : r88_15.toList = [o88_15_0, o88_15_1, o88_15_2, o88_15_3, o88_15_4, o88_15_5, o88_15_6] := nrfl rfl
theorem s88_15_0 : stepA E C B 156 r88_15 o88_15_0 (φ, H) = stp (some 57) φ H (just (aFieldAddr E.T 109 (fget φ 5) 0)) := nrfl rfl
theorem s88_15_1 : stepA E C B 156 r88_15 o88_15_1 (φ, H) = stp (some 58) φ H (just (aLoad E.T 106 (fget φ 57))) := nrfl rfl
theorem s88_15_2 : stepA E C B 156 r88_15 o88_15_2 (φ, H) = stp (some 59) φ H (just (aLoad E.T 126 (fget φ 8))) := nrfl rfl
theorem s88_15_3 : stepA E C B 156 r88_15 o88_15_3 (φ, H) = stp (some 60) φ H (aBuildSlice E.T (B + 60) 106 1 (evO E φ) [(0, Operand.tmp 59)]) := nrfl rfl
theorem s88_15_4 : stepA E C B 156 r88_15 o88_15_4 (φ, H) = stp (some 61) φ H (aBuiltin E.T (B + 61) .append #[106, 106] [(fget φ 58), (fget φ 60)]) := nrfl rfl
theorem s88_15_5 : stepA E C B 156 r88_15 o88_15_5 (φ, H) = stp (some 62) φ H (just (aFieldAddr E.T 109 (fget φ 5) 0)) := nrfl rfl
theorem s88_15_6 : stepA E C B 156 r88_15 o88_15_6 (φ, H) = stp none φ H (opStore E.T 106 (fget φ 62) (fget φ 61)) := nrfl rfl
theorem x88_38 : execA E C (fg 88) B 156 E0 N c88_38 s = seqX (execA E C (fg 88) B 156 E0 N c88_39 s) (execA E C (fg 88) B 156 E0 N c88_53) := x_seq (by rfl) s
theorem x88_36 : execA E C (fg 88) B 156 E0 N c88_36 s = seqX (execA E C (fg 88) B 156 E0 N c88_37 s) (execA E C (fg 88) B 156 E0 N c88_38) := x_seq (by rfl) s
theorem x88_34 : execA E C (fg 88) B 156 E0 N c88_34 s = seqX (execA E C (fg 88) B 156 E0 N c88_35 s) (execA E C (fg 88) B 156 E0 N c88_36) := x_seq (by rfl) s
theorem x88_33 : execA E C (fg 88) B 156 E0 N c88_33 s = blockX 2 (fun s => (forget s.1 [], s.2)) (execA E C (fg 88) B 156 E0 N c88_34 s) := x_block (by rfl) (by rfl) s
noncomputable def c88_54 : Code := kR c88_32
noncomputable def r88_16 : Array Oper := kO c88_54
noncomputable def o88_16_0 : Oper := opN r88_16 0
noncomputable def o88_16_1 : Oper := opN r88_16 1
theorem x88_54 : execA E C (fg 88) B 156 E0 N c88_54 s = regX (runA E C B 156 r88_16 r88_16.toList s) (fun s => gcM E0 [63] (forget s.1 [63], s.2)) := x_reg (ops := r88_16) (by rfl) (by rfl) s
theorem r88_16_l : r88_16.toList = [o88_16_0, o88_16_1] := nrfl rfl
theorem s88_16_0 : stepA E C B 156 r88_16 o88_16_0 (φ, H) = stp (some 63) φ H (just (aBin E.T .add 3 (fget φ 38) (.int .i64 1))) := nrfl rfl
theorem s88_16_1 : stepA E C B 156 r88_16 o88_16_1 (φ, H) = some (fput φ 38 (fget φ 63), H) := nrfl rfl
theorem x88_32 : execA E C (fg 88) B 156 E0 N c88_32 s = seqX (execA E C (fg 88) B 156 E0 N c88_33 s) (execA E C (fg 88) B 156 E0 N c88_54) := x_seq (by rfl) s
theorem x88_28 : execA E C (fg 88) B 156 E0 N c88_28 s = seqX (execA E C (fg 88) B 156 E0 N c88_29 s) (execA E C (fg 88) B 156 E0 N c88_32) := x_seq (by rfl) s
theorem x88_26 : execA E C (fg 88) B 156 E0 N c88_26 s = seqX (execA E C (fg 88) B 156 E0 N c88_27 s) (execA E C (fg 88) B 156 E0 N c88_28) := x_seq (by rfl) s
theorem x88_25 : execA E C (fg 88) B 156 E0 N c88_25 s = iterA (execA E C (fg 88) B 156 E0 N c88_26) (headA E0) N s := x_loop (by rfl) s
theorem x88_24 : execA E C (fg 88) B 156 E0 N c88_24 s = blockX 1 (fun s => (forget s.1 [36, 37, 38, 39], s.2)) (execA E C (fg 88) B 156 E0 N c88_25 s) := x_block (by rfl) (by rfl) s
theorem x88_22 : execA E C (fg 88) B 156 E0 N c88_22 s = seqX (execA E C (fg 88) B 156 E0 N c88_23 s) (execA E C (fg 88) B 156 E0 N c88_24) := x_seq (by rfl) s
noncomputable def c88_55 : Code := kR c88_21
noncomputable def c88_56 : Code := kL c88_55
noncomputable def c88_57 : Code := kL c88_56
noncomputable def r88_17 : Array Oper := kO c88_57
noncomputable def o88_17_0 : Oper := opN r88_17 0
noncomputable def o88_17_1 : Oper := opN r88_17 1
noncomputable def o88_17_2 : Oper := opN r88_17 2
noncomputable def o88_17_3 : Oper := opN r88_17 3
theorem x88_57 : execA E C (fg 88) B 156 E0 N c88_57 s = regX (runA E C B 156 r88_17 r88_17.toList s) (fun s => gcM E0 [64] (forget s.1 [64], s.2)) := x_reg (ops := r88_17) (by rfl) (by rfl) s
theorem r88_17_l : r88_17.toList = [o88_17_0, o88_17_1, o88_17_2, o88_17_3] := nrfl rfl
theorem s88_17_0 : stepA E C B 156 r88_17 o88_17_0 (φ, H) = stp (some 64) φ H (just (aFieldAddr E.T 25 (fget φ 1) 1)) := nrfl rfl
theorem s88_17_1 : stepA E C B 156 r88_17 o88_17_1 (φ, H) = stp (some 65) φ H (just (aLoad E.T 23 (fget φ 64))) := nrfl rfl
theorem s88_17_2 : stepA E C B 156 r88_17 o88_17_2 (φ, H) = stp (some 66) φ H (aBuiltin E.T (B + 66) .len #[23] [(fget φ 65)]) := nrfl rfl
theorem s88_17_3 : stepA E C B 156 r88_17 o88_17_3 (φ, H) = some (fput φ 67 (.int .i64 0), H) := nrfl rfl
noncomputable def c88_58 : Code := kR c88_56
noncomputable def c88_59 : Code := kB c88_58
noncomputable def c88_60 : Code := kB c88_59
noncomputable def c88_61 : Code := kL c88_60
noncomputable def r88_18 : Array Oper := kO c88_61
noncomputable def o88_18_0 : Oper := opN r88_18 0
theorem x88_61 : execA E C (fg 88) B 156 E0 N c88_61 s = regX (runA E C B 156 r88_18 r88_18.toList s) (fun s => gcM E0 [] (forget s.1 [], s.2)) := x_reg (ops := r88_18) (by rfl) (by rfl) s
theorem r88_18_l : r88_18.toList = [o88_18_0] := nrfl rfl
theorem s88_18_0 : stepA E C B 156 r88_18 o88_18_0 (φ, H) = stp (some 68) φ H (just (aBin E.T .lss 3 (fget φ 67) (fget φ 66))) := nrfl rfl
noncomputable def c88_62 : Code := kR c88_60
noncomputable def c88_63 : Code := kL c88_62
noncomputable def c88_64 : Code := kT c88_63
theorem x88_64 : execA E C (fg 88) B 156 E0 N c88_64 s = some (.normal, s) := x_skip (by rfl) s
noncomputable def c88_65 : Code := kE c88_63
theorem x88_65 : execA E C (fg 88) B 156 E0 N c88_65 s = some (.exit 4, s) := x_exit (by rfl) s
theorem x88_63 : execA E C (fg 88) B 156 E0 N c88_63 (φ, H) = condX (fget φ 68) (execA E C (fg 88) B 156 E0 N c88_64 (φ, H)) (execA E C (fg 88) B 156 E0 N c88_65 (φ, H)) := x_cond (by rfl) _
noncomputable def c88_66 : Code := kR c88_62
noncomputable def c88_67 : Code := kL c88_66
noncomputable def c88_68 : Code := kB c88_67
noncomputable def c88_69 : Code := kL c88_68
noncomputable def r88_19 : Array Oper := kO c88_69
noncomputable def o88_19_0 : Oper := opN r88_19 0
noncomputable def o88_19_1 : Oper := opN r88_19 1
noncomputable def o88_19_2 : Oper := opN r88_19 2
noncomputable def o88_19_3 : Oper := opN r88_19 3
noncomputable def o88_19_4 : Oper := opN r88_19 4
noncomputable def o88_19_5 : Oper := opN r88_19 5
theorem x88_69 : execA E C (fg 88) B 156 E0 N c88_69 s = regX (runA E C B 156 r88_19 r88_19.toList s) (fun s => gcM E0 [68, 69, 70, 71] (forget s.1 [68, 69, 70, 71], s.2)) := x_reg (ops := r88_19) (by rfl) (by rfl) s
theorem r88_19_l : r88_19.toList = [o88_19_0, o88_19_1, o88_19_2, o88_19_3, o88_19_4, o88_19_5] := nrfl rfl
theorem s88_19_0 : stepA E C B 156 r88_19 o88_19_0 (φ, H) = some (fput φ 69 (fget φ 67), H) := nrfl rfl
theorem s88_19_1 : stepA E C B 156 r88_19 o88_19_1 (φ, H) = stp (some 70) φ H (just (aIndexAddr E.T 23 (fget φ 65) (fget φ 67))) := nrfl rfl
theorem s88_19_2 : stepA E C B 156 r88_19 o88_19_2 (φ, H) = stp (some 71) φ H (just (aLoad E.T 64 (fget φ 70))) := nrfl rfl
theorem s88_19_3 : stepA E C B 156 r88_19 o88_19_3 (φ, H) = stp (some 10) φ H (opBox (B + 10) (zeroCells E.T 64)) := nrfl rfl
theorem s88_19_4 : stepA E C B 156 r88_19 o88_19_4 (φ, H) = some (fput φ 9 (fget φ 69), H) := nrfl rfl
theorem s88_19_5 : stepA E C B 156 r88_19 o88_19_5 (φ, H) = stp none φ H (opStore E.T 64 (fget φ 10) (fget φ 71)) := nrfl rfl
noncomputable def c88_70 : Code := kR c88_68
noncomputable def c88_71 : Code := kL c88_70
noncomputable def c88_72 : Code := kB c88_71
noncomputable def c88_73 : Code := kL c88_72
noncomputable def r88_20 : Array Oper := kO c88_73
noncomputable def o88_20_0 : Oper := opN r88_20 0
noncomputable def o88_20_1 : Oper := opN r88_20 1
noncomputable def o88_20_2 : Oper := opN r88_20 2
noncomputable def o88_20_3 : Oper := opN r88_20 3
noncomputable def o88_20_4 : Oper := opN r88_20 4
noncomputable def o88_20_5 : Oper := opN r88_20 5
noncomputable def o88_20_6 : Oper := opN r88_20 6
noncomputable def o88_20_7 : Oper := opN r88_20 7
noncomputable def o88_20_8 : Oper := opN r88_20 8
noncomputable def o88_20_9 : Oper := opN r88_20 9
noncomputable def o88_20_10 : Oper := opN r88_20 10
noncomputable def o88_20_11 : Oper := opN r88_20 11
noncomputable def o88_20_12 : Oper := opN r88_20 12
noncomputable def o88_20_13 : Oper := opN r88_20 13
noncomputable def o88_20_14 : Oper := opN r88_20 14
noncomputable def o88_20_15 : Oper := opN r88_20 15
theorem x88_73 : execA E C (fg 88) B 156 E0 N c88_73 s = regX (runA E C B 156 r88_20 r88_20.toList s) (fun s => gcM E0 [73, 74, 75, 76, 77, 78, 79, 80, 81, 82, 83, 84, 85, 86, 87] (forget s.1 [73, 74, 75, 76, 77, 78, 79, 80, 81, 82, 83, 84, 85, 86, 87], s.2)) := x_reg (ops := r88_20) (by rfl) (by rfl) s
theorem r88_20_l : r88_20.toList = [o88_20_0, o88_20_1, o88_20_2, o88_20_3, o88_20_4, o88_20_5, o88_20_6, o88_20_7, o88_20_8, o88_20_9, o88_20_10, o88_20_11, o88_20_12, o88_20_13, o88_20_14, o88_20_15] := nrfl rfl
theorem s88_20_0 : stepA E C B 156 r88_20 o88_20_0 (φ, H) = stp (some 73) φ H (just (aIndexAddr E.T 64 (fget φ 10) (.int .i64 0))) := nrfl rfl
theorem s88_20_1 : stepA E C B 156 r88_20 o88_20_1 (φ, H) = stp (some 74) φ H (just (aLoad E.T 3 (fget φ 73))) := nrfl rfl
theorem s88_20_2 : stepA E C B 156 r88_20 o88_20_2 (φ, H) = stp (some 75) φ H (just (aIndexAddr E.T 64 (fget φ 10) (.int .i64 1))) := nrfl rfl
theorem s88_20_3 : stepA E C B 156 r88_20 o88_20_3 (φ, H) = stp (some 76) φ H (just (aLoad E.T 3 (fget φ 75))) := nrfl rfl
theorem s88_20_4 : stepA E C B 156 r88_20 o88_20_4 (φ, H) = stp (some 77) φ H (aBuiltin E.T (B + 77) .min #[3, 3] [(fget φ 74), (fget φ 76)]) := nrfl rfl
theorem s88_20_5 : stepA E C B 156 r88_20 o88_20_5 (φ, H) = stp (some 78) φ H (just (aBin E.T .lss 3 (fget φ 77) (.int .i64 0))) := nrfl rfl
theorem s88_20_6 : stepA E C B 156 r88_20 o88_20_6 (φ, H) = some (fput φ 79 (fget φ 78), H) := nrfl rfl
theorem s88_20_7 : stepA E C B 156 r88_20 o88_20_7 (φ, H) = gd φ 79 false (fun φ => some (fput φ 80 (.tup []), H)) (fun φ => stp (some 80) φ H (just (aIndexAddr E.T 64 (fget φ 10) (.int .i64 0)))) := s_gd (j := 6) (oj := o88_20_6) rfl rfl rfl (fun _ => rfl) (fun _ => rfl)
theorem s88_20_8 : stepA E C B 156 r88_20 o88_20_8 (φ, H) = gd φ 79 false (fun φ => some (fput φ 81 (.tup []), H)) (fun φ => stp (some 81) φ H (just (aLoad E.T 3 (fget φ 80)))) := s_gd (j := 6) (oj := o88_20_6) rfl rfl rfl (fun _ => rfl) (fun _ => rfl)
theorem s88_20_9 : stepA E C B 156 r88_20 o88_20_9 (φ, H) = gd φ 79 false (fun φ => some (fput φ 82 (.tup []), H)) (fun φ => stp (some 82) φ H (just (aIndexAddr E.T 64 (fget φ 10) (.int .i64 1)))) := s_gd (j := 6) (oj := o88_20_6) rfl rfl rfl (fun _ => rfl) (fun _ => rfl)
theorem s88_20_10 : stepA E C B 156 r88_20 o88_20_10 (φ, H) = gd φ 79 false (fun φ => some (fput φ 83 (.tup []), H)) (fun φ => stp (some 83) φ H (just (aLoad E.T 3 (fget φ 82)))) := s_gd (j := 6) (oj := o88_20_6) rfl rfl rfl (fun _ => rfl) (fun _ => rfl)
theorem s88_20_11 : stepA E C B 156 r88_20 o88_20_11 (φ, H) = gd φ 79 false (fun φ => some (fput φ 84 (.tup []), H)) (fun φ => stp (some 84) φ H (aBuiltin E.T (B + 84) .max #[3, 3] [(fget φ 81), (fget φ 83)])) := s_gd (j := 6) (oj := o88_20_6) rfl rfl rfl (fun _ => rfl) (fun _ => rfl)
theorem s88_20_12 : stepA E C B 156 r88_20 o88_20_12 (φ, H) = gd φ 79 false (fun φ => some (fput φ 85 (.tup []), H)) (fun φ => some (fput φ 85 (fget φ 4), H)) := s_gd (j := 6) (oj := o88_20_6) rfl rfl rfl (fun _ => rfl) (fun _ => rfl)
theorem s88_20_13 : stepA E C B 156 r88_20 o88_20_13 (φ, H) = gd φ 79 false (fun φ => some (fput φ 86 (.tup []), H)) (fun φ => stp (some 86) φ H (just (aBin E.T .geq 3 (fget φ 84) (fget φ 85)))) := s_gd (j := 6) (oj := o88_20_6) rfl rfl rfl (fun _ => rfl) (fun _ => rfl)
theorem s88_20_14 : stepA E C B 156 r88_20 o88_20_14 (φ, H) = stp (some 87) φ H (opPick (fget φ 79) (.bool true) (fget φ 86)) := nrfl rfl
theorem s88_20_15 : stepA E C B 156 r88_20 o88_20_15 (φ, H) = some (fput φ 72 (fget φ 87), H) := nrfl rfl
noncomputable def c88_74 : Code := kR c88_72
noncomputable def c88_75 : Code := kT c88_74
noncomputable def c88_76 : Code := kL c88_75
noncomputable def r88_21 : Array Oper := kO c88_76
noncomputable def o88_21_0 : Oper := opN r88_21 0
noncomputable def o88_21_1 : Oper := opN r88_21 1
noncomputable def o88_21_2 : Oper := opN r88_21 2
theorem x88_76 : execA E C (fg 88) B 156 E0 N c88_76 s = regX (runA E C B 156 r88_21 r88_21.toList s) (fun s => gcM E0 [1, 4, 5, 9, 10, 65, 66, 67, 72, 88] (forget s.1 [1, 4, 5, 9, 10, 65, 66, 67, 72, 88], s.2)) := x_reg (ops := r88_21) (by rfl) (by rfl) s
theorem r88_21_l : r88_21.toList = [o88_21_0, o88_21_1, o88_21_2] := nrfl rfl
theorem s88_21_0 : stepA E C B 156 r88_21 o88_21_0 (φ, H) = stp (some 88) φ H (justO (aBuild E.T 109 (evO E φ) [])) := nrfl rfl
theorem s88_21_1 : stepA E C B 156 r88_21 o88_21_1 (φ, H) = stp none φ H (opStore E.T 109 (fget φ 2) (fget φ 88)) := nrfl rfl
theorem s88_21_2 : stepA E C B 156 r88_21 o88_21_2 (φ, H) = some (fput φ 3 (.int .i64 2), H) := nrfl rfl
noncomputable def c88_77 : Code := kR c88_75
theorem x88_77 : execA E C (fg 88) B 156 E0 N c88_77 s = some (.ret, s) := x_ret (by rfl) s
theorem x88_75 : execA E C (fg 88) B 156 E0 N c88_75 s = seqX (execA E C (fg 88) B 156 E0 N c88_76 s) (execA E C (fg 88) B 156 E0 N c88_77) := x_seq (by rfl) s
noncomputable def c88_78 : Code := kE c88_74
noncomputable def c88_79 : Code := kL c88_78
noncomputable def r88_22 : Array Oper := kO c88_79
noncomputable def o88_22_0 : Oper := opN r88_22 0
noncomputable def o88_22_1 : Oper := opN r88_22 1
noncomputable def o88_22_2 : Oper := opN r88_22 2
noncomputable def o88_22_3 : Oper := opN r88_22 3
noncomputable def o88_22_4 : Oper := opN r88_22 4
noncomputable def o88_22_5 : Oper := opN r88_22 5
noncomputable def o88_22_6 : Oper := opN r88_22 6
theorem x88_79 : execA E C (fg 88) B 156 E0 N c88_79 s = regX (drawA E C B 156 r88_22 s) (fun s => gcM E0 [9, 72, 90, 91, 92, 93, 94, 95] (forget s.1 [9, 72, 90, 91, 92, 93, 94, 95], s.2)) := x_draw (ops := r88_22) (by rfl) (by rfl) s
theorem r88_22_l : r88_22.toList = [o88_22_0, o88_22_1, o88_22_2, o88_22_3, o88_22_4, o88_22_5, o88_22_6] := nrfl rfl
theorem r88_22_st : statOk r88_22 = true := by kernel_rfl
theorem r88_22_dr : drawA E C B 156 r88_22 s = if neat 156 s = true then drX r88_22 (runT E C B 156 r88_22 r88_22.toList 0 s) else none := draw_eq r88_22_st s
theorem r88_22_an (l : List (Nat × Tr)) : dynOk r88_22 l = (!writing l || dynPairs [[], [0], [], [0, 1, 2], [], [0, 1, 2, 3, 4], [0, 1, 2, 3, 4, 5]] (touching l)) := dynOk_eq (by kernel_rfl) l
theorem s88_22_0 : stepT E C B 156 r88_22 o88_22_0 (φ, H) = stpT (some 90) φ H (just (aFieldAddr E.T 25 (fget φ 1) 1)) := stT_go rfl (goT_R rfl rfl)
theorem s88_22_1 : stepT E C B 156 r88_22 o88_22_1 (φ, H) = stpT (some 91) φ H (just (aLoad E.T 23 (fget φ 90))) := stT_go rfl (goT_R rfl rfl)
theorem s88_22_2 : stepT E C B 156 r88_22 o88_22_2 (φ, H) = some ((fput φ 92 (fget φ 9), H), ⟨false, [], []⟩) := stT_go rfl (goT_mv rfl rfl)
theorem s88_22_3 : stepT E C B 156 r88_22 o88_22_3 (φ, H) = stpT (some 93) φ H (just (aSlice E.T 23 (fget φ 91) none (some (fget φ 92)) none)) := stT_go rfl (goT_R rfl rfl)
theorem s88_22_4 : stepT E C B 156 r88_22 o88_22_4 (φ, H) = stpT (some 94) φ H (just (aLoad E.T 64 (fget φ 10))) := stT_go rfl (goT_R rfl rfl)
theorem s88_22_5 : stepT E C B 156 r88_22 o88_22_5 (φ, H) = stpT (some 95) φ H (aCall C (fun j => B + j * 156 + 95) true 79 [(fget φ 93), (fget φ 94)]) := stT_go rfl (goT_R rfl rfl)
theorem s88_22_6 : stepT E C B 156 r88_22 o88_22_6 (φ, H) = some ((fput φ 89 (fget φ 95), H), ⟨false, [], []⟩) := stT_go rfl (goT_mv rfl rfl)
noncomputable def c88_80 : Code := kR c88_78
noncomputable def c88_81 : Code := kT c88_80
noncomputable def c88_82 : Code := kL c88_81
noncomputable def r88_23 : Array Oper := kO c88_82
noncomputable def o88_23_0 : Oper := opN r88_23 0
noncomputable def o88_23_1 : Oper := opN r88_23 1
noncomputable def o88_23_2 : Oper := opN r88_23 2
theorem x88_82 : execA E C (fg 88) B 156 E0 N c88_82 s = regX (runA E C B 156 r88_23 r88_23.toList s) (fun s => gcM E0 [1, 4, 5, 10, 65, 66, 67, 89, 96] (forget s.1 [1, 4, 5, 10, 65, 66, 67, 89, 96], s.2)) := x_reg (ops := r88_23) (by rfl) (by rfl) s
theorem r88_23_l : r88_23.toList = [o88_23_0, o88_23_1, o88_23_2] := nrfl rfl
theorem s88_23_0 : stepA E C B 156 r88_23 o88_23_0 (φ, H) = stp (some 96) φ H (justO (aBuild E.T 109 (evO E φ) [])) := nrfl rfl
theorem s88_23_1 : stepA E C B 156 r88_23 o88_23_1 (φ, H) = stp none φ H (opStore E.T 109 (fget φ 2) (fget φ 96)) := nrfl rfl
theorem s88_23_2 : stepA E C B 156 r88_23 o88_23_2 (φ, H) = some (fput φ 3 (.int .i64 6), H) := nrfl rfl
noncomputable def c88_83 : Code := kR c88_81
theorem x88_83 : execA E C (fg 88) B 156 E0 N c88_83 s = some (.ret, s) := x_ret (by rfl) s
theorem x88_81 : execA E C (fg 88) B 156 E0 N c88_81 s = seqX (execA E C (fg 88) B 156 E0 N c88_82 s) (execA E C (fg 88) B 156 E0 N c88_83) := x_seq (by rfl) s
noncomputable def c88_84 : Code := kE c88_80
theorem x88_84 : execA E C (fg 88) B 156 E0 N c88_84 s = some (.normal, s) := x_skip (by rfl) s
theorem x88_80 : execA E C (fg 88) B 156 E0 N c88_80 (φ, H) = condX (fget φ 89) (execA E C (fg 88) B 156 E0 N c88_81 (φ, H)) (execA E C (fg 88) B 156 E0 N c88_84 (φ, H)) := x_cond (by rfl) _
theorem x88_78 : execA E C (fg 88) B 156 E0 N c88_78 s = seqX (execA E C (fg 88) B 156 E0 N c88_79 s) (execA E C (fg 88) B 156 E0 N c88_80) := x_seq (by rfl) s
theorem x88_74 : execA E C (fg 88) B 156 E0 N c88_74 (φ, H) = condX (fget φ 72) (execA E C (fg 88) B 156 E0 N c88_75 (φ, H)) (execA E C (fg 88) B 156 E0 N c88_78 (φ, H)) := x_cond (by rfl) _
theorem x88_72 : execA E C (fg 88) B 156 E0 N c88_72 s = seqX (execA E C (fg 88) B 156 E0 N c88_73 s) (execA E C (fg 88) B 156 E0 N c88_74) := x_seq (by rfl) s
theorem x88_71 : execA E C (fg 88) B 156 E0 N c88_71 s = blockX 6 (fun s => (forget s.1 [89], s.2)) (execA E C (fg 88) B 156 E0 N c88_72 s) := x_block (by rfl) (by rfl) s
noncomputable def c88_85 : Code := kR c88_70
noncomputable def r88_24 : Array Oper := kO c88_85
noncomputable def o88_24_0 : Oper := opN r88_24 0
noncomputable def o88_24_1 : Oper := opN r88_24 1
noncomputable def o88_24_2 : Oper := opN r88_24 2
noncomputable def o88_24_3 : Oper := opN r88_24 3
noncomputable def o88_24_4 : Oper := opN r88_24 4
noncomputable def o88_24_5 : Oper := opN r88_24 5
noncomputable def o88_24_6 : Oper := opN r88_24 6
noncomputable def o88_24_7 : Oper := opN r88_24 7
noncomputable def o88_24_8 : Oper := opN r88_24 8
noncomputable def o88_24_9 : Oper := opN r88_24 9
noncomputable def o88_24_10 : Oper := opN r88_24 10
noncomputable def o88_24_11 : Oper := opN r88_24 11
theorem x88_85 : execA E C (fg 88) B 156 E0 N c88_85 s = regX (drawA E C B 156 r88_24 s) (fun s => gcM E0 [10, 97, 98, 99, 100, 101, 102, 103, 104, 105, 106, 107] (forget s.1 [10, 97, 98, 99, 100, 101, 102, 103, 104, 105, 106, 107], s.2)) := x_draw (ops := r88_24) (by rfl) (by rfl) s
theorem r88_24_l : r88_24.toList = [o88_24_0, o88_24_1, o88_24_2, o88_24_3, o88_24_4, o88_24_5, o88_24_6, o88_24_7, o88_24_8, o88_24_9, o88_24_10, o88_24_11] := nrfl rfl
theorem r88_24_st : statOk r88_24 = true := by kernel_rfl
theorem r88_24_dr : drawA E C B 156 r88_24 s = if neat 156 s = true then drX r88_24 (runT E C B 156 r88_24 r88_24.toList 0 s) else none := draw_eq r88_24_st s
theorem r88_24_an (l : List (Nat × Tr)) : dynOk r88_24 l = (!writing l || dynPairs [[], [0], [], [2], [0, 1, 2, 3], [0, 1, 2, 3, 4], [], [6], [6, 7], [0, 1, 2, 3, 4, 5, 6, 7, 8], [0, 1, 2, 3, 4, 5, 6, 7, 8, 9], [0, 1, 2, 3, 4, 5, 6, 7, 8, 9, 10]] (touching l)) := dynOk_eq (by kernel_rfl) l
theorem s88_24_0 : stepT E C B 156 r88_24 o88_24_0 (φ, H) = stpT (some 97) φ H (just (aFieldAddr E.T 109 (fget φ 5) 1)) := stT_go rfl (goT_R rfl rfl)
theorem s88_24_1 : stepT E C B 156 r88_24 o88_24_1 (φ, H) = stpT (some 98) φ H (just (aLoad E.T 107 (fget φ 97))) := stT_go rfl (goT_R rfl rfl)
theorem s88_24_2 : stepT E C B 156 r88_24 o88_24_2 (φ, H) = stpT (some 99) φ H (just (aIndexAddr E.T 64 (fget φ 10) (.int .i64 0))) := stT_go rfl (goT_R rfl rfl)
theorem s88_24_3 : stepT E C B 156 r88_24 o88_24_3 (φ, H) = stpT (some 100) φ H (just (aLoad E.T 3 (fget φ 99))) := stT_go rfl (goT_R rfl rfl)
theorem s88_24_4 : stepT E C B 156 r88_24 o88_24_4 (φ, H) = stpT (some 101) φ H (just (aIndexAddr E.T 107 (fget φ 98) (fget φ 100))) := stT_go rfl (goT_R rfl rfl)
theorem s88_24_5 : stepT E C B 156 r88_24 o88_24_5 (φ, H) = stpT (some 102) φ H (just (aLoad E.T 121 (fget φ 101))) := stT_go rfl (goT_R rfl rfl)
theorem s88_24_6 : stepT E C B 156 r88_24 o88_24_6 (φ, H) = stpT (some 103) φ H (just (aIndexAddr E.T 64 (fget φ 10) (.int .i64 1))) := stT_go rfl (goT_R rfl rfl)
theorem s88_24_7 : stepT E C B 156 r88_24 o88_24_7 (φ, H) = stpT (some 104) φ H (just (aLoad E.T 3 (fget φ 103))) := stT_go rfl (goT_R rfl rfl)
theorem s88_24_8 : stepT E C B 156 r88_24 o88_24_8 (φ, H) = stpT (some 105) φ H (just (aBin E.T .shl 121 (.int .u64 1) (fget φ 104))) := stT_go rfl (goT_R rfl rfl)
theorem s88_24_9 : stepT E C B 156 r88_24 o88_24_9 (φ, H) = stpT (some 106) φ H (just (aBin E.T .or 121 (fget φ 102) (fget φ 105))) := stT_go rfl (goT_R rfl rfl)
theorem s88_24_10 : stepT E C B 156 r88_24 o88_24_10 (φ, H) = stpT (some 107) φ H (just (aIndexAddr E.T 107 (fget φ 98) (fget φ 100))) := stT_go rfl (goT_R rfl rfl)
theorem s88_24_11 : stepT E C B 156 r88_24 o88_24_11 (φ, H) = stpT none φ H (opStore E.T 121 (fget φ 107) (fget φ 106)) := stT_go rfl (goT_R rfl rfl)
theorem x88_70 : execA E C (fg 88) B 156 E0 N c88_70 s = seqX (execA E C (fg 88) B 156 E0 N c88_71 s) (execA E C (fg 88) B 156 E0 N c88_85) := x_seq (by rfl) s
theorem x88_68 : execA E C (fg 88) B 156 E0 N c88_68 s = seqX (execA E C (fg 88) B 156 E0 N c88_69 s) (execA E C (fg 88) B 156 E0 N c88_70) := x_seq (by rfl) s
theorem x88_67 : execA E C (fg 88) B 156 E0 N c88_67 s = blockX 5 (fun s => (forget s.1 [], s.2)) (execA E C (fg 88) B 156 E0 N c88_68 s) := x_block (by rfl) (by rfl) s
noncomputable def c88_86 : Code := kR c88_66
noncomputable def r88_25 : Array Oper := kO c88_86
noncomputable def o88_25_0 : Oper := opN r88_25 0
noncomputable def o88_25_1 : Oper := opN r88_25 1
theorem x88_86 : execA E C (fg 88) B 156 E0 N c88_86 s = regX (runA E C B 156 r88_25 r88_25.toList s) (fun s => gcM E0 [108] (forget s.1 [108], s.2)) := x_reg (ops := r88_25) (by rfl) (by rfl) s
theorem r88_25_l : r88_25.toList = [o88_25_0, o88_25_1] := nrfl rfl
theorem s88_25_0 : stepA E C B 156 r88_25 o88_25_0 (φ, H) = stp (some 108) φ H (just (aBin E.T .add 3 (fget φ 67) (.int .i64 1))) := nrfl rfl
theorem s88_25_1 : stepA E C B 156 r88_25 o88_25_1 (φ, H) = some (fput φ 67 (fget φ 108), H) := nrfl rfl
theorem x88_66 : execA E C (fg 88) B 156 E0 N c88_66 s = seqX (execA E C (fg 88) B 156 E0 N c88_67 s) (execA E C (fg 88) B 156 E0 N c88_86) := x_seq (by rfl) s
theorem x88_62 : execA E C (fg 88) B 156 E0 N c88_62 s = seqX (execA E C (fg 88) B 156 E0 N c88_63 s) (execA E C (fg 88) B 156 E0 N c88_66) := x_seq (by rfl) s
theorem x88_60 : execA E C (fg 88) B 156 E0 N c88_60 s = seqX (execA E C (fg 88) B 156 E0 N c88_61 s) (execA E C (fg 88) B 156 E0 N c88_62) := x_seq (by rfl) s
theorem x88_59 : execA E C (fg 88) B 156 E0 N c88_59 s = iterA (execA E C (fg 88) B 156 E0 N c88_60) (headA E0) N s := x_loop (by rfl) s
theorem x88_58 : execA E C (fg 88) B 156 E0 N c88_58 s = blockX 4 (fun s => (forget s.1 [1, 65, 66, 67, 68], s.2)) (execA E C (fg 88) B 156 E0 N c88_59 s) := x_block (by rfl) (by rfl) s
theorem x88_56 : execA E C (fg 88) B 156 E0 N c88_56 s = seqX (execA E C (fg 88) B 156 E0 N c88_57 s) (execA E C (fg 88) B 156 E0 N c88_58) := x_seq (by rfl) s
noncomputable def c88_87 : Code := kR c88_55
noncomputable def c88_88 : Code := kL c88_87
noncomputable def c88_89 : Code := kL c88_88
noncomputable def r88_26 : Array Oper := kO c88_89
noncomputable def o88_26_0 : Oper := opN r88_26 0
noncomputable def o88_26_1 : Oper := opN r88_26 1
theorem x88_89 : execA E C (fg 88) B 156 E0 N c88_89 s = regX (runA E C B 156 r88_26 r88_26.toList s) (fun s => gcM E0 [] (forget s.1 [], s.2)) := x_reg (ops := r88_26) (by rfl) (by rfl) s
theorem r88_26_l : r88_26.toList = [o88_26_0, o88_26_1] := nrfl rfl
theorem s88_26_0 : stepA E C B 156 r88_26 o88_26_0 (φ, H) = some (fput φ 109 (fget φ 4), H) := nrfl rfl
theorem s88_26_1 : stepA E C B 156 r88_26 o88_26_1 (φ, H) = some (fput φ 110 (.int .i64 0), H) := nrfl rfl
noncomputable def c88_90 : Code := kR c88_88
noncomputable def c88_91 : Code := kB c88_90
noncomputable def c88_92 : Code := kB c88_91
noncomputable def c88_93 : Code := kL c88_92
noncomputable def r88_27 : Array Oper := kO c88_93
noncomputable def o88_27_0 : Oper := opN r88_27 0
theorem x88_93 : execA E C (fg 88) B 156 E0 N c88_93 s = regX (runA E C B 156 r88_27 r88_27.toList s) (fun s => gcM E0 [] (forget s.1 [], s.2)) := x_reg (ops := r88_27) (by rfl) (by rfl) s
theorem r88_27_l : r88_27.toList = [o88_27_0] := nrfl rfl
theorem s88_27_0 : stepA E C B 156 r88_27 o88_27_0 (φ, H) = stp (some 111) φ H (just (aBin E.T .lss 3 (fget φ 110) (fget φ 109))) := nrfl rfl
noncomputable def c88_94 : Code := kR c88_92
noncomputable def c88_95 : Code := kL c88_94
noncomputable def c88_96 : Code := kT c88_95
theorem x88_96 : execA E C (fg 88) B 156 E0 N c88_96 s = some (.normal, s) := x_skip (by rfl) s
noncomputable def c88_97 : Code := kE c88_95
theorem x88_97 : execA E C (fg 88) B 156 E0 N c88_97 s = some (.exit 7, s) := x_exit (by rfl) s
theorem x88_95 : execA E C (fg 88) B 156 E0 N c88_95 (φ, H) = condX (fget φ 111) (execA E C (fg 88) B 156 E0 N c88_96 (φ, H)) (execA E C (fg 88) B 156 E0 N c88_97 (φ, H)) := x_cond (by rfl) _
noncomputable def c88_98 : Code := kR c88_94
noncomputable def c88_99 : Code := kL c88_98
noncomputable def c88_100 : Code := kB c88_99
noncomputable def c88_101 : Code := kL c88_100
noncomputable def r88_28 : Array Oper := kO c88_101
noncomputable def o88_28_0 : Oper := opN r88_28 0
noncomputable def o88_28_1 : Oper := opN r88_28 1
theorem x88_101 : execA E C (fg 88) B 156 E0 N c88_101 s = regX (runA E C B 156 r88_28 r88_28.toList s) (fun s => gcM E0 [111, 112] (forget s.1 [111, 112], s.2)) := x_reg (ops := r88_28) (by rfl) (by rfl) s
theorem r88_28_l : r88_28.toList = [o88_28_0, o88_28_1] := nrfl rfl
theorem s88_28_0 : stepA E C B 156 r88_28 o88_28_0 (φ, H) = some (fput φ 112 (fget φ 110), H) := nrfl rfl
theorem s88_28_1 : stepA E C B 156 r88_28 o88_28_1 (φ, H) = some (fput φ 11 (fget φ 112), H) := nrfl rfl
noncomputable def c88_102 : Code := kR c88_100
noncomputable def c88_103 : Code := kL c88_102
noncomputable def r88_29 : Array Oper := kO c88_103
noncomputable def o88_29_0 : Oper := opN r88_29 0
noncomputable def o88_29_1 : Oper := opN r88_29 1
theorem x88_103 : execA E C (fg 88) B 156 E0 N c88_103 s = regX (runA E C B 156 r88_29 r88_29.toList s) (fun s => gcM E0 [] (forget s.1 [], s.2)) := x_reg (ops := r88_29) (by rfl) (by rfl) s
theorem r88_29_l : r88_29.toList = [o88_29_0, o88_29_1] := nrfl rfl
theorem s88_29_0 : stepA E C B 156 r88_29 o88_29_0 (φ, H) = some (fput φ 113 (fget φ 4), H) := nrfl rfl
theorem s88_29_1 : stepA E C B 156 r88_29 o88_29_1 (φ, H) = some (fput φ 114 (.int .i64 0), H) := nrfl rfl
noncomputable def c88_104 : Code := kR c88_102
noncomputable def c88_105 : Code := kB c88_104
noncomputable def c88_106 : Code := kB c88_105
noncomputable def c88_107 : Code := kL c88_106
noncomputable def r88_30 : Array Oper := kO c88_107
noncomputable def o88_30_0 : Oper := opN r88_30 0
theorem x88_107 : execA E C (fg 88) B 156 E0 N c88_107 s = regX (runA E C B 156 r88_30 r88_30.toList s) (fun s => gcM E0 [] (forget s.1 [], s.2)) := x_reg (ops := r88_30) (by rfl) (by rfl) s
theorem r88_30_l : r88_30.toList = [o88_30_0] := nrfl rfl
theorem s88_30_0 : stepA E C B 156 r88_30 o88_30_0 (φ, H) = stp (some 115) φ H (just (aBin E.T .lss 3 (fget φ 114) (fget φ 113))) := nrfl rfl
noncomputable def c88_108 : Code := kR c88_106
noncomputable def c88_109 : Code := kL c88_108
noncomputable def c88_110 : Code := kT c88_109
theorem x88_110 : execA E C (fg 88) B 156 E0 N c88_110 s = some (.normal, s) := x_skip (by rfl) s
noncomputable def c88_111 : Code := kE c88_109
theorem x88_111 : execA E C (fg 88) B 156 E0 N c88_111 s = some (.exit 9, s) := x_exit (by rfl) s
theorem x88_109 : execA E C (fg 88) B 156 E0 N c88_109 (φ, H) = condX (fget φ 115) (execA E C (fg 88) B 156 E0 N c88_110 (φ, H)) (execA E C (fg 88) B 156 E0 N c88_111 (φ, H)) := x_cond (by rfl) _
noncomputable def c88_112 : Code := kR c88_108
noncomputable def c88_113 : Code := kL c88_112
noncomputable def c88_114 : Code := kB c88_113
noncomputable def c88_115 : Code := kL c88_114
noncomputable def r88_31 : Array Oper := kO c88_115
noncomputable def o88_31_0 : Oper := opN r88_31 0
noncomputable def o88_31_1 : Oper := opN r88_31 1
theorem x88_115 : execA E C (fg 88) B 156 E0 N c88_115 s = regX (runA E C B 156 r88_31 r88_31.toList s) (fun s => gcM E0 [115, 116] (forget s.1 [115, 116], s.2)) := x_reg (ops := r88_31) (by rfl) (by rfl) s
theorem r88_31_l : r88_31.toList = [o88_31_0, o88_31_1] := nrfl rfl
theorem s88_31_0 : stepA E C B 156 r88_31 o88_31_0 (φ, H) = some (fput φ 116 (fget φ 114), H) := nrfl rfl
theorem s88_31_1 : stepA E C B 156 r88_31 o88_31_1 (φ, H) = some (fput φ 12 (fget φ 116), H) := nrfl rfl
noncomputable def c88_116 : Code := kR c88_114
noncomputable def c88_117 : Code := kL c88_116
noncomputable def r88_32 : Array Oper := kO c88_117
noncomputable def o88_32_0 : Oper := opN r88_32 0
noncomputable def o88_32_1 : Oper := opN r88_32 1
noncomputable def o88_32_2 : Oper := opN r88_32 2
noncomputable def o88_32_3 : Oper := opN r88_32 3
noncomputable def o88_32_4 : Oper := opN r88_32 4
noncomputable def o88_32_5 : Oper := opN r88_32 5
noncomputable def o88_32_6 : Oper := opN r88_32 6
noncomputable def o88_32_7 : Oper := opN r88_32 7
noncomputable def o88_32_8 : Oper := opN r88_32 8
theorem x88_117 : execA E C (fg 88) B 156 E0 N c88_117 s = regX (runA E C B 156 r88_32 r88_32.toList s) (fun s => gcM E0 [117, 118, 119, 120, 121, 122, 123, 124] (forget s.1 [117, 118, 119, 120, 121, 122, 123, 124], s.2)) := x_reg (ops := r88_32) (by rfl) (by rfl) s
theorem r88_32_l : r88_32.toList = [o88_32_0, o88_32_1, o88_32_2, o88_32_3, o88_32_4, o88_32_5, o88_32_6, o88_32_7, o88_32_8] := nrfl rfl
theorem s88_32_0 : stepA E C B 156 r88_32 o88_32_0 (φ, H) = stp (some 117) φ H (just (aFieldAddr E.T 109 (fget φ 5) 1)) := nrfl rfl
theorem s88_32_1 : stepA E C B 156 r88_32 o88_32_1 (φ, H) = stp (some 118) φ H (just (aLoad E.T 107 (fget φ 117))) := nrfl rfl
theorem s88_32_2 : stepA E C B 156 r88_32 o88_32_2 (φ, H) = some (fput φ 119 (fget φ 12), H) := nrfl rfl
theorem s88_32_3 : stepA E C B 156 r88_32 o88_32_3 (φ, H) = stp (some 120) φ H (just (aIndexAddr E.T 107 (fget φ 118) (fget φ 119))) := nrfl rfl
theorem s88_32_4 : stepA E C B 156 r88_32 o88_32_4 (φ, H) = stp (some 121) φ H (just (aLoad E.T 121 (fget φ 120))) := nrfl rfl
theorem s88_32_5 : stepA E C B 156 r88_32 o88_32_5 (φ, H) = some (fput φ 122 (fget φ 11), H) := nrfl rfl
theorem s88_32_6 : stepA E C B 156 r88_32 o88_32_6 (φ, H) = stp (some 123) φ H (just (aBin E.T .shr 121 (fget φ 121) (fget φ 122))) := nrfl rfl
theorem s88_32_7 : stepA E C B 156 r88_32 o88_32_7 (φ, H) = stp (some 124) φ H (just (aBin E.T .and 121 (fget φ 123) (.int .u64 1))) := nrfl rfl
theorem s88_32_8 : stepA E C B 156 r88_32 o88_32_8 (φ, H) = stp (some 125) φ H (just (aBin E.T .eql 121 (fget φ 124) (.int .u64 1))) := nrfl rfl
noncomputable def c88_118 : Code := kR c88_116
noncomputable def c88_119 : Code := kT c88_118
noncomputable def r88_33 : Array Oper := kO c88_119
noncomputable def o88_33_0 : Oper := opN r88_33 0
noncomputable def o88_33_1 : Oper := opN r88_33 1
noncomputable def o88_33_2 : Oper := opN r88_33 2
noncomputable def o88_33_3 : Oper := opN r88_33 3
noncomputable def o88_33_4 : Oper := opN r88_33 4
noncomputable def o88_33_5 : Oper := opN r88_33 5
noncomputable def o88_33_6 : Oper := opN r88_33 6
noncomputable def o88_33_7 : Oper := opN r88_33 7
noncomputable def o88_33_8 : Oper := opN r88_33 8
noncomputable def o88_33_9 : Oper := opN r88_33 9
noncomputable def o88_33_10 : Oper := opN r88_33 10
noncomputable def o88_33_11 : Oper := opN r88_33 11
noncomputable def o88_33_12 : Oper := opN r88_33 12
theorem x88_119 : execA E C (fg 88) B 156 E0 N c88_119 s = regX (drawA E C B 156 r88_33 s) (fun s => gcM E0 [12, 125, 126, 127, 128, 129, 130, 131, 132, 133, 134, 135, 136, 137] (forget s.1 [12, 125, 126, 127, 128, 129, 130, 131, 132, 133, 134, 135, 136, 137], s.2)) := x_draw (ops := r88_33) (by rfl) (by rfl) s
theorem r88_33_l : r88_33.toList = [o88_33_0, o88_33_1, o88_33_2, o88_33_3, o88_33_4, o88_33_5, o88_33_6, o88_33_7, o88_33_8, o88_33_9, o88_33_10, o88_33_11, o88_33_12] := nrfl rfl
theorem r88_33_st : statOk r88_33 = true := by kernel_rfl
theorem r88_33_dr : drawA E C B 156 r88_33 s = if neat 156 s = true then drX r88_33 (runT E C B 156 r88_33 r88_33.toList 0 s) else none := draw_eq r88_33_st s
theorem r88_33_an (l : List (Nat × Tr)) : dynOk r88_33 l = (!writing l || dynPairs [[], [0], [], [0, 1, 2], [0, 1, 2, 3], [], [5], [], [5, 6, 7], [5, 6, 7, 8], [0, 1, 2, 3, 4, 5, 6, 7, 8, 9], [0, 1, 2, 3, 4, 5, 6, 7, 8, 9, 10], [0, 1, 2, 3, 4, 5, 6, 7, 8, 9, 10, 11]] (touching l)) := dynOk_eq (by kernel_rfl) l
theorem s88_33_0 : stepT E C B 156 r88_33 o88_33_0 (φ, H) = stpT (some 126) φ H (just (aFieldAddr E.T 109 (fget φ 5) 1)) := stT_go rfl (goT_R rfl rfl)
theorem s88_33_1 : stepT E C B 156 r88_33 o88_33_1 (φ, H) = stpT (some 127) φ H (just (aLoad E.T 107 (fget φ 126))) := stT_go rfl (goT_R rfl rfl)
theorem s88_33_2 : stepT E C B 156 r88_33 o88_33_2 (φ, H) = some ((fput φ 128 (fget φ 12), H), ⟨false, [], []⟩) := stT_go rfl (goT_mv rfl rfl)
theorem s88_33_3 : stepT E C B 156 r88_33 o88_33_3 (φ, H) = stpT (some 129) φ H (just (aIndexAddr E.T 107 (fget φ 127) (fget φ 128))) := stT_go rfl (goT_R rfl rfl)
theorem s88_33_4 : stepT E C B 156 r88_33 o88_33_4 (φ, H) = stpT (some 130) φ H (just (aLoad E.T 121 (fget φ 129))) := stT_go rfl (goT_R rfl rfl)
theorem s88_33_5 : stepT E C B 156 r88_33 o88_33_5 (φ, H) = stpT (some 131) φ H (just (aFieldAddr E.T 109 (fget φ 5) 1)) := stT_go rfl (goT_R rfl rfl)
theorem s88_33_6 : stepT E C B 156 r88_33 o88_33_6 (φ, H) = stpT (some 132) φ H (just (aLoad E.T 107 (fget φ 131))) := stT_go rfl (goT_R rfl rfl)
theorem s88_33_7 : stepT E C B 156 r88_33 o88_33_7 (φ, H) = some ((fput φ 133 (fget φ 11), H), ⟨false, [], []⟩) := stT_go rfl (goT_mv rfl rfl)
theorem s88_33_8 : stepT E C B 156 r88_33 o88_33_8 (φ, H) = stpT (some 134) φ H (just (aIndexAddr E.T 107 (fget φ 132) (fget φ 133))) := stT_go rfl (goT_R rfl rfl)
theorem s88_33_9 : stepT E C B 156 r88_33 o88_33_9 (φ, H) = stpT (some 135) φ H (just (aLoad E.T 121 (fget φ 134))) := stT_go rfl (goT_R rfl rfl)
theorem s88_33_10 : stepT E C B 156 r88_33 o88_33_10 (φ, H) = stpT (some 136) φ H (just (aBin E.T .or 121 (fget φ 130) (fget φ 135))) := stT_go rfl (goT_R rfl rfl)
theorem s88_33_11 : stepT E C B 156 r88_33 o88_33_11 (φ, H) = stpT (some 137) φ H (just (aIndexAddr E.T 107 (fget φ 127) (fget φ 128))) := stT_go rfl (goT_R rfl rfl)
theorem s88_33_12 : stepT E C B 156 r88_33 o88_33_12 (φ, H) = stpT none φ H (opStore E.T 121 (fget φ 137) (fget φ 136)) := stT_go rfl (goT_R rfl rfl)
noncomputable def c88_120 : Code := kE c88_118
theorem x88_120 : execA E C (fg 88) B 156 E0 N c88_120 s = some (.normal, s) := x_skip (by rfl) s
theorem x88_118 : execA E C (fg 88) B 156 E0 N c88_118 (φ, H) = condX (fget φ 125) (execA E C (fg 88) B 156 E0 N c88_119 (φ, H)) (execA E C (fg 88) B 156 E0 N c88_120 (φ, H)) := x_cond (by rfl) _
theorem x88_116 : execA E C (fg 88) B 156 E0 N c88_116 s = seqX (execA E C (fg 88) B 156 E0 N c88_117 s) (execA E C (fg 88) B 156 E0 N c88_118) := x_seq (by rfl) s
theorem x88_114 : execA E C (fg 88) B 156 E0 N c88_114 s = seqX (execA E C (fg 88) B 156 E0 N c88_115 s) (execA E C (fg 88) B 156 E0 N c88_116) := x_seq (by rfl) s
theorem x88_113 : execA E C (fg 88) B 156 E0 N c88_113 s = blockX 10 (fun s => (forget s.1 [12, 125], s.2)) (execA E C (fg 88) B 156 E0 N c88_114 s) := x_block (by rfl) (by rfl) s
noncomputable def c88_121 : Code := kR c88_112
noncomputable def r88_34 : Array Oper := kO c88_121
noncomputable def o88_34_0 : Oper := opN r88_34 0
noncomputable def o88_34_1 : Oper := opN r88_34 1
theorem x88_121 : execA E C (fg 88) B 156 E0 N c88_121 s = regX (runA E C B 156 r88_34 r88_34.toList s) (fun s => gcM E0 [138] (forget s.1 [138], s.2)) := x_reg (ops := r88_34) (by rfl) (by rfl) s
theorem r88_34_l : r88_34.toList = [o88_34_0, o88_34_1] := nrfl rfl
theorem s88_34_0 : stepA E C B 156 r88_34 o88_34_0 (φ, H) = stp (some 138) φ H (just (aBin E.T .add 3 (fget φ 114) (.int .i64 1))) := nrfl rfl
theorem s88_34_1 : stepA E C B 156 r88_34 o88_34_1 (φ, H) = some (fput φ 114 (fget φ 138), H) := nrfl rfl
theorem x88_112 : execA E C (fg 88) B 156 E0 N c88_112 s = seqX (execA E C (fg 88) B 156 E0 N c88_113 s) (execA E C (fg 88) B 156 E0 N c88_121) := x_seq (by rfl) s
theorem x88_108 : execA E C (fg 88) B 156 E0 N c88_108 s = seqX (execA E C (fg 88) B 156 E0 N c88_109 s) (execA E C (fg 88) B 156 E0 N c88_112) := x_seq (by rfl) s
theorem x88_106 : execA E C (fg 88) B 156 E0 N c88_106 s = seqX (execA E C (fg 88) B 156 E0 N c88_107 s) (execA E C (fg 88) B 156 E0 N c88_108) := x_seq (by rfl) s
theorem x88_105 : execA E C (fg 88) B 156 E0 N c88_105 s = iterA (execA E C (fg 88) B 156 E0 N c88_106) (headA E0) N s := x_loop (by rfl) s
theorem x88_104 : execA E C (fg 88) B 156 E0 N c88_104 s = blockX 9 (fun s => (forget s.1 [11, 113, 114, 115], s.2)) (execA E C (fg 88) B 156 E0 N c88_105 s) := x_block (by rfl) (by rfl) s
theorem x88_102 : execA E C (fg 88) B 156 E0 N c88_102 s = seqX (execA E C (fg 88) B 156 E0 N c88_103 s) (execA E C (fg 88) B 156 E0 N c88_104) := x_seq (by rfl) s
theorem x88_100 : execA E C (fg 88) B 156 E0 N c88_100 s = seqX (execA E C (fg 88) B 156 E0 N c88_101 s) (execA E C (fg 88) B 156 E0 N c88_102) := x_seq (by rfl) s
theorem x88_99 : execA E C (fg 88) B 156 E0 N c88_99 s = blockX 8 (fun s => (forget s.1 [], s.2)) (execA E C (fg 88) B 156 E0 N c88_100 s) := x_block (by rfl) (by rfl) s
noncomputable def c88_122 : Code := kR c88_98
noncomputable def r88_35 : Array Oper := kO c88_122
noncomputable def o88_35_0 : Oper := opN r88_35 0
noncomputable def o88_35_1 : Oper := opN r88_35 1
theorem x88_122 : execA E C (fg 88) B 156 E0 N c88_122 s = regX (runA E C B 156 r88_35 r88_35.toList s) (fun s => gcM E0 [139] (forget s.1 [139], s.2)) := x_reg (ops := r88_35) (by rfl) (by rfl) s
theorem r88_35_l : r88_35.toList = [o88_35_0, o88_35_1] := nrfl rfl
theorem s88_35_0 : stepA E C B 156 r88_35 o88_35_0 (φ, H) = stp (some 139) φ H (just (aBin E.T .add 3 (fget φ 110) (.int .i64 1))) := nrfl rfl
theorem s88_35_1 : stepA E C B 156 r88_35 o88_35_1 (φ, H) = some (fput φ 110 (fget φ 139), H) := nrfl rfl
theorem x88_98 : execA E C (fg 88) B 156 E0 N c88_98 s = seqX (execA E C (fg 88) B 156 E0 N c88_99 s) (execA E C (fg 88) B 156 E0 N c88_122) := x_seq (by rfl) s
theorem x88_94 : execA E C (fg 88) B 156 E0 N c88_94 s = seqX (execA E C (fg 88) B 156 E0 N c88_95 s) (execA E C (fg 88) B 156 E0 N c88_98) := x_seq (by rfl) s
theorem x88_92 : execA E C (fg 88) B 156 E0 N c88_92 s = seqX (execA E C (fg 88) B 156 E0 N c88_93 s) (execA E C (fg 88) B 156 E0 N c88_94) := x_seq (by rfl) s
theorem x88_91 : execA E C (fg 88) B 156 E0 N c88_91 s = iterA (execA E C (fg 88) B 156 E0 N c88_92) (headA E0) N s := x_loop (by rfl) s
theorem x88_90 : execA E C (fg 88) B 156 E0 N c88_90 s = blockX 7 (fun s => (forget s.1 [4, 109, 110, 111], s.2)) (execA E C (fg 88) B 156 E0 N c88_91 s) := x_block (by rfl) (by rfl) s
theorem x88_88 : execA E C (fg 88) B 156 E0 N c88_88 s = seqX (execA E C (fg 88) B 156 E0 N c88_89 s) (execA E C (fg 88) B 156 E0 N c88_90) := x_seq (by rfl) s
noncomputable def c88_123 : Code := kR c88_87
noncomputable def c88_124 : Code := kL c88_123
noncomputable def c88_125 : Code := kL c88_124
noncomputable def r88_36 : Array Oper := kO c88_125
noncomputable def o88_36_0 : Oper := opN r88_36 0
noncomputable def o88_36_1 : Oper := opN r88_36 1
noncomputable def o88_36_2 : Oper := opN r88_36 2
noncomputable def o88_36_3 : Oper := opN r88_36 3
theorem x88_125 : execA E C (fg 88) B 156 E0 N c88_125 s = regX (runA E C B 156 r88_36 r88_36.toList s) (fun s => gcM E0 [140] (forget s.1 [140], s.2)) := x_reg (ops := r88_36) (by rfl) (by rfl) s
theorem r88_36_l : r88_36.toList = [o88_36_0, o88_36_1, o88_36_2, o88_36_3] := nrfl rfl
theorem s88_36_0 : stepA E C B 156 r88_36 o88_36_0 (φ, H) = stp (some 140) φ H (just (aFieldAddr E.T 109 (fget φ 5) 1)) := nrfl rfl
theorem s88_36_1 : stepA E C B 156 r88_36 o88_36_1 (φ, H) = stp (some 141) φ H (just (aLoad E.T 107 (fget φ 140))) := nrfl rfl
theorem s88_36_2 : stepA E C B 156 r88_36 o88_36_2 (φ, H) = stp (some 142) φ H (aBuiltin E.T (B + 142) .len #[107] [(fget φ 141)]) := nrfl rfl
theorem s88_36_3 : stepA E C B 156 r88_36 o88_36_3 (φ, H) = some (fput φ 143 (.int .i64 0), H) := nrfl rfl
noncomputable def c88_126 : Code := kR c88_124
noncomputable def c88_127 : Code := kB c88_126
noncomputable def c88_128 : Code := kB c88_127
noncomputable def c88_129 : Code := kL c88_128
noncomputable def r88_37 : Array Oper := kO c88_129
noncomputable def o88_37_0 : Oper := opN r88_37 0
theorem x88_129 : execA E C (fg 88) B 156 E0 N c88_129 s = regX (runA E C B 156 r88_37 r88_37.toList s) (fun s => gcM E0 [] (forget s.1 [], s.2)) := x_reg (ops := r88_37) (by rfl) (by rfl) s
theorem r88_37_l : r88_37.toList = [o88_37_0] := nrfl rfl
theorem s88_37_0 : stepA E C B 156 r88_37 o88_37_0 (φ, H) = stp (some 144) φ H (just (aBin E.T .lss 3 (fget φ 143) (fget φ 142))) := nrfl rfl
noncomputable def c88_130 : Code := kR c88_128
noncomputable def c88_131 : Code := kL c88_130
noncomputable def c88_132 : Code := kT c88_131
theorem x88_132 : execA E C (fg 88) B 156 E0 N c88_132 s = some (.normal, s) := x_skip (by rfl) s
noncomputable def c88_133 : Code := kE c88_131
theorem x88_133 : execA E C (fg 88) B 156 E0 N c88_133 s = some (.exit 11, s) := x_exit (by rfl) s
theorem x88_131 : execA E C (fg 88) B 156 E0 N c88_131 (φ, H) = condX (fget φ 144) (execA E C (fg 88) B 156 E0 N c88_132 (φ, H)) (execA E C (fg 88) B 156 E0 N c88_133 (φ, H)) := x_cond (by rfl) _
noncomputable def c88_134 : Code := kR c88_130
noncomputable def c88_135 : Code := kL c88_134
noncomputable def c88_136 : Code := kB c88_135
noncomputable def c88_137 : Code := kL c88_136
noncomputable def r88_38 : Array Oper := kO c88_137
noncomputable def o88_38_0 : Oper := opN r88_38 0
noncomputable def o88_38_1 : Oper := opN r88_38 1
noncomputable def o88_38_2 : Oper := opN r88_38 2
noncomputable def o88_38_3 : Oper := opN r88_38 3
noncomputable def o88_38_4 : Oper := opN r88_38 4
theorem x88_137 : execA E C (fg 88) B 156 E0 N c88_137 s = regX (runA E C B 156 r88_38 r88_38.toList s) (fun s => gcM E0 [144, 145, 146, 147] (forget s.1 [144, 145, 146, 147], s.2)) := x_reg (ops := r88_38) (by rfl) (by rfl) s
theorem r88_38_l : r88_38.toList = [o88_38_0, o88_38_1, o88_38_2, o88_38_3, o88_38_4] := nrfl rfl
theorem s88_38_0 : stepA E C B 156 r88_38 o88_38_0 (φ, H) = some (fput φ 145 (fget φ 143), H) := nrfl rfl
theorem s88_38_1 : stepA E C B 156 r88_38 o88_38_1 (φ, H) = stp (some 146) φ H (just (aIndexAddr E.T 107 (fget φ 141) (fget φ 143))) := nrfl rfl
theorem s88_38_2 : stepA E C B 156 r88_38 o88_38_2 (φ, H) = stp (some 147) φ H (just (aLoad E.T 121 (fget φ 146))) := nrfl rfl
theorem s88_38_3 : stepA E C B 156 r88_38 o88_38_3 (φ, H) = some (fput φ 13 (fget φ 145), H) := nrfl rfl
theorem s88_38_4 : stepA E C B 156 r88_38 o88_38_4 (φ, H) = some (fput φ 14 (fget φ 147), H) := nrfl rfl
noncomputable def c88_138 : Code := kR c88_136
noncomputable def c88_139 : Code := kL c88_138
noncomputable def r88_39 : Array Oper := kO c88_139
noncomputable def o88_39_0 : Oper := opN r88_39 0
noncomputable def o88_39_1 : Oper := opN r88_39 1
noncomputable def o88_39_2 : Oper := opN r88_39 2
noncomputable def o88_39_3 : Oper := opN r88_39 3
noncomputable def o88_39_4 : Oper := opN r88_39 4
theorem x88_139 : execA E C (fg 88) B 156 E0 N c88_139 s = regX (runA E C B 156 r88_39 r88_39.toList s) (fun s => gcM E0 [13, 14, 148, 149, 150, 151] (forget s.1 [13, 14, 148, 149, 150, 151], s.2)) := x_reg (ops := r88_39) (by rfl) (by rfl) s
theorem r88_39_l : r88_39.toList = [o88_39_0, o88_39_1, o88_39_2, o88_39_3, o88_39_4] := nrfl rfl
theorem s88_39_0 : stepA E C B 156 r88_39 o88_39_0 (φ, H) = some (fput φ 148 (fget φ 14), H) := nrfl rfl
theorem s88_39_1 : stepA E C B 156 r88_39 o88_39_1 (φ, H) = some (fput φ 149 (fget φ 13), H) := nrfl rfl
theorem s88_39_2 : stepA E C B 156 r88_39 o88_39_2 (φ, H) = stp (some 150) φ H (just (aBin E.T .shr 121 (fget φ 148) (fget φ 149))) := nrfl rfl
theorem s88_39_3 : stepA E C B 156 r88_39 o88_39_3 (φ, H) = stp (some 151) φ H (just (aBin E.T .and 121 (fget φ 150) (.int .u64 1))) := nrfl rfl
theorem s88_39_4 : stepA E C B 156 r88_39 o88_39_4 (φ, H) = stp (some 152) φ H (just (aBin E.T .eql 121 (fget φ 151) (.int .u64 1))) := nrfl rfl
noncomputable def c88_140 : Code := kR c88_138
noncomputable def c88_141 : Code := kT c88_140
noncomputable def c88_142 : Code := kL c88_141
noncomputable def r88_40 : Array Oper := kO c88_142
noncomputable def o88_40_0 : Oper := opN r88_40 0
noncomputable def o88_40_1 : Oper := opN r88_40 1
noncomputable def o88_40_2 : Oper := opN r88_40 2
theorem x88_142 : execA E C (fg 88) B 156 E0 N c88_142 s = regX (runA E C B 156 r88_40 r88_40.toList s) (fun s => gcM E0 [5, 141, 142, 143, 152, 153] (forget s.1 [5, 141, 142, 143, 152, 153], s.2)) := x_reg (ops := r88_40) (by rfl) (by rfl) s
theorem r88_40_l : r88_40.toList = [o88_40_0, o88_40_1, o88_40_2] := nrfl rfl
theorem s88_40_0 : stepA E C B 156 r88_40 o88_40_0 (φ, H) = stp (some 153) φ H (justO (aBuild E.T 109 (evO E φ) [])) := nrfl rfl
theorem s88_40_1 : stepA E C B 156 r88_40 o88_40_1 (φ, H) = stp none φ H (opStore E.T 109 (fget φ 2) (fget φ 153)) := nrfl rfl
theorem s88_40_2 : stepA E C B 156 r88_40 o88_40_2 (φ, H) = some (fput φ 3 (.int .i64 13), H) := nrfl rfl
noncomputable def c88_143 : Code := kR c88_141
theorem x88_143 : execA E C (fg 88) B 156 E0 N c88_143 s = some (.ret, s) := x_ret (by rfl) s
theorem x88_141 : execA E C (fg 88) B 156 E0 N c88_141 s = seqX (execA E C (fg 88) B 156 E0 N c88_142 s) (execA E C (fg 88) B 156 E0 N c88_143) := x_seq (by rfl) s
noncomputable def c88_144 : Code := kE c88_140
theorem x88_144 : execA E C (fg 88) B 156 E0 N c88_144 s = some (.normal, s) := x_skip (by rfl) s
theorem x88_140 : execA E C (fg 88) B 156 E0 N c88_140 (φ, H) = condX (fget φ 152) (execA E C (fg 88) B 156 E0 N c88_141 (φ, H)) (execA E C (fg 88) B 156 E0 N c88_144 (φ, H)) := x_cond (by rfl) _
theorem x88_138 : execA E C (fg 88) B 156 E0 N c88_138 s = seqX (execA E C (fg 88) B 156 E0 N c88_139 s) (execA E C (fg 88) B 156 E0 N c88_140) := x_seq (by rfl) s
theorem x88_136 : execA E C (fg 88) B 156 E0 N c88_136 s = seqX (execA E C (fg 88) B 156 E0 N c88_137 s) (execA E C (fg 88) B 156 E0 N c88_138) := x_seq (by rfl) s
theorem x88_135 : execA E C (fg 88) B 156 E0 N c88_135 s = blockX 12 (fun s => (forget s.1 [152], s.2)) (execA E C (fg 88) B 156 E0 N c88_136 s) := x_block (by rfl) (by rfl) s
noncomputable def c88_145 : Code := kR c88_134
noncomputable def r88_41 : Array Oper := kO c88_145
noncomputable def o88_41_0 : Oper := opN r88_41 0
noncomputable def o88_41_1 : Oper := opN r88_41 1
theorem x88_145 : execA E C (fg 88) B 156 E0 N c88_145 s = regX (runA E C B 156 r88_41 r88_41.toList s) (fun s => gcM E0 [154] (forget s.1 [154], s.2)) := x_reg (ops := r88_41) (by rfl) (by rfl) s
theorem r88_41_l : r88_41.toList = [o88_41_0, o88_41_1] := nrfl rfl
theorem s88_41_0 : stepA E C B 156 r88_41 o88_41_0 (φ, H) = stp (some 154) φ H (just (aBin E.T .add 3 (fget φ 143) (.int .i64 1))) := nrfl rfl
theorem s88_41_1 : stepA E C B 156 r88_41 o88_41_1 (φ, H) = some (fput φ 143 (fget φ 154), H) := nrfl rfl
theorem x88_134 : execA E C (fg 88) B 156 E0 N c88_134 s = seqX (execA E C (fg 88) B 156 E0 N c88_135 s) (execA E C (fg 88) B 156 E0 N c88_145) := x_seq (by rfl) s
theorem x88_130 : execA E C (fg 88) B 156 E0 N c88_130 s = seqX (execA E C (fg 88) B 156 E0 N c88_131 s) (execA E C (fg 88) B 156 E0 N c88_134) := x_seq (by rfl) s
theorem x88_128 : execA E C (fg 88) B 156 E0 N c88_128 s = seqX (execA E C (fg 88) B 156 E0 N c88_129 s) (execA E C (fg 88) B 156 E0 N c88_130) := x_seq (by rfl) s
theorem x88_127 : execA E C (fg 88) B 156 E0 N c88_127 s = iterA (execA E C (fg 88) B 156 E0 N c88_128) (headA E0) N s := x_loop (by rfl) s
theorem x88_126 : execA E C (fg 88) B 156 E0 N c88_126 s = blockX 11 (fun s => (forget s.1 [141, 142, 143, 144], s.2)) (execA E C (fg 88) B 156 E0 N c88_127 s) := x_block (by rfl) (by rfl) s
theorem x88_124 : execA E C (fg 88) B 156 E0 N c88_124 s = seqX (execA E C (fg 88) B 156 E0 N c88_125 s) (execA E C (fg 88) B 156 E0 N c88_126) := x_seq (by rfl) s
noncomputable def c88_146 : Code := kR c88_123
noncomputable def c88_147 : Code := kL c88_146
noncomputable def r88_42 : Array Oper := kO c88_147
noncomputable def o88_42_0 : Oper := opN r88_42 0
noncomputable def o88_42_1 : Oper := opN r88_42 1
noncomputable def o88_42_2 : Oper := opN r88_42 2
theorem x88_147 : execA E C (fg 88) B 156 E0 N c88_147 s = regX (runA E C B 156 r88_42 r88_42.toList s) (fun s => gcM E0 [5, 155] (forget s.1 [5, 155], s.2)) := x_reg (ops := r88_42) (by rfl) (by rfl) s
theorem r88_42_l : r88_42.toList = [o88_42_0, o88_42_1, o88_42_2] := nrfl rfl
theorem s88_42_0 : stepA E C B 156 r88_42 o88_42_0 (φ, H) = stp (some 155) φ H (just (aLoad E.T 109 (fget φ 5))) := nrfl rfl
theorem s88_42_1 : stepA E C B 156 r88_42 o88_42_1 (φ, H) = stp none φ H (opStore E.T 109 (fget φ 2) (fget φ 155)) := nrfl rfl
theorem s88_42_2 : stepA E C B 156 r88_42 o88_42_2 (φ, H) = some (fput φ 3 (.int .i64 0), H) := nrfl rfl
noncomputable def c88_148 : Code := kR c88_146
theorem x88_148 : execA E C (fg 88) B 156 E0 N c88_148 s = some (.ret, s) := x_ret (by rfl) s
theorem x88_146 : execA E C (fg 88) B 156 E0 N c88_146 s = seqX (execA E C (fg 88) B 156 E0 N c88_147 s) (execA E C (fg 88) B 156 E0 N c88_148) := x_seq (by rfl) s
theorem x88_123 : execA E C (fg 88) B 156 E0 N c88_123 s = seqX (execA E C (fg 88) B 156 E0 N c88_124 s) (execA E C (fg 88) B 156 E0 N c88_146) := x_seq (by rfl) s
theorem x88_87 : execA E C (fg 88) B 156 E0 N c88_87 s = seqX (execA E C (fg 88) B 156 E0 N c88_88 s) (execA E C (fg 88) B 156 E0 N c88_123) := x_seq (by rfl) s
theorem x88_55 : execA E C (fg 88) B 156 E0 N c88_55 s = seqX (execA E C (fg 88) B 156 E0 N c88_56 s) (execA E C (fg 88) B 156 E0 N c88_87) := x_seq (by rfl) s
theorem x88_21 : execA E C (fg 88) B 156 E0 N c88_21 s = seqX (execA E C (fg 88) B 156 E0 N c88_22 s) (execA E C (fg 88) B 156 E0 N c88_55) := x_seq (by rfl) s
theorem x88_19 : execA E C (fg 88) B 156 E0 N c88_19 s = seqX (execA E C (fg 88) B 156 E0 N c88_20 s) (execA E C (fg 88) B 156 E0 N c88_21) := x_seq (by rfl) s
theorem x88_4 : execA E C (fg 88) B 156 E0 N c88_4 s = seqX (execA E C (fg 88) B 156 E0 N c88_5 s) (execA E C (fg 88) B 156 E0 N c88_19) := x_seq (by rfl) s
theorem x88_2 : execA E C (fg 88) B 156 E0 N c88_2 s = seqX (execA E C (fg 88) B 156 E0 N c88_3 s) (execA E C (fg 88) B 156 E0 N c88_4) := x_seq (by rfl) s
theorem x88_0 : execA E C (fg 88) B 156 E0 N c88_0 s = seqX (execA E C (fg 88) B 156 E0 N c88_1 s) (execA E C (fg 88) B 156 E0 N c88_2) := x_seq (by rfl) s
theorem fi_88 : fInfo E 88 = some ⟨156, #[.cell 2 109, .tmp 3], c88_0⟩ := nrfl rfl
theorem b_88 (args : List AV) : bodyA E C fg N 88 args H B = bodyX E [.cell 2 109, .tmp 3] (execA E C (fg 88) B 156 H N c88_0 (frame0 args 0 [], H)) := bodyA_eq fi_88 args H
noncomputable def c95_0 : Code := kBody Proofs.Tryd.f95
noncomputable def c95_1 : Code := kL c95_0
noncomputable def r95_0 : Array Oper := kO c95_1
noncomputable def o95_0_0 : Oper := opN r95_0 0
noncomputable def o95_0_1 : Oper := opN r95_0 1
theorem x95_1 : execA E C (fg 95) B 8 E0 N c95_1 s = regX (runA E C B 8 r95_0 r95_0.toList s) (fun s => gcM E0 [0, 2] (forget s.1 [0, 2], s.2)) := x_reg (ops := r95_0) (by rfl) (by rfl) s
theorem r95_0_l : r95_0.toList = [o95_0_0, o95_0_1] := nrfl rfl
theorem s95_0_0 : stepA E C B 8 r95_0 o95_0_0 (φ, H) = stp (some 1) φ H (opBox (B + 1) (acells (fget φ 0))) := nrfl rfl
theorem s95_0_1 : stepA E C B 8 r95_0 o95_0_1 (φ, H) = some (fput φ 2 (.int .u64 0), H) := nrfl rfl
noncomputable def c95_2 : Code := kR c95_0
noncomputable def c95_3 : Code := kL c95_2
noncomputable def r95_1 : Array Oper := kO c95_3
noncomputable def o95_1_0 : Oper := opN r95_1 0
noncomputable def o95_1_1 : Oper := opN r95_1 1
noncomputable def o95_1_2 : Oper := opN r95_1 2
noncomputable def o95_1_3 : Oper := opN r95_1 3
noncomputable def o95_1_4 : Oper := opN r95_1 4
noncomputable def o95_1_5 : Oper := opN r95_1 5
theorem x95_3 : execA E C (fg 95) B 8 E0 N c95_3 s = regX (runA E C B 8 r95_1 r95_1.toList s) (fun s => gcM E0 [1, 3, 4, 5, 6, 7] (forget s.1 [1, 3, 4, 5, 6, 7], s.2)) := x_reg (ops := r95_1) (by rfl) (by rfl) s
theorem r95_1_l : r95_1.toList = [o95_1_0, o95_1_1, o95_1_2, o95_1_3, o95_1_4, o95_1_5] := nrfl rfl
theorem s95_1_0 : stepA E C B 8 r95_1 o95_1_0 (φ, H) = stp (some 3) φ H (just (aFieldAddr E.T 109 (fget φ 1) 0)) := nrfl rfl
theorem s95_1_1 : stepA E C B 8 r95_1 o95_1_1 (φ, H) = stp (some 4) φ H (just (aLoad E.T 106 (fget φ 3))) := nrfl rfl
theorem s95_1_2 : stepA E C B 8 r95_1 o95_1_2 (φ, H) = stp (some 5) φ H (aBuiltin E.T (B + 5) .len #[106] [(fget φ 4)]) := nrfl rfl
theorem s95_1_3 : stepA E C B 8 r95_1 o95_1_3 (φ, H) = stp (some 6) φ H (just (aBin E.T .shl 121 (.int .u64 1) (fget φ 5))) := nrfl rfl
theorem s95_1_4 : stepA E C B 8 r95_1 o95_1_4 (φ, H) = stp (some 7) φ H (just (aBin E.T .sub 121 (fget φ 6) (.int .u64 1))) := nrfl rfl
theorem s95_1_5 : stepA E C B 8 r95_1 o95_1_5 (φ, H) = some (fput φ 2 (fget φ 7), H) := nrfl rfl
noncomputable def c95_4 : Code := kR c95_2
theorem x95_4 : execA E C (fg 95) B 8 E0 N c95_4 s = some (.ret, s) := x_ret (by rfl) s
theorem x95_2 : execA E C (fg 95) B 8 E0 N c95_2 s = seqX (execA E C (fg 95) B 8 E0 N c95_3 s) (execA E C (fg 95) B 8 E0 N c95_4) := x_seq (by rfl) s
theorem x95_0 : execA E C (fg 95) B 8 E0 N c95_0 s = seqX (execA E C (fg 95) B 8 E0 N c95_1 s) (execA E C (fg 95) B 8 E0 N c95_2) := x_seq (by rfl) s
theorem fi_95 : fInfo E 95 = some ⟨8, #[.tmp 2], c95_0⟩ := nrfl rfl
theorem b_95 (args : List AV) : bodyA E C fg N 95 args H B = bodyX E [.tmp 2] (execA E C (fg 95) B 8 H N c95_0 (frame0 args 0 [], H)) := bodyA_eq fi_95 args H
noncomputable def c128_0 : Code := kBody Proofs.Tryd.f128
noncomputable def c128_1 : Code := kL c128_0
noncomputable def r128_0 : Array Oper := kO c128_1
noncomputable def o128_0_0 : Oper := opN r128_0 0
noncomputable def o128_0_1 : Oper := opN r128_0 1
noncomputable def o128_0_2 : Oper := opN r128_0 2
theorem x128_1 : execA E C (fg 128) B 9 E0 N c128_1 s = regX (runA E C B 9 r128_0 r128_0.toList s) (fun s => gcM E0 [0, 1, 4] (forget s.1 [0, 1, 4], s.2)) := x_reg (ops := r128_0) (by rfl) (by rfl) s
theorem r128_0_l : r128_0.toList = [o128_0_0, o128_0_1, o128_0_2] := nrfl rfl
theorem s128_0_0 : stepA E C B 9 r128_0 o128_0_0 (φ, H) = stp (some 2) φ H (opBox (B + 2) (acells (fget φ 0))) := nrfl rfl
theorem s128_0_1 : stepA E C B 9 r128_0 o128_0_1 (φ, H) = stp (some 3) φ H (opBox (B + 3) (acells (fget φ 1))) := nrfl rfl
theorem s128_0_2 : stepA E C B 9 r128_0 o128_0_2 (φ, H) = some (fput φ 4 (.nilsl), H) := nrfl rfl
noncomputable def c128_2 : Code := kR c128_0
noncomputable def c128_3 : Code := kL c128_2
noncomputable def r128_1 : Array Oper := kO c128_3
noncomputable def o128_1_0 : Oper := opN r128_1 0
noncomputable def o128_1_1 : Oper := opN r128_1 1
noncomputable def o128_1_2 : Oper := opN r128_1 2
noncomputable def o128_1_3 : Oper := opN r128_1 3
noncomputable def o128_1_4 : Oper := opN r128_1 4
theorem x128_3 : execA E C (fg 128) B 9 E0 N c128_3 s = regX (runA E C B 9 r128_1 r128_1.toList s) (fun s => gcM E0 [2, 3, 5, 6, 7, 8] (forget s.1 [2, 3, 5, 6, 7, 8], s.2)) := x_reg (ops := r128_1) (by rfl) (by rfl) s
theorem r128_1_l : r128_1.toList = [o128_1_0, o128_1_1, o128_1_2, o128_1_3, o128_1_4] := nrfl rfl
theorem s128_1_0 : stepA E C B 9 r128_1 o128_1_0 (φ, H) = stp (some 5) φ H (just (aLoad E.T 121 (fget φ 3))) := nrfl rfl
theorem s128_1_1 : stepA E C B 9 r128_1 o128_1_1 (φ, H) = stp (some 6) φ H (aCall C (fun j => B + j * 9 + 6) true 97 [(fget φ 5)]) := nrfl rfl
theorem s128_1_2 : stepA E C B 9 r128_1 o128_1_2 (φ, H) = stp (some 7) φ H (.pure (.clo 141 [(fget φ 2), (fget φ 3)], [])) := nrfl rfl
theorem s128_1_3 : stepA E C B 9 r128_1 o128_1_3 (φ, H) = mutX (some 8) φ (C 140 [(fget φ 6), (fget φ 7)] H (B + 9 * 8)) := nrfl rfl
theorem s128_1_4 : stepA E C B 9 r128_1 o128_1_4 (φ, H) = some (fput φ 4 (fget φ 8), H) := nrfl rfl
noncomputable def c128_4 : Code := kR c128_2
theorem x128_4 : execA E C (fg 128) B 9 E0 N c128_4 s = some (.ret, s) := x_ret (by rfl) s
theorem x128_2 : execA E C (fg 128) B 9 E0 N c128_2 s = seqX (execA E C (fg 128) B 9 E0 N c128_3 s) (execA E C (fg 128) B 9 E0 N c128_4) := x_seq (by rfl) s
theorem x128_0 : execA E C (fg 128) B 9 E0 N c128_0 s = seqX (execA E C (fg 128) B 9 E0 N c128_1 s) (execA E C (fg 128) B 9 E0 N c128_2) := x_seq (by rfl) s
theorem fi_128 : fInfo E 128 = some ⟨9, #[.tmp 4], c128_0⟩ := nrfl rfl
theorem b_128 (args : List AV) : bodyA E C fg N 128 args H B = bodyX E [.tmp 4] (execA E C (fg 128) B 9 H N c128_0 (frame0 args 0 [], H)) := bodyA_eq fi_128 args H
noncomputable def c141_0 : Code := kBody Proofs.Tryd.f141
noncomputable def c141_1 : Code := kL c141_0
noncomputable def r141_0 : Array Oper := kO c141_1
noncomputable def o141_0_0 : Oper := opN r141_0 0
theorem x141_1 : execA E C (fg 141) B 13 E0 N c141_1 s = regX (runA E C B 13 r141_0 r141_0.toList s) (fun s => gcM E0 [4] (forget s.1 [4], s.2)) := x_reg (ops := r141_0) (by rfl) (by rfl) s
theorem r141_0_l : r141_0.toList = [o141_0_0] := nrfl rfl
theorem s141_0_0 : stepA E C B 13 r141_0 o141_0_0 (φ, H) = some (fput φ 4 (.bool false), H) := nrfl rfl
noncomputable def c141_2 : Code := kR c141_0
noncomputable def c141_3 : Code := kL c141_2
noncomputable def r141_1 : Array Oper := kO c141_3
noncomputable def o141_1_0 : Oper := opN r141_1 0
noncomputable def o141_1_1 : Oper := opN r141_1 1
noncomputable def o141_1_2 : Oper := opN r141_1 2
noncomputable def o141_1_3 : Oper := opN r141_1 3
noncomputable def o141_1_4 : Oper := opN r141_1 4
noncomputable def o141_1_5 : Oper := opN r141_1 5
noncomputable def o141_1_6 : Oper := opN r141_1 6
noncomputable def o141_1_7 : Oper := opN r141_1 7
noncomputable def o141_1_8 : Oper := opN r141_1 8
theorem x141_3 : execA E C (fg 141) B 13 E0 N c141_3 s = regX (drawA E C B 13 r141_1 s) (fun s => gcM E0 [0, 1, 2, 5, 6, 7, 8, 9, 10, 11, 12] (forget s.1 [0, 1, 2, 5, 6, 7, 8, 9, 10, 11, 12], s.2)) := x_draw (ops := r141_1) (by rfl) (by rfl) s
theorem r141_1_l : r141_1.toList = [o141_1_0, o141_1_1, o141_1_2, o141_1_3, o141_1_4, o141_1_5, o141_1_6, o141_1_7, o141_1_8] := nrfl rfl
theorem r141_1_st : statOk r141_1 = true := by kernel_rfl
theorem r141_1_dr : drawA E C B 13 r141_1 s = if neat 13 s = true then drX r141_1 (runT E C B 13 r141_1 r141_1.toList 0 s) else none := draw_eq r141_1_st s
theorem r141_1_an (l : List (Nat × Tr)) : dynOk r141_1 l = (!writing l || dynPairs [[], [0], [], [0, 1, 2], [0, 1, 2, 3], [], [0, 1, 2, 3, 4, 5], [0, 1, 2, 3, 4, 5, 6], [0, 1, 2, 3, 4, 5, 6, 7]] (touching l)) := dynOk_eq (by kernel_rfl) l
theorem s141_1_0 : stepT E C B 13 r141_1 o141_1_0 (φ, H) = stpT (some 5) φ H (just (aFieldAddr E.T 109 (fget φ 1) 1)) := stT_go rfl (goT_R rfl rfl)
theorem s141_1_1 : stepT E C B 13 r141_1 o141_1_1 (φ, H) = stpT (some 6) φ H (just (aLoad E.T 107 (fget φ 5))) := stT_go rfl (goT_R rfl rfl)
theorem s141_1_2 : stepT E C B 13 r141_1 o141_1_2 (φ, H) = some ((fput φ 7 (fget φ 0), H), ⟨false, [], []⟩) := stT_go rfl (goT_mv rfl rfl)
theorem s141_1_3 : stepT E C B 13 r141_1 o141_1_3 (φ, H) = stpT (some 8) φ H (just (aIndexAddr E.T 107 (fget φ 6) (fget φ 7))) := stT_go rfl (goT_R rfl rfl)
theorem s141_1_4 : stepT E C B 13 r141_1 o141_1_4 (φ, H) = stpT (some 9) φ H (just (aLoad E.T 121 (fget φ 8))) := stT_go rfl (goT_R rfl rfl)
theorem s141_1_5 : stepT E C B 13 r141_1 o141_1_5 (φ, H) = stpT (some 10) φ H (just (aLoad E.T 121 (fget φ 2))) := stT_go rfl (goT_R rfl rfl)
theorem s141_1_6 : stepT E C B 13 r141_1 o141_1_6 (φ, H) = stpT (some 11) φ H (just (aBin E.T .and 121 (fget φ 9) (fget φ 10))) := stT_go rfl (goT_R rfl rfl)
theorem s141_1_7 : stepT E C B 13 r141_1 o141_1_7 (φ, H) = stpT (some 12) φ H (just (aBin E.T .neq 121 (fget φ 11) (.int .u64 0))) := stT_go rfl (goT_R rfl rfl)
theorem s141_1_8 : stepT E C B 13 r141_1 o141_1_8 (φ, H) = some ((fput φ 4 (fget φ 12), H), ⟨false, [], []⟩) := stT_go rfl (goT_mv rfl rfl)
noncomputable def c141_4 : Code := kR c141_2
theorem x141_4 : execA E C (fg 141) B 13 E0 N c141_4 s = some (.ret, s) := x_ret (by rfl) s
theorem x141_2 : execA E C (fg 141) B 13 E0 N c141_2 s = seqX (execA E C (fg 141) B 13 E0 N c141_3 s) (execA E C (fg 141) B 13 E0 N c141_4) := x_seq (by rfl) s
theorem x141_0 : execA E C (fg 141) B 13 E0 N c141_0 s = seqX (execA E C (fg 141) B 13 E0 N c141_1 s) (execA E C (fg 141) B 13 E0 N c141_2) := x_seq (by rfl) s
theorem fi_141 : fInfo E 141 = some ⟨13, #[.tmp 4], c141_0⟩ := nrfl rfl
theorem b_141 (args : List AV) : bodyA E C fg N 141 args H B = bodyX E [.tmp 4] (execA E C (fg 141) B 13 H N c141_0 (frame0 args 0 [], H)) := bodyA_eq fi_141 args H
noncomputable def c100_0 : Code := kBody Proofs.Tryd.f100
noncomputable def c100_1 : Code := kL c100_0
noncomputable def r100_0 : Array Oper := kO c100_1
noncomputable def o100_0_0 : Oper := opN r100_0 0
noncomputable def o100_0_1 : Oper := opN r100_0 1
theorem x100_1 : execA E C (fg 100) B 25 E0 N c100_1 s = regX (runA E C B 25 r100_0 r100_0.toList s) (fun s => gcM E0 [0, 4] (forget s.1 [0, 4], s.2)) := x_reg (ops := r100_0) (by rfl) (by rfl) s
theorem r100_0_l : r100_0.toList = [o100_0_0, o100_0_1] := nrfl rfl
theorem s100_0_0 : stepA E C B 25 r100_0 o100_0_0 (φ, H) = stp (some 2) φ H (opBox (B + 2) (acells (fget φ 0))) := nrfl rfl
theorem s100_0_1 : stepA E C B 25 r100_0 o100_0_1 (φ, H) = some (fput φ 4 (.int .i64 0), H) := nrfl rfl
noncomputable def c100_2 : Code := kR c100_0
noncomputable def c100_3 : Code := kL c100_2
noncomputable def r100_1 : Array Oper := kO c100_3
noncomputable def o100_1_0 : Oper := opN r100_1 0
theorem x100_3 : execA E C (fg 100) B 25 E0 N c100_3 s = regX (runA E C B 25 r100_1 r100_1.toList s) (fun s => gcM E0 [] (forget s.1 [], s.2)) := x_reg (ops := r100_1) (by rfl) (by rfl) s
theorem r100_1_l : r100_1.toList = [o100_1_0] := nrfl rfl
theorem s100_1_0 : stepA E C B 25 r100_1 o100_1_0 (φ, H) = some (fput φ 5 (.int .i64 0), H) := nrfl rfl
noncomputable def c100_4 : Code := kR c100_2
noncomputable def c100_5 : Code := kL c100_4
noncomputable def c100_6 : Code := kL c100_5
noncomputable def r100_2 : Array Oper := kO c100_6
noncomputable def o100_2_0 : Oper := opN r100_2 0
noncomputable def o100_2_1 : Oper := opN r100_2 1
noncomputable def o100_2_2 : Oper := opN r100_2 2
noncomputable def o100_2_3 : Oper := opN r100_2 3
theorem x100_6 : execA E C (fg 100) B 25 E0 N c100_6 s = regX (runA E C B 25 r100_2 r100_2.toList s) (fun s => gcM E0 [1, 8] (forget s.1 [1, 8], s.2)) := x_reg (ops := r100_2) (by rfl) (by rfl) s
theorem r100_2_l : r100_2.toList = [o100_2_0, o100_2_1, o100_2_2, o100_2_3] := nrfl rfl
theorem s100_2_0 : stepA E C B 25 r100_2 o100_2_0 (φ, H) = some (fput φ 8 (fget φ 1), H) := nrfl rfl
theorem s100_2_1 : stepA E C B 25 r100_2 o100_2_1 (φ, H) = stp (some 9) φ H (aCall C (fun j => B + j * 25 + 9) true 97 [(fget φ 8)]) := nrfl rfl
theorem s100_2_2 : stepA E C B 25 r100_2 o100_2_2 (φ, H) = stp (some 10) φ H (aBuiltin E.T (B + 10) .len #[36] [(fget φ 9)]) := nrfl rfl
theorem s100_2_3 : stepA E C B 25 r100_2 o100_2_3 (φ, H) = some (fput φ 11 (.int .i64 0), H) := nrfl rfl
noncomputable def c100_7 : Code := kR c100_5
noncomputable def c100_8 : Code := kB c100_7
noncomputable def c100_9 : Code := kB c100_8
noncomputable def c100_10 : Code := kL c100_9
noncomputable def r100_3 : Array Oper := kO c100_10
noncomputable def o100_3_0 : Oper := opN r100_3 0
theorem x100_10 : execA E C (fg 100) B 25 E0 N c100_10 s = regX (runA E C B 25 r100_3 r100_3.toList s) (fun s => gcM E0 [] (forget s.1 [], s.2)) := x_reg (ops := r100_3) (by rfl) (by rfl) s
theorem r100_3_l : r100_3.toList = [o100_3_0] := nrfl rfl
theorem s100_3_0 : stepA E C B 25 r100_3 o100_3_0 (φ, H) = stp (some 12) φ H (just (aBin E.T .lss 3 (fget φ 11) (fget φ 10))) := nrfl rfl
noncomputable def c100_11 : Code := kR c100_9
noncomputable def c100_12 : Code := kL c100_11
noncomputable def c100_13 : Code := kT c100_12
theorem x100_13 : execA E C (fg 100) B 25 E0 N c100_13 s = some (.normal, s) := x_skip (by rfl) s
noncomputable def c100_14 : Code := kE c100_12
theorem x100_14 : execA E C (fg 100) B 25 E0 N c100_14 s = some (.exit 0, s) := x_exit (by rfl) s
theorem x100_12 : execA E C (fg 100) B 25 E0 N c100_12 (φ, H) = condX (fget φ 12) (execA E C (fg 100) B 25 E0 N c100_13 (φ, H)) (execA E C (fg 100) B 25 E0 N c100_14 (φ, H)) := x_cond (by rfl) _
noncomputable def c100_15 : Code := kR c100_11
noncomputable def c100_16 : Code := kL c100_15
noncomputable def c100_17 : Code := kB c100_16
noncomputable def c100_18 : Code := kL c100_17
noncomputable def r100_4 : Array Oper := kO c100_18
noncomputable def o100_4_0 : Oper := opN r100_4 0
noncomputable def o100_4_1 : Oper := opN r100_4 1
noncomputable def o100_4_2 : Oper := opN r100_4 2
theorem x100_18 : execA E C (fg 100) B 25 E0 N c100_18 s = regX (runA E C B 25 r100_4 r100_4.toList s) (fun s => gcM E0 [12, 13, 14] (forget s.1 [12, 13, 14], s.2)) := x_reg (ops := r100_4) (by rfl) (by rfl) s
theorem r100_4_l : r100_4.toList = [o100_4_0, o100_4_1, o100_4_2] := nrfl rfl
theorem s100_4_0 : stepA E C B 25 r100_4 o100_4_0 (φ, H) = stp (some 13) φ H (just (aIndexAddr E.T 36 (fget φ 9) (fget φ 11))) := nrfl rfl
theorem s100_4_1 : stepA E C B 25 r100_4 o100_4_1 (φ, H) = stp (some 14) φ H (just (aLoad E.T 3 (fget φ 13))) := nrfl rfl
theorem s100_4_2 : stepA E C B 25 r100_4 o100_4_2 (φ, H) = some (fput φ 7 (fget φ 14), H) := nrfl rfl
noncomputable def c100_19 : Code := kR c100_17
noncomputable def r100_5 : Array Oper := kO c100_19
noncomputable def o100_5_0 : Oper := opN r100_5 0
noncomputable def o100_5_1 : Oper := opN r100_5 1
noncomputable def o100_5_2 : Oper := opN r100_5 2
noncomputable def o100_5_3 : Oper := opN r100_5 3
noncomputable def o100_5_4 : Oper := opN r100_5 4
noncomputable def o100_5_5 : Oper := opN r100_5 5
noncomputable def o100_5_6 : Oper := opN r100_5 6
noncomputable def o100_5_7 : Oper := opN r100_5 7
noncomputable def o100_5_8 : Oper := opN r100_5 8
theorem x100_19 : execA E C (fg 100) B 25 E0 N c100_19 s = regX (runA E C B 25 r100_5 r100_5.toList s) (fun s => gcM E0 [7, 15, 16, 17, 18, 19, 20, 21, 22] (forget s.1 [7, 15, 16, 17, 18, 19, 20, 21, 22], s.2)) := x_reg (ops := r100_5) (by rfl) (by rfl) s
theorem r100_5_l : r100_5.toList = [o100_5_0, o100_5_1, o100_5_2, o100_5_3, o100_5_4, o100_5_5, o100_5_6, o100_5_7, o100_5_8] := nrfl rfl
theorem s100_5_0 : stepA E C B 25 r100_5 o100_5_0 (φ, H) = some (fput φ 15 (fget φ 5), H) := nrfl rfl
theorem s100_5_1 : stepA E C B 25 r100_5 o100_5_1 (φ, H) = stp (some 16) φ H (just (aFieldAddr E.T 109 (fget φ 2) 0)) := nrfl rfl
theorem s100_5_2 : stepA E C B 25 r100_5 o100_5_2 (φ, H) = stp (some 17) φ H (just (aLoad E.T 106 (fget φ 16))) := nrfl rfl
theorem s100_5_3 : stepA E C B 25 r100_5 o100_5_3 (φ, H) = some (fput φ 18 (fget φ 7), H) := nrfl rfl
theorem s100_5_4 : stepA E C B 25 r100_5 o100_5_4 (φ, H) = stp (some 19) φ H (just (aIndexAddr E.T 106 (fget φ 17) (fget φ 18))) := nrfl rfl
theorem s100_5_5 : stepA E C B 25 r100_5 o100_5_5 (φ, H) = stp (some 20) φ H (just (aIndexAddr E.T 126 (fget φ 19) (.int .i64 1))) := nrfl rfl
theorem s100_5_6 : stepA E C B 25 r100_5 o100_5_6 (φ, H) = stp (some 21) φ H (just (aLoad E.T 3 (fget φ 20))) := nrfl rfl
theorem s100_5_7 : stepA E C B 25 r100_5 o100_5_7 (φ, H) = stp (some 22) φ H (just (aBin E.T .add 3 (fget φ 15) (fget φ 21))) := nrfl rfl
theorem s100_5_8 : stepA E C B 25 r100_5 o100_5_8 (φ, H) = some (fput φ 5 (fget φ 22), H) := nrfl rfl
theorem x100_17 : execA E C (fg 100) B 25 E0 N c100_17 s = seqX (execA E C (fg 100) B 25 E0 N c100_18 s) (execA E C (fg 100) B 25 E0 N c100_19) := x_seq (by rfl) s
theorem x100_16 : execA E C (fg 100) B 25 E0 N c100_16 s = blockX 1 (fun s => (forget s.1 [], s.2)) (execA E C (fg 100) B 25 E0 N c100_17 s) := x_block (by rfl) (by rfl) s
noncomputable def c100_20 : Code := kR c100_15
noncomputable def r100_6 : Array Oper := kO c100_20
noncomputable def o100_6_0 : Oper := opN r100_6 0
noncomputable def o100_6_1 : Oper := opN r100_6 1
theorem x100_20 : execA E C (fg 100) B 25 E0 N c100_20 s = regX (runA E C B 25 r100_6 r100_6.toList s) (fun s => gcM E0 [23] (forget s.1 [23], s.2)) := x_reg (ops := r100_6) (by rfl) (by rfl) s
theorem r100_6_l : r100_6.toList = [o100_6_0, o100_6_1] := nrfl rfl
theorem s100_6_0 : stepA E C B 25 r100_6 o100_6_0 (φ, H) = stp (some 23) φ H (just (aBin E.T .add 3 (fget φ 11) (.int .i64 1))) := nrfl rfl
theorem s100_6_1 : stepA E C B 25 r100_6 o100_6_1 (φ, H) = some (fput φ 11 (fget φ 23), H) := nrfl rfl
theorem x100_15 : execA E C (fg 100) B 25 E0 N c100_15 s = seqX (execA E C (fg 100) B 25 E0 N c100_16 s) (execA E C (fg 100) B 25 E0 N c100_20) := x_seq (by rfl) s
theorem x100_11 : execA E C (fg 100) B 25 E0 N c100_11 s = seqX (execA E C (fg 100) B 25 E0 N c100_12 s) (execA E C (fg 100) B 25 E0 N c100_15) := x_seq (by rfl) s
theorem x100_9 : execA E C (fg 100) B 25 E0 N c100_9 s = seqX (execA E C (fg 100) B 25 E0 N c100_10 s) (execA E C (fg 100) B 25 E0 N c100_11) := x_seq (by rfl) s
theorem x100_8 : execA E C (fg 100) B 25 E0 N c100_8 s = iterA (execA E C (fg 100) B 25 E0 N c100_9) (headA E0) N s := x_loop (by rfl) s
theorem x100_7 : execA E C (fg 100) B 25 E0 N c100_7 s = blockX 0 (fun s => (forget s.1 [2, 9, 10, 11, 12], s.2)) (execA E C (fg 100) B 25 E0 N c100_8 s) := x_block (by rfl) (by rfl) s
theorem x100_5 : execA E C (fg 100) B 25 E0 N c100_5 s = seqX (execA E C (fg 100) B 25 E0 N c100_6 s) (execA E C (fg 100) B 25 E0 N c100_7) := x_seq (by rfl) s
noncomputable def c100_21 : Code := kR c100_4
noncomputable def c100_22 : Code := kL c100_21
noncomputable def r100_7 : Array Oper := kO c100_22
noncomputable def o100_7_0 : Oper := opN r100_7 0
noncomputable def o100_7_1 : Oper := opN r100_7 1
theorem x100_22 : execA E C (fg 100) B 25 E0 N c100_22 s = regX (runA E C B 25 r100_7 r100_7.toList s) (fun s => gcM E0 [5, 24] (forget s.1 [5, 24], s.2)) := x_reg (ops := r100_7) (by rfl) (by rfl) s
theorem r100_7_l : r100_7.toList = [o100_7_0, o100_7_1] := nrfl rfl
theorem s100_7_0 : stepA E C B 25 r100_7 o100_7_0 (φ, H) = some (fput φ 24 (fget φ 5), H) := nrfl rfl
theorem s100_7_1 : stepA E C B 25 r100_7 o100_7_1 (φ, H) = some (fput φ 4 (fget φ 24), H) := nrfl rfl
noncomputable def c100_23 : Code := kR c100_21
theorem x100_23 : execA E C (fg 100) B 25 E0 N c100_23 s = some (.ret, s) := x_ret (by rfl) s
theorem x100_21 : execA E C (fg 100) B 25 E0 N c100_21 s = seqX (execA E C (fg 100) B 25 E0 N c100_22 s) (execA E C (fg 100) B 25 E0 N c100_23) := x_seq (by rfl) s
theorem x100_4 : execA E C (fg 100) B 25 E0 N c100_4 s = seqX (execA E C (fg 100) B 25 E0 N c100_5 s) (execA E C (fg 100) B 25 E0 N c100_21) := x_seq (by rfl) s
theorem x100_2 : execA E C (fg 100) B 25 E0 N c100_2 s = seqX (execA E C (fg 100) B 25 E0 N c100_3 s) (execA E C (fg 100) B 25 E0 N c100_4) := x_seq (by rfl) s
theorem x100_0 : execA E C (fg 100) B 25 E0 N c100_0 s = seqX (execA E C (fg 100) B 25 E0 N c100_1 s) (execA E C (fg 100) B 25 E0 N c100_2) := x_seq (by rfl) s
theorem fi_100 : fInfo E 100 = some ⟨25, #[.tmp 4], c100_0⟩ := nrfl rfl
theorem b_100 (args : List AV) : bodyA E C fg N 100 args H B = bodyX E [.tmp 4] (execA E C (fg 100) B 25 H N c100_0 (frame0 args 0 [], H)) := bodyA_eq fi_100 args H
noncomputable def c140_0 : Code := kBody Proofs.Tryd.f140
noncomputable def c140_1 : Code := kL c140_0
noncomputable def r140_0 : Array Oper := kO c140_1
noncomputable def o140_0_0 : Oper := opN r140_0 0
theorem x140_1 : execA E C (fg 140) B 42 E0 N c140_1 s = regX (runA E C B 42 r140_0 r140_0.toList s) (fun s => gcM E0 [4] (forget s.1 [4], s.2)) := x_reg (ops := r140_0) (by rfl) (by rfl) s
theorem r140_0_l : r140_0.toList = [o140_0_0] := nrfl rfl
theorem s140_0_0 : stepA E C B 42 r140_0 o140_0_0 (φ, H) = some (fput φ 4 (.nilsl), H) := nrfl rfl
noncomputable def c140_2 : Code := kR c140_0
noncomputable def c140_3 : Code := kL c140_2
noncomputable def r140_1 : Array Oper := kO c140_3
noncomputable def o140_1_0 : Oper := opN r140_1 0
noncomputable def o140_1_1 : Oper := opN r140_1 1
noncomputable def o140_1_2 : Oper := opN r140_1 2
noncomputable def o140_1_3 : Oper := opN r140_1 3
theorem x140_3 : execA E C (fg 140) B 42 E0 N c140_3 s = regX (runA E C B 42 r140_1 r140_1.toList s) (fun s => gcM E0 [8, 9, 10] (forget s.1 [8, 9, 10], s.2)) := x_reg (ops := r140_1) (by rfl) (by rfl) s
theorem r140_1_l : r140_1.toList = [o140_1_0, o140_1_1, o140_1_2, o140_1_3] := nrfl rfl
theorem s140_1_0 : stepA E C B 42 r140_1 o140_1_0 (φ, H) = some (fput φ 8 (fget φ 0), H) := nrfl rfl
theorem s140_1_1 : stepA E C B 42 r140_1 o140_1_1 (φ, H) = some (fput φ 9 (fget φ 1), H) := nrfl rfl
theorem s140_1_2 : stepA E C B 42 r140_1 o140_1_2 (φ, H) = stp (some 10) φ H (aCall C (fun j => B + j * 42 + 10) true 54 [(fget φ 8), (fget φ 9)]) := nrfl rfl
theorem s140_1_3 : stepA E C B 42 r140_1 o140_1_3 (φ, H) = some (fput φ 5 (fget φ 10), H) := nrfl rfl
noncomputable def c140_4 : Code := kR c140_2
noncomputable def c140_5 : Code := kL c140_4
noncomputable def c140_6 : Code := kL c140_5
noncomputable def r140_2 : Array Oper := kO c140_6
noncomputable def o140_2_0 : Oper := opN r140_2 0
noncomputable def o140_2_1 : Oper := opN r140_2 1
theorem x140_6 : execA E C (fg 140) B 42 E0 N c140_6 s = regX (runA E C B 42 r140_2 r140_2.toList s) (fun s => gcM E0 [11] (forget s.1 [11], s.2)) := x_reg (ops := r140_2) (by rfl) (by rfl) s
theorem r140_2_l : r140_2.toList = [o140_2_0, o140_2_1] := nrfl rfl
theorem s140_2_0 : stepA E C B 42 r140_2 o140_2_0 (φ, H) = some (fput φ 11 (fget φ 5), H) := nrfl rfl
theorem s140_2_1 : stepA E C B 42 r140_2 o140_2_1 (φ, H) = stp (some 12) φ H (just (aBin E.T .eql 3 (fget φ 11) (.int .i64 (-1)))) := nrfl rfl
noncomputable def c140_7 : Code := kR c140_5
noncomputable def c140_8 : Code := kT c140_7
noncomputable def c140_9 : Code := kL c140_8
noncomputable def r140_3 : Array Oper := kO c140_9
noncomputable def o140_3_0 : Oper := opN r140_3 0
noncomputable def o140_3_1 : Oper := opN r140_3 1
theorem x140_9 : execA E C (fg 140) B 42 E0 N c140_9 s = regX (runA E C B 42 r140_3 r140_3.toList s) (fun s => gcM E0 [0, 1, 5, 12, 13] (forget s.1 [0, 1, 5, 12, 13], s.2)) := x_reg (ops := r140_3) (by rfl) (by rfl) s
theorem r140_3_l : r140_3.toList = [o140_3_0, o140_3_1] := nrfl rfl
theorem s140_3_0 : stepA E C B 42 r140_3 o140_3_0 (φ, H) = some (fput φ 13 (fget φ 0), H) := nrfl rfl
theorem s140_3_1 : stepA E C B 42 r140_3 o140_3_1 (φ, H) = some (fput φ 4 (fget φ 13), H) := nrfl rfl
noncomputable def c140_10 : Code := kR c140_8
theorem x140_10 : execA E C (fg 140) B 42 E0 N c140_10 s = some (.ret, s) := x_ret (by rfl) s
theorem x140_8 : execA E C (fg 140) B 42 E0 N c140_8 s = seqX (execA E C (fg 140) B 42 E0 N c140_9 s) (execA E C (fg 140) B 42 E0 N c140_10) := x_seq (by rfl) s
noncomputable def c140_11 : Code := kE c140_7
theorem x140_11 : execA E C (fg 140) B 42 E0 N c140_11 s = some (.normal, s) := x_skip (by rfl) s
theorem x140_7 : execA E C (fg 140) B 42 E0 N c140_7 (φ, H) = condX (fget φ 12) (execA E C (fg 140) B 42 E0 N c140_8 (φ, H)) (execA E C (fg 140) B 42 E0 N c140_11 (φ, H)) := x_cond (by rfl) _
theorem x140_5 : execA E C (fg 140) B 42 E0 N c140_5 s = seqX (execA E C (fg 140) B 42 E0 N c140_6 s) (execA E C (fg 140) B 42 E0 N c140_7) := x_seq (by rfl) s
noncomputable def c140_12 : Code := kR c140_4
noncomputable def c140_13 : Code := kL c140_12
noncomputable def c140_14 : Code := kL c140_13
noncomputable def r140_4 : Array Oper := kO c140_14
noncomputable def o140_4_0 : Oper := opN r140_4 0
noncomputable def o140_4_1 : Oper := opN r140_4 1
noncomputable def o140_4_2 : Oper := opN r140_4 2
theorem x140_14 : execA E C (fg 140) B 42 E0 N c140_14 s = regX (runA E C B 42 r140_4 r140_4.toList s) (fun s => gcM E0 [12, 14, 15] (forget s.1 [12, 14, 15], s.2)) := x_reg (ops := r140_4) (by rfl) (by rfl) s
theorem r140_4_l : r140_4.toList = [o140_4_0, o140_4_1, o140_4_2] := nrfl rfl
theorem s140_4_0 : stepA E C B 42 r140_4 o140_4_0 (φ, H) = some (fput φ 14 (fget φ 5), H) := nrfl rfl
theorem s140_4_1 : stepA E C B 42 r140_4 o140_4_1 (φ, H) = stp (some 15) φ H (just (aBin E.T .add 3 (fget φ 14) (.int .i64 1))) := nrfl rfl
theorem s140_4_2 : stepA E C B 42 r140_4 o140_4_2 (φ, H) = some (fput φ 6 (fget φ 15), H) := nrfl rfl
noncomputable def c140_15 : Code := kR c140_13
noncomputable def c140_16 : Code := kB c140_15
noncomputable def c140_17 : Code := kB c140_16
noncomputable def c140_18 : Code := kL c140_17
noncomputable def c140_19 : Code := kL c140_18
noncomputable def r140_5 : Array Oper := kO c140_19
noncomputable def o140_5_0 : Oper := opN r140_5 0
noncomputable def o140_5_1 : Oper := opN r140_5 1
noncomputable def o140_5_2 : Oper := opN r140_5 2
noncomputable def o140_5_3 : Oper := opN r140_5 3
theorem x140_19 : execA E C (fg 140) B 42 E0 N c140_19 s = regX (runA E C B 42 r140_5 r140_5.toList s) (fun s => gcM E0 [16, 17, 18] (forget s.1 [16, 17, 18], s.2)) := x_reg (ops := r140_5) (by rfl) (by rfl) s
theorem r140_5_l : r140_5.toList = [o140_5_0, o140_5_1, o140_5_2, o140_5_3] := nrfl rfl
theorem s140_5_0 : stepA E C B 42 r140_5 o140_5_0 (φ, H) = some (fput φ 16 (fget φ 6), H) := nrfl rfl
theorem s140_5_1 : stepA E C B 42 r140_5 o140_5_1 (φ, H) = some (fput φ 17 (fget φ 0), H) := nrfl rfl
theorem s140_5_2 : stepA E C B 42 r140_5 o140_5_2 (φ, H) = stp (some 18) φ H (aBuiltin E.T (B + 18) .len #[36] [(fget φ 17)]) := nrfl rfl
theorem s140_5_3 : stepA E C B 42 r140_5 o140_5_3 (φ, H) = stp (some 19) φ H (just (aBin E.T .lss 3 (fget φ 16) (fget φ 18))) := nrfl rfl
noncomputable def c140_20 : Code := kR c140_18
noncomputable def c140_21 : Code := kT c140_20
theorem x140_21 : execA E C (fg 140) B 42 E0 N c140_21 s = some (.normal, s) := x_skip (by rfl) s
noncomputable def c140_22 : Code := kE c140_20
theorem x140_22 : execA E C (fg 140) B 42 E0 N c140_22 s = some (.exit 0, s) := x_exit (by rfl) s
theorem x140_20 : execA E C (fg 140) B 42 E0 N c140_20 (φ, H) = condX (fget φ 19) (execA E C (fg 140) B 42 E0 N c140_21 (φ, H)) (execA E C (fg 140) B 42 E0 N c140_22 (φ, H)) := x_cond (by rfl) _
theorem x140_18 : execA E C (fg 140) B 42 E0 N c140_18 s = seqX (execA E C (fg 140) B 42 E0 N c140_19 s) (execA E C (fg 140) B 42 E0 N c140_20) := x_seq (by rfl) s
noncomputable def c140_23 : Code := kR c140_17
noncomputable def c140_24 : Code := kL c140_23
noncomputable def c140_25 : Code := kB c140_24
noncomputable def c140_26 : Code := kL c140_25
noncomputable def r140_7 : Array Oper := kO c140_26
noncomputable def o140_7_0 : Oper := opN r140_7 0
noncomputable def o140_7_1 : Oper := opN r140_7 1
noncomputable def o140_7_2 : Oper := opN r140_7 2
noncomputable def o140_7_3 : Oper := opN r140_7 3
noncomputable def o140_7_4 : Oper := opN r140_7 4
theorem x140_26 : execA E C (fg 140) B 42 E0 N c140_26 s = regX (runA E C B 42 r140_7 r140_7.toList s) (fun s => gcM E0 [19, 22, 23, 24, 25] (forget s.1 [19, 22, 23, 24, 25], s.2)) := x_reg (ops := r140_7) (by rfl) (by rfl) s
theorem r140_7_l : r140_7.toList = [o140_7_0, o140_7_1, o140_7_2, o140_7_3, o140_7_4] := nrfl rfl
theorem s140_7_0 : stepA E C B 42 r140_7 o140_7_0 (φ, H) = some (fput φ 22 (fget φ 0), H) := nrfl rfl
theorem s140_7_1 : stepA E C B 42 r140_7 o140_7_1 (φ, H) = some (fput φ 23 (fget φ 6), H) := nrfl rfl
theorem s140_7_2 : stepA E C B 42 r140_7 o140_7_2 (φ, H) = stp (some 24) φ H (just (aIndexAddr E.T 36 (fget φ 22) (fget φ 23))) := nrfl rfl
theorem s140_7_3 : stepA E C B 42 r140_7 o140_7_3 (φ, H) = stp (some 25) φ H (just (aLoad E.T 3 (fget φ 24))) := nrfl rfl
theorem s140_7_4 : stepA E C B 42 r140_7 o140_7_4 (φ, H) = some (fput φ 7 (fget φ 25), H) := nrfl rfl
noncomputable def c140_27 : Code := kR c140_25
noncomputable def c140_28 : Code := kL c140_27
noncomputable def r140_8 : Array Oper := kO c140_28
noncomputable def o140_8_0 : Oper := opN r140_8 0
noncomputable def o140_8_1 : Oper := opN r140_8 1
noncomputable def o140_8_2 : Oper := opN r140_8 2
noncomputable def o140_8_3 : Oper := opN r140_8 3
theorem x140_28 : execA E C (fg 140) B 42 E0 N c140_28 s = regX (runA E C B 42 r140_8 r140_8.toList s) (fun s => gcM E0 [26, 27, 28] (forget s.1 [26, 27, 28], s.2)) := x_reg (ops := r140_8) (by rfl) (by rfl) s
theorem r140_8_l : r140_8.toList = [o140_8_0, o140_8_1, o140_8_2, o140_8_3] := nrfl rfl
theorem s140_8_0 : stepA E C B 42 r140_8 o140_8_0 (φ, H) = some (fput φ 26 (fget φ 1), H) := nrfl rfl
theorem s140_8_1 : stepA E C B 42 r140_8 o140_8_1 (φ, H) = some (fput φ 27 (fget φ 7), H) := nrfl rfl
theorem s140_8_2 : stepA E C B 42 r140_8 o140_8_2 (φ, H) = callV E C (B + 42 * 8) (some 28) (fun j => B + j * 42 + 28) φ H (fget φ 26) [(fget φ 27)] true := nrfl rfl
theorem s140_8_3 : stepA E C B 42 r140_8 o140_8_3 (φ, H) = stp (some 29) φ H (justO (aUn .not (fget φ 28))) := nrfl rfl
noncomputable def c140_29 : Code := kR c140_27
noncomputable def c140_30 : Code := kT c140_29
noncomputable def c140_31 : Code := kL c140_30
noncomputable def r140_9 : Array Oper := kO c140_31
noncomputable def o140_9_0 : Oper := opN r140_9 0
noncomputable def o140_9_1 : Oper := opN r140_9 1
noncomputable def o140_9_2 : Oper := opN r140_9 2
noncomputable def o140_9_3 : Oper := opN r140_9 3
noncomputable def o140_9_4 : Oper := opN r140_9 4
theorem x140_31 : execA E C (fg 140) B 42 E0 N c140_31 s = regX (runA E C B 42 r140_9 r140_9.toList s) (fun s => gcM E0 [7, 29, 30, 31, 32, 33] (forget s.1 [7, 29, 30, 31, 32, 33], s.2)) := x_reg (ops := r140_9) (by rfl) (by rfl) s
theorem r140_9_l : r140_9.toList = [o140_9_0, o140_9_1, o140_9_2, o140_9_3, o140_9_4] := nrfl rfl
theorem s140_9_0 : stepA E C B 42 r140_9 o140_9_0 (φ, H) = some (fput φ 30 (fget φ 0), H) := nrfl rfl
theorem s140_9_1 : stepA E C B 42 r140_9 o140_9_1 (φ, H) = some (fput φ 31 (fget φ 5), H) := nrfl rfl
theorem s140_9_2 : stepA E C B 42 r140_9 o140_9_2 (φ, H) = some (fput φ 32 (fget φ 7), H) := nrfl rfl
theorem s140_9_3 : stepA E C B 42 r140_9 o140_9_3 (φ, H) = stp (some 33) φ H (just (aIndexAddr E.T 36 (fget φ 30) (fget φ 31))) := nrfl rfl
theorem s140_9_4 : stepA E C B 42 r140_9 o140_9_4 (φ, H) = stp none φ H (opStore E.T 3 (fget φ 33) (fget φ 32)) := nrfl rfl
noncomputable def c140_32 : Code := kR c140_30
noncomputable def r140_10 : Array Oper := kO c140_32
noncomputable def o140_10_0 : Oper := opN r140_10 0
noncomputable def o140_10_1 : Oper := opN r140_10 1
noncomputable def o140_10_2 : Oper := opN r140_10 2
theorem x140_32 : execA E C (fg 140) B 42 E0 N c140_32 s = regX (runA E C B 42 r140_10 r140_10.toList s) (fun s => gcM E0 [34, 35] (forget s.1 [34, 35], s.2)) := x_reg (ops := r140_10) (by rfl) (by rfl) s
theorem r140_10_l : r140_10.toList = [o140_10_0, o140_10_1, o140_10_2] := nrfl rfl
theorem s140_10_0 : stepA E C B 42 r140_10 o140_10_0 (φ, H) = some (fput φ 34 (fget φ 5), H) := nrfl rfl
theorem s140_10_1 : stepA E C B 42 r140_10 o140_10_1 (φ, H) = stp (some 35) φ H (just (aBin E.T .add 3 (fget φ 34) (.int .i64 1))) := nrfl rfl
theorem s140_10_2 : stepA E C B 42 r140_10 o140_10_2 (φ, H) = some (fput φ 5 (fget φ 35), H) := nrfl rfl
theorem x140_30 : execA E C (fg 140) B 42 E0 N c140_30 s = seqX (execA E C (fg 140) B 42 E0 N c140_31 s) (execA E C (fg 140) B 42 E0 N c140_32) := x_seq (by rfl) s
noncomputable def c140_33 : Code := kE c140_29
theorem x140_33 : execA E C (fg 140) B 42 E0 N c140_33 s = some (.normal, s) := x_skip (by rfl) s
theorem x140_29 : execA E C (fg 140) B 42 E0 N c140_29 (φ, H) = condX (fget φ 29) (execA E C (fg 140) B 42 E0 N c140_30 (φ, H)) (execA E C (fg 140) B 42 E0 N c140_33 (φ, H)) := x_cond (by rfl) _
theorem x140_27 : execA E C (fg 140) B 42 E0 N c140_27 s = seqX (execA E C (fg 140) B 42 E0 N c140_28 s) (execA E C (fg 140) B 42 E0 N c140_29) := x_seq (by rfl) s
theorem x140_25 : execA E C (fg 140) B 42 E0 N c140_25 s = seqX (execA E C (fg 140) B 42 E0 N c140_26 s) (execA E C (fg 140) B 42 E0 N c140_27) := x_seq (by rfl) s
theorem x140_24 : execA E C (fg 140) B 42 E0 N c140_24 s = blockX 1 (fun s => (forget s.1 [7, 29], s.2)) (execA E C (fg 140) B 42 E0 N c140_25 s) := x_block (by rfl) (by rfl) s
noncomputable def c140_34 : Code := kR c140_23
noncomputable def r140_6 : Array Oper := kO c140_34
noncomputable def o140_6_0 : Oper := opN r140_6 0
noncomputable def o140_6_1 : Oper := opN r140_6 1
noncomputable def o140_6_2 : Oper := opN r140_6 2
theorem x140_34 : execA E C (fg 140) B 42 E0 N c140_34 s = regX (runA E C B 42 r140_6 r140_6.toList s) (fun s => gcM E0 [20, 21] (forget s.1 [20, 21], s.2)) := x_reg (ops := r140_6) (by rfl) (by rfl) s
theorem r140_6_l : r140_6.toList = [o140_6_0, o140_6_1, o140_6_2] := nrfl rfl
theorem s140_6_0 : stepA E C B 42 r140_6 o140_6_0 (φ, H) = some (fput φ 20 (fget φ 6), H) := nrfl rfl
theorem s140_6_1 : stepA E C B 42 r140_6 o140_6_1 (φ, H) = stp (some 21) φ H (just (aBin E.T .add 3 (fget φ 20) (.int .i64 1))) := nrfl rfl
theorem s140_6_2 : stepA E C B 42 r140_6 o140_6_2 (φ, H) = some (fput φ 6 (fget φ 21), H) := nrfl rfl
theorem x140_23 : execA E C (fg 140) B 42 E0 N c140_23 s = seqX (execA E C (fg 140) B 42 E0 N c140_24 s) (execA E C (fg 140) B 42 E0 N c140_34) := x_seq (by rfl) s
theorem x140_17 : execA E C (fg 140) B 42 E0 N c140_17 s = seqX (execA E C (fg 140) B 42 E0 N c140_18 s) (execA E C (fg 140) B 42 E0 N c140_23) := x_seq (by rfl) s
theorem x140_16 : execA E C (fg 140) B 42 E0 N c140_16 s = iterA (execA E C (fg 140) B 42 E0 N c140_17) (headA E0) N s := x_loop (by rfl) s
theorem x140_15 : execA E C (fg 140) B 42 E0 N c140_15 s = blockX 0 (fun s => (forget s.1 [1, 6, 19], s.2)) (execA E C (fg 140) B 42 E0 N c140_16 s) := x_block (by rfl) (by rfl) s
theorem x140_13 : execA E C (fg 140) B 42 E0 N c140_13 s = seqX (execA E C (fg 140) B 42 E0 N c140_14 s) (execA E C (fg 140) B 42 E0 N c140_15) := x_seq (by rfl) s
noncomputable def c140_35 : Code := kR c140_12
noncomputable def c140_36 : Code := kL c140_35
noncomputable def r140_11 : Array Oper := kO c140_36
noncomputable def o140_11_0 : Oper := opN r140_11 0
noncomputable def o140_11_1 : Oper := opN r140_11 1
noncomputable def o140_11_2 : Oper := opN r140_11 2
noncomputable def o140_11_3 : Oper := opN r140_11 3
theorem x140_36 : execA E C (fg 140) B 42 E0 N c140_36 s = regX (runA E C B 42 r140_11 r140_11.toList s) (fun s => gcM E0 [36, 37, 38] (forget s.1 [36, 37, 38], s.2)) := x_reg (ops := r140_11) (by rfl) (by rfl) s
theorem r140_11_l : r140_11.toList = [o140_11_0, o140_11_1, o140_11_2, o140_11_3] := nrfl rfl
theorem s140_11_0 : stepA E C B 42 r140_11 o140_11_0 (φ, H) = some (fput φ 36 (fget φ 0), H) := nrfl rfl
theorem s140_11_1 : stepA E C B 42 r140_11 o140_11_1 (φ, H) = some (fput φ 37 (fget φ 5), H) := nrfl rfl
theorem s140_11_2 : stepA E C B 42 r140_11 o140_11_2 (φ, H) = stp (some 38) φ H (just (aSlice E.T 36 (fget φ 36) (some (fget φ 37)) none none)) := nrfl rfl
theorem s140_11_3 : stepA E C B 42 r140_11 o140_11_3 (φ, H) = stp none φ H (aBuiltin E.T (B + 0) .clear #[36] [(fget φ 38)]) := nrfl rfl
noncomputable def c140_37 : Code := kR c140_35
noncomputable def c140_38 : Code := kL c140_37
noncomputable def r140_12 : Array Oper := kO c140_38
noncomputable def o140_12_0 : Oper := opN r140_12 0
noncomputable def o140_12_1 : Oper := opN r140_12 1
noncomputable def o140_12_2 : Oper := opN r140_12 2
noncomputable def o140_12_3 : Oper := opN r140_12 3
theorem x140_38 : execA E C (fg 140) B 42 E0 N c140_38 s = regX (runA E C B 42 r140_12 r140_12.toList s) (fun s => gcM E0 [0, 5, 39, 40, 41] (forget s.1 [0, 5, 39, 40, 41], s.2)) := x_reg (ops := r140_12) (by rfl) (by rfl) s
theorem r140_12_l : r140_12.toList = [o140_12_0, o140_12_1, o140_12_2, o140_12_3] := nrfl rfl
theorem s140_12_0 : stepA E C B 42 r140_12 o140_12_0 (φ, H) = some (fput φ 39 (fget φ 0), H) := nrfl rfl
theorem s140_12_1 : stepA E C B 42 r140_12 o140_12_1 (φ, H) = some (fput φ 40 (fget φ 5), H) := nrfl rfl
theorem s140_12_2 : stepA E C B 42 r140_12 o140_12_2 (φ, H) = stp (some 41) φ H (just (aSlice E.T 36 (fget φ 39) none (some (fget φ 40)) none)) := nrfl rfl
theorem s140_12_3 : stepA E C B 42 r140_12 o140_12_3 (φ, H) = some (fput φ 4 (fget φ 41), H) := nrfl rfl
noncomputable def c140_39 : Code := kR c140_37
theorem x140_39 : execA E C (fg 140) B 42 E0 N c140_39 s = some (.ret, s) := x_ret (by rfl) s
theorem x140_37 : execA E C (fg 140) B 42 E0 N c140_37 s = seqX (execA E C (fg 140) B 42 E0 N c140_38 s) (execA E C (fg 140) B 42 E0 N c140_39) := x_seq (by rfl) s
theorem x140_35 : execA E C (fg 140) B 42 E0 N c140_35 s = seqX (execA E C (fg 140) B 42 E0 N c140_36 s) (execA E C (fg 140) B 42 E0 N c140_37) := x_seq (by rfl) s
theorem x140_12 : execA E C (fg 140) B 42 E0 N c140_12 s = seqX (execA E C (fg 140) B 42 E0 N c140_13 s) (execA E C (fg 140) B 42 E0 N c140_35) := x_seq (by rfl) s
theorem x140_4 : execA E C (fg 140) B 42 E0 N c140_4 s = seqX (execA E C (fg 140) B 42 E0 N c140_5 s) (execA E C (fg 140) B 42 E0 N c140_12) := x_seq (by rfl) s
theorem x140_2 : execA E C (fg 140) B 42 E0 N c140_2 s = seqX (execA E C (fg 140) B 42 E0 N c140_3 s) (execA E C (fg 140) B 42 E0 N c140_4) := x_seq (by rfl) s
theorem x140_0 : execA E C (fg 140) B 42 E0 N c140_0 s = seqX (execA E C (fg 140) B 42 E0 N c140_1 s) (execA E C (fg 140) B 42 E0 N c140_2) := x_seq (by rfl) s
theorem fi_140 : fInfo E 140 = some ⟨42, #[.tmp 4], c140_0⟩ := nrfl rfl
theorem b_140 (args : List AV) : bodyA E C fg N 140 args H B = bodyX E [.tmp 4] (execA E C (fg 140) B 42 H N c140_0 (frame0 args 0 [], H)) := bodyA_eq fi_140 args H
noncomputable def c54_0 : Code := kBody Proofs.Tryd.f54
noncomputable def c54_1 : Code := kL c54_0
noncomputable def r54_0 : Array Oper := kO c54_1
noncomputable def o54_0_0 : Oper := opN r54_0 0
theorem x54_1 : execA E C (fg 54) B 19 E0 N c54_1 s = regX (runA E C B 19 r54_0 r54_0.toList s) (fun s => gcM E0 [4] (forget s.1 [4], s.2)) := x_reg (ops := r54_0) (by rfl) (by rfl) s
theorem r54_0_l : r54_0.toList = [o54_0_0] := nrfl rfl
theorem s54_0_0 : stepA E C B 19 r54_0 o54_0_0 (φ, H) = some (fput φ 4 (.int .i64 0), H) := nrfl rfl
noncomputable def c54_2 : Code := kR c54_0
noncomputable def c54_3 : Code := kL c54_2
noncomputable def c54_4 : Code := kL c54_3
noncomputable def r54_1 : Array Oper := kO c54_4
noncomputable def o54_1_0 : Oper := opN r54_1 0
noncomputable def o54_1_1 : Oper := opN r54_1 1
noncomputable def o54_1_2 : Oper := opN r54_1 2
theorem x54_4 : execA E C (fg 54) B 19 E0 N c54_4 s = regX (runA E C B 19 r54_1 r54_1.toList s) (fun s => gcM E0 [6] (forget s.1 [6], s.2)) := x_reg (ops := r54_1) (by rfl) (by rfl) s
theorem r54_1_l : r54_1.toList = [o54_1_0, o54_1_1, o54_1_2] := nrfl rfl
theorem s54_1_0 : stepA E C B 19 r54_1 o54_1_0 (φ, H) = some (fput φ 6 (fget φ 0), H) := nrfl rfl
theorem s54_1_1 : stepA E C B 19 r54_1 o54_1_1 (φ, H) = stp (some 7) φ H (aBuiltin E.T (B + 7) .len #[36] [(fget φ 6)]) := nrfl rfl
theorem s54_1_2 : stepA E C B 19 r54_1 o54_1_2 (φ, H) = some (fput φ 8 (.int .i64 0), H) := nrfl rfl
noncomputable def c54_5 : Code := kR c54_3
noncomputable def c54_6 : Code := kB c54_5
noncomputable def c54_7 : Code := kB c54_6
noncomputable def c54_8 : Code := kL c54_7
noncomputable def r54_2 : Array Oper := kO c54_8
noncomputable def o54_2_0 : Oper := opN r54_2 0
theorem x54_8 : execA E C (fg 54) B 19 E0 N c54_8 s = regX (runA E C B 19 r54_2 r54_2.toList s) (fun s => gcM E0 [] (forget s.1 [], s.2)) := x_reg (ops := r54_2) (by rfl) (by rfl) s
theorem r54_2_l : r54_2.toList = [o54_2_0] := nrfl rfl
theorem s54_2_0 : stepA E C B 19 r54_2 o54_2_0 (φ, H) = stp (some 9) φ H (just (aBin E.T .lss 3 (fget φ 8) (fget φ 7))) := nrfl rfl
noncomputable def c54_9 : Code := kR c54_7
noncomputable def c54_10 : Code := kL c54_9
noncomputable def c54_11 : Code := kT c54_10
theorem x54_11 : execA E C (fg 54) B 19 E0 N c54_11 s = some (.normal, s) := x_skip (by rfl) s
noncomputable def c54_12 : Code := kE c54_10
theorem x54_12 : execA E C (fg 54) B 19 E0 N c54_12 s = some (.exit 0, s) := x_exit (by rfl) s
theorem x54_10 : execA E C (fg 54) B 19 E0 N c54_10 (φ, H) = condX (fget φ 9) (execA E C (fg 54) B 19 E0 N c54_11 (φ, H)) (execA E C (fg 54) B 19 E0 N c54_12 (φ, H)) := x_cond (by rfl) _
noncomputable def c54_13 : Code := kR c54_9
noncomputable def c54_14 : Code := kL c54_13
noncomputable def c54_15 : Code := kB c54_14
noncomputable def c54_16 : Code := kL c54_15
noncomputable def r54_3 : Array Oper := kO c54_16
noncomputable def o54_3_0 : Oper := opN r54_3 0
noncomputable def o54_3_1 : Oper := opN r54_3 1
theorem x54_16 : execA E C (fg 54) B 19 E0 N c54_16 s = regX (runA E C B 19 r54_3 r54_3.toList s) (fun s => gcM E0 [9, 10] (forget s.1 [9, 10], s.2)) := x_reg (ops := r54_3) (by rfl) (by rfl) s
theorem r54_3_l : r54_3.toList = [o54_3_0, o54_3_1] := nrfl rfl
theorem s54_3_0 : stepA E C B 19 r54_3 o54_3_0 (φ, H) = some (fput φ 10 (fget φ 8), H) := nrfl rfl
theorem s54_3_1 : stepA E C B 19 r54_3 o54_3_1 (φ, H) = some (fput φ 5 (fget φ 10), H) := nrfl rfl
noncomputable def c54_17 : Code := kR c54_15
noncomputable def c54_18 : Code := kL c54_17
noncomputable def r54_4 : Array Oper := kO c54_18
noncomputable def o54_4_0 : Oper := opN r54_4 0
noncomputable def o54_4_1 : Oper := opN r54_4 1
noncomputable def o54_4_2 : Oper := opN r54_4 2
noncomputable def o54_4_3 : Oper := opN r54_4 3
noncomputable def o54_4_4 : Oper := opN r54_4 4
noncomputable def o54_4_5 : Oper := opN r54_4 5
theorem x54_18 : execA E C (fg 54) B 19 E0 N c54_18 s = regX (runA E C B 19 r54_4 r54_4.toList s) (fun s => gcM E0 [11, 12, 13, 14, 15] (forget s.1 [11, 12, 13, 14, 15], s.2)) := x_reg (ops := r54_4) (by rfl) (by rfl) s
theorem r54_4_l : r54_4.toList = [o54_4_0, o54_4_1, o54_4_2, o54_4_3, o54_4_4, o54_4_5] := nrfl rfl
theorem s54_4_0 : stepA E C B 19 r54_4 o54_4_0 (φ, H) = some (fput φ 11 (fget φ 1), H) := nrfl rfl
theorem s54_4_1 : stepA E C B 19 r54_4 o54_4_1 (φ, H) = some (fput φ 12 (fget φ 0), H) := nrfl rfl
theorem s54_4_2 : stepA E C B 19 r54_4 o54_4_2 (φ, H) = some (fput φ 13 (fget φ 5), H) := nrfl rfl
theorem s54_4_3 : stepA E C B 19 r54_4 o54_4_3 (φ, H) = stp (some 14) φ H (just (aIndexAddr E.T 36 (fget φ 12) (fget φ 13))) := nrfl rfl
theorem s54_4_4 : stepA E C B 19 r54_4 o54_4_4 (φ, H) = stp (some 15) φ H (just (aLoad E.T 3 (fget φ 14))) := nrfl rfl
theorem s54_4_5 : stepA E C B 19 r54_4 o54_4_5 (φ, H) = callV E C (B + 19 * 8) (some 16) (fun j => B + j * 19 + 16) φ H (fget φ 11) [(fget φ 15)] true := nrfl rfl
noncomputable def c54_19 : Code := kR c54_17
noncomputable def c54_20 : Code := kT c54_19
noncomputable def c54_21 : Code := kL c54_20
noncomputable def r54_5 : Array Oper := kO c54_21
noncomputable def o54_5_0 : Oper := opN r54_5 0
noncomputable def o54_5_1 : Oper := opN r54_5 1
theorem x54_21 : execA E C (fg 54) B 19 E0 N c54_21 s = regX (runA E C B 19 r54_5 r54_5.toList s) (fun s => gcM E0 [0, 1, 5, 7, 8, 16, 17] (forget s.1 [0, 1, 5, 7, 8, 16, 17], s.2)) := x_reg (ops := r54_5) (by rfl) (by rfl) s
theorem r54_5_l : r54_5.toList = [o54_5_0, o54_5_1] := nrfl rfl
theorem s54_5_0 : stepA E C B 19 r54_5 o54_5_0 (φ, H) = some (fput φ 17 (fget φ 5), H) := nrfl rfl
theorem s54_5_1 : stepA E C B 19 r54_5 o54_5_1 (φ, H) = some (fput φ 4 (fget φ 17), H) := nrfl rfl
noncomputable def c54_22 : Code := kR c54_20
theorem x54_22 : execA E C (fg 54) B 19 E0 N c54_22 s = some (.ret, s) := x_ret (by rfl) s
theorem x54_20 : execA E C (fg 54) B 19 E0 N c54_20 s = seqX (execA E C (fg 54) B 19 E0 N c54_21 s) (execA E C (fg 54) B 19 E0 N c54_22) := x_seq (by rfl) s
noncomputable def c54_23 : Code := kE c54_19
theorem x54_23 : execA E C (fg 54) B 19 E0 N c54_23 s = some (.normal, s) := x_skip (by rfl) s
theorem x54_19 : execA E C (fg 54) B 19 E0 N c54_19 (φ, H) = condX (fget φ 16) (execA E C (fg 54) B 19 E0 N c54_20 (φ, H)) (execA E C (fg 54) B 19 E0 N c54_23 (φ, H)) := x_cond (by rfl) _
theorem x54_17 : execA E C (fg 54) B 19 E0 N c54_17 s = seqX (execA E C (fg 54) B 19 E0 N c54_18 s) (execA E C (fg 54) B 19 E0 N c54_19) := x_seq (by rfl) s
theorem x54_15 : execA E C (fg 54) B 19 E0 N c54_15 s = seqX (execA E C (fg 54) B 19 E0 N c54_16 s) (execA E C (fg 54) B 19 E0 N c54_17) := x_seq (by rfl) s
theorem x54_14 : execA E C (fg 54) B 19 E0 N c54_14 s = blockX 1 (fun s => (forget s.1 [5, 16], s.2)) (execA E C (fg 54) B 19 E0 N c54_15 s) := x_block (by rfl) (by rfl) s
noncomputable def c54_24 : Code := kR c54_13
noncomputable def r54_6 : Array Oper := kO c54_24
noncomputable def o54_6_0 : Oper := opN r54_6 0
noncomputable def o54_6_1 : Oper := opN r54_6 1
theorem x54_24 : execA E C (fg 54) B 19 E0 N c54_24 s = regX (runA E C B 19 r54_6 r54_6.toList s) (fun s => gcM E0 [18] (forget s.1 [18], s.2)) := x_reg (ops := r54_6) (by rfl) (by rfl) s
theorem r54_6_l : r54_6.toList = [o54_6_0, o54_6_1] := nrfl rfl
theorem s54_6_0 : stepA E C B 19 r54_6 o54_6_0 (φ, H) = stp (some 18) φ H (just (aBin E.T .add 3 (fget φ 8) (.int .i64 1))) := nrfl rfl
theorem s54_6_1 : stepA E C B 19 r54_6 o54_6_1 (φ, H) = some (fput φ 8 (fget φ 18), H) := nrfl rfl
theorem x54_13 : execA E C (fg 54) B 19 E0 N c54_13 s = seqX (execA E C (fg 54) B 19 E0 N c54_14 s) (execA E C (fg 54) B 19 E0 N c54_24) := x_seq (by rfl) s
theorem x54_9 : execA E C (fg 54) B 19 E0 N c54_9 s = seqX (execA E C (fg 54) B 19 E0 N c54_10 s) (execA E C (fg 54) B 19 E0 N c54_13) := x_seq (by rfl) s
theorem x54_7 : execA E C (fg 54) B 19 E0 N c54_7 s = seqX (execA E C (fg 54) B 19 E0 N c54_8 s) (execA E C (fg 54) B 19 E0 N c54_9) := x_seq (by rfl) s
theorem x54_6 : execA E C (fg 54) B 19 E0 N c54_6 s = iterA (execA E C (fg 54) B 19 E0 N c54_7) (headA E0) N s := x_loop (by rfl) s
theorem x54_5 : execA E C (fg 54) B 19 E0 N c54_5 s = blockX 0 (fun s => (forget s.1 [0, 1, 7, 8, 9], s.2)) (execA E C (fg 54) B 19 E0 N c54_6 s) := x_block (by rfl) (by rfl) s
theorem x54_3 : execA E C (fg 54) B 19 E0 N c54_3 s = seqX (execA E C (fg 54) B 19 E0 N c54_4 s) (execA E C (fg 54) B 19 E0 N c54_5) := x_seq (by rfl) s
noncomputable def c54_25 : Code := kR c54_2
noncomputable def c54_26 : Code := kL c54_25
noncomputable def r54_7 : Array Oper := kO c54_26
noncomputable def o54_7_0 : Oper := opN r54_7 0
theorem x54_26 : execA E C (fg 54) B 19 E0 N c54_26 s = regX (runA E C B 19 r54_7 r54_7.toList s) (fun s => gcM E0 [] (forget s.1 [], s.2)) := x_reg (ops := r54_7) (by rfl) (by rfl) s
theorem r54_7_l : r54_7.toList = [o54_7_0] := nrfl rfl
theorem s54_7_0 : stepA E C B 19 r54_7 o54_7_0 (φ, H) = some (fput φ 4 (.int .i64 (-1)), H) := nrfl rfl
noncomputable def c54_27 : Code := kR c54_25
theorem x54_27 : execA E C (fg 54) B 19 E0 N c54_27 s = some (.ret, s) := x_ret (by rfl) s
theorem x54_25 : execA E C (fg 54) B 19 E0 N c54_25 s = seqX (execA E C (fg 54) B 19 E0 N c54_26 s) (execA E C (fg 54) B 19 E0 N c54_27) := x_seq (by rfl) s
theorem x54_2 : execA E C (fg 54) B 19 E0 N c54_2 s = seqX (execA E C (fg 54) B 19 E0 N c54_3 s) (execA E C (fg 54) B 19 E0 N c54_25) := x_seq (by rfl) s
theorem x54_0 : execA E C (fg 54) B 19 E0 N c54_0 s = seqX (execA E C (fg 54) B 19 E0 N c54_1 s) (execA E C (fg 54) B 19 E0 N c54_2) := x_seq (by rfl) s
theorem fi_54 : fInfo E 54 = some ⟨19, #[.tmp 4], c54_0⟩ := nrfl rfl
theorem b_54 (args : List AV) : bodyA E C fg N 54 args H B = bodyX E [.tmp 4] (execA E C (fg 54) B 19 H N c54_0 (frame0 args 0 [], H)) := bodyA_eq fi_54 args H
noncomputable def c79_0 : Code := kBody Proofs.Tryd.f79
noncomputable def c79_1 : Code := kL c79_0
noncomputable def r79_0 : Array Oper := kO c79_1
noncomputable def o79_0_0 : Oper := opN r79_0 0
noncomputable def o79_0_1 : Oper := opN r79_0 1
theorem x79_1 : execA E C (fg 79) B 9 E0 N c79_1 s = regX (runA E C B 9 r79_0 r79_0.toList s) (fun s => gcM E0 [1, 4] (forget s.1 [1, 4], s.2)) := x_reg (ops := r79_0) (by rfl) (by rfl) s
theorem r79_0_l : r79_0.toList = [o79_0_0, o79_0_1] := nrfl rfl
theorem s79_0_0 : stepA E C B 9 r79_0 o79_0_0 (φ, H) = stp (some 3) φ H (opBox (B + 3) (acells (fget φ 1))) := nrfl rfl
theorem s79_0_1 : stepA E C B 9 r79_0 o79_0_1 (φ, H) = some (fput φ 4 (.bool false), H) := nrfl rfl
noncomputable def c79_2 : Code := kR c79_0
noncomputable def c79_3 : Code := kL c79_2
noncomputable def r79_1 : Array Oper := kO c79_3
noncomputable def o79_1_0 : Oper := opN r79_1 0
noncomputable def o79_1_1 : Oper := opN r79_1 1
noncomputable def o79_1_2 : Oper := opN r79_1 2
noncomputable def o79_1_3 : Oper := opN r79_1 3
noncomputable def o79_1_4 : Oper := opN r79_1 4
theorem x79_3 : execA E C (fg 79) B 9 E0 N c79_3 s = regX (runA E C B 9 r79_1 r79_1.toList s) (fun s => gcM E0 [0, 3, 5, 6, 7, 8] (forget s.1 [0, 3, 5, 6, 7, 8], s.2)) := x_reg (ops := r79_1) (by rfl) (by rfl) s
theorem r79_1_l : r79_1.toList = [o79_1_0, o79_1_1, o79_1_2, o79_1_3, o79_1_4] := nrfl rfl
theorem s79_1_0 : stepA E C B 9 r79_1 o79_1_0 (φ, H) = some (fput φ 5 (fget φ 0), H) := nrfl rfl
theorem s79_1_1 : stepA E C B 9 r79_1 o79_1_1 (φ, H) = stp (some 6) φ H (just (aLoad E.T 64 (fget φ 3))) := nrfl rfl
theorem s79_1_2 : stepA E C B 9 r79_1 o79_1_2 (φ, H) = stp (some 7) φ H (aCall C (fun j => B + j * 9 + 7) true 123 [(fget φ 5), (fget φ 6)]) := nrfl rfl
theorem s79_1_3 : stepA E C B 9 r79_1 o79_1_3 (φ, H) = stp (some 8) φ H (just (aBin E.T .geq 3 (fget φ 7) (.int .i64 0))) := nrfl rfl
theorem s79_1_4 : stepA E C B 9 r79_1 o79_1_4 (φ, H) = some (fput φ 4 (fget φ 8), H) := nrfl rfl
noncomputable def c79_4 : Code := kR c79_2
theorem x79_4 : execA E C (fg 79) B 9 E0 N c79_4 s = some (.ret, s) := x_ret (by rfl) s
theorem x79_2 : execA E C (fg 79) B 9 E0 N c79_2 s = seqX (execA E C (fg 79) B 9 E0 N c79_3 s) (execA E C (fg 79) B 9 E0 N c79_4) := x_seq (by rfl) s
theorem x79_0 : execA E C (fg 79) B 9 E0 N c79_0 s = seqX (execA E C (fg 79) B 9 E0 N c79_1 s) (execA E C (fg 79) B 9 E0 N c79_2) := x_seq (by rfl) s
theorem fi_79 : fInfo E 79 = some ⟨9, #[.tmp 4], c79_0⟩ := nrfl rfl
theorem b_79 (args : List AV) : bodyA E C fg N 79 args H B = bodyX E [.tmp 4] (execA E C (fg 79) B 9 H N c79_0 (frame0 args 0 [], H)) := bodyA_eq fi_79 args H
noncomputable def c123_0 : Code := kBody Proofs.Tryd.f123
noncomputable def c123_1 : Code := kL c123_0
noncomputable def r123_0 : Array Oper := kO c123_1
noncomputable def o123_0_0 : Oper := opN r123_0 0
noncomputable def o123_0_1 : Oper := opN r123_0 1
theorem x123_1 : execA E C (fg 123) B 19 E0 N c123_1 s = regX (runA E C B 19 r123_0 r123_0.toList s) (fun s => gcM E0 [1, 4] (forget s.1 [1, 4], s.2)) := x_reg (ops := r123_0) (by rfl) (by rfl) s
theorem r123_0_l : r123_0.toList = [o123_0_0, o123_0_1] := nrfl rfl
theorem s123_0_0 : stepA E C B 19 r123_0 o123_0_0 (φ, H) = stp (some 3) φ H (opBox (B + 3) (acells (fget φ 1))) := nrfl rfl
theorem s123_0_1 : stepA E C B 19 r123_0 o123_0_1 (φ, H) = some (fput φ 4 (.int .i64 0), H) := nrfl rfl
noncomputable def c123_2 : Code := kR c123_0
noncomputable def c123_3 : Code := kL c123_2
noncomputable def c123_4 : Code := kL c123_3
noncomputable def r123_1 : Array Oper := kO c123_4
noncomputable def o123_1_0 : Oper := opN r123_1 0
noncomputable def o123_1_1 : Oper := opN r123_1 1
noncomputable def o123_1_2 : Oper := opN r123_1 2
theorem x123_4 : execA E C (fg 123) B 19 E0 N c123_4 s = regX (runA E C B 19 r123_1 r123_1.toList s) (fun s => gcM E0 [6] (forget s.1 [6], s.2)) := x_reg (ops := r123_1) (by rfl) (by rfl) s
theorem r123_1_l : r123_1.toList = [o123_1_0, o123_1_1, o123_1_2] := nrfl rfl
theorem s123_1_0 : stepA E C B 19 r123_1 o123_1_0 (φ, H) = some (fput φ 6 (fget φ 0), H) := nrfl rfl
theorem s123_1_1 : stepA E C B 19 r123_1 o123_1_1 (φ, H) = stp (some 7) φ H (aBuiltin E.T (B + 7) .len #[23] [(fget φ 6)]) := nrfl rfl
theorem s123_1_2 : stepA E C B 19 r123_1 o123_1_2 (φ, H) = some (fput φ 8 (.int .i64 0), H) := nrfl rfl
noncomputable def c123_5 : Code := kR c123_3
noncomputable def c123_6 : Code := kB c123_5
noncomputable def c123_7 : Code := kB c123_6
noncomputable def c123_8 : Code := kL c123_7
noncomputable def r123_2 : Array Oper := kO c123_8
noncomputable def o123_2_0 : Oper := opN r123_2 0
theorem x123_8 : execA E C (fg 123) B 19 E0 N c123_8 s = regX (runA E C B 19 r123_2 r123_2.toList s) (fun s => gcM E0 [] (forget s.1 [], s.2)) := x_reg (ops := r123_2) (by rfl) (by rfl) s
theorem r123_2_l : r123_2.toList = [o123_2_0] := nrfl rfl
theorem s123_2_0 : stepA E C B 19 r123_2 o123_2_0 (φ, H) = stp (some 9) φ H (just (aBin E.T .lss 3 (fget φ 8) (fget φ 7))) := nrfl rfl
noncomputable def c123_9 : Code := kR c123_7
noncomputable def c123_10 : Code := kL c123_9
noncomputable def c123_11 : Code := kT c123_10
theorem x123_11 : execA E C (fg 123) B 19 E0 N c123_11 s = some (.normal, s) := x_skip (by rfl) s
noncomputable def c123_12 : Code := kE c123_10
theorem x123_12 : execA E C (fg 123) B 19 E0 N c123_12 s = some (.exit 0, s) := x_exit (by rfl) s
theorem x123_10 : execA E C (fg 123) B 19 E0 N c123_10 (φ, H) = condX (fget φ 9) (execA E C (fg 123) B 19 E0 N c123_11 (φ, H)) (execA E C (fg 123) B 19 E0 N c123_12 (φ, H)) := x_cond (by rfl) _
noncomputable def c123_13 : Code := kR c123_9
noncomputable def c123_14 : Code := kL c123_13
noncomputable def c123_15 : Code := kB c123_14
noncomputable def c123_16 : Code := kL c123_15
noncomputable def r123_3 : Array Oper := kO c123_16
noncomputable def o123_3_0 : Oper := opN r123_3 0
noncomputable def o123_3_1 : Oper := opN r123_3 1
theorem x123_16 : execA E C (fg 123) B 19 E0 N c123_16 s = regX (runA E C B 19 r123_3 r123_3.toList s) (fun s => gcM E0 [9, 10] (forget s.1 [9, 10], s.2)) := x_reg (ops := r123_3) (by rfl) (by rfl) s
theorem r123_3_l : r123_3.toList = [o123_3_0, o123_3_1] := nrfl rfl
theorem s123_3_0 : stepA E C B 19 r123_3 o123_3_0 (φ, H) = some (fput φ 10 (fget φ 8), H) := nrfl rfl
theorem s123_3_1 : stepA E C B 19 r123_3 o123_3_1 (φ, H) = some (fput φ 5 (fget φ 10), H) := nrfl rfl
noncomputable def c123_17 : Code := kR c123_15
noncomputable def c123_18 : Code := kL c123_17
noncomputable def r123_4 : Array Oper := kO c123_18
noncomputable def o123_4_0 : Oper := opN r123_4 0
noncomputable def o123_4_1 : Oper := opN r123_4 1
noncomputable def o123_4_2 : Oper := opN r123_4 2
noncomputable def o123_4_3 : Oper := opN r123_4 3
noncomputable def o123_4_4 : Oper := opN r123_4 4
noncomputable def o123_4_5 : Oper := opN r123_4 5
theorem x123_18 : execA E C (fg 123) B 19 E0 N c123_18 s = regX (drawA E C B 19 r123_4 s) (fun s => gcM E0 [11, 12, 13, 14, 15] (forget s.1 [11, 12, 13, 14, 15], s.2)) := x_draw (ops := r123_4) (by rfl) (by rfl) s
theorem r123_4_l : r123_4.toList = [o123_4_0, o123_4_1, o123_4_2, o123_4_3, o123_4_4, o123_4_5] := nrfl rfl
theorem r123_4_st : statOk r123_4 = true := by kernel_rfl
theorem r123_4_dr : drawA E C B 19 r123_4 s = if neat 19 s = true then drX r123_4 (runT E C B 19 r123_4 r123_4.toList 0 s) else none := draw_eq r123_4_st s
theorem r123_4_an (l : List (Nat × Tr)) : dynOk r123_4 l = (!writing l || dynPairs [[], [], [], [1, 2], [1, 2, 3], [0, 1, 2, 3, 4]] (touching l)) := dynOk_eq (by kernel_rfl) l
theorem s123_4_0 : stepT E C B 19 r123_4 o123_4_0 (φ, H) = stpT (some 11) φ H (just (aLoad E.T 64 (fget φ 3))) := stT_go rfl (goT_R rfl rfl)
theorem s123_4_1 : stepT E C B 19 r123_4 o123_4_1 (φ, H) = some ((fput φ 12 (fget φ 0), H), ⟨false, [], []⟩) := stT_go rfl (goT_mv rfl rfl)
theorem s123_4_2 : stepT E C B 19 r123_4 o123_4_2 (φ, H) = some ((fput φ 13 (fget φ 5), H), ⟨false, [], []⟩) := stT_go rfl (goT_mv rfl rfl)
theorem s123_4_3 : stepT E C B 19 r123_4 o123_4_3 (φ, H) = stpT (some 14) φ H (just (aIndexAddr E.T 23 (fget φ 12) (fget φ 13))) := stT_go rfl (goT_R rfl rfl)
theorem s123_4_4 : stepT E C B 19 r123_4 o123_4_4 (φ, H) = stpT (some 15) φ H (just (aLoad E.T 64 (fget φ 14))) := stT_go rfl (goT_R rfl rfl)
theorem s123_4_5 : stepT E C B 19 r123_4 o123_4_5 (φ, H) = stpT (some 16) φ H (just (aBin E.T .eql 64 (fget φ 11) (fget φ 15))) := stT_go rfl (goT_R rfl rfl)
noncomputable def c123_19 : Code := kR c123_17
noncomputable def c123_20 : Code := kT c123_19
noncomputable def c123_21 : Code := kL c123_20
noncomputable def r123_5 : Array Oper := kO c123_21
noncomputable def o123_5_0 : Oper := opN r123_5 0
noncomputable def o123_5_1 : Oper := opN r123_5 1
theorem x123_21 : execA E C (fg 123) B 19 E0 N c123_21 s = regX (runA E C B 19 r123_5 r123_5.toList s) (fun s => gcM E0 [0, 3, 5, 7, 8, 16, 17] (forget s.1 [0, 3, 5, 7, 8, 16, 17], s.2)) := x_reg (ops := r123_5) (by rfl) (by rfl) s
theorem r123_5_l : r123_5.toList = [o123_5_0, o123_5_1] := nrfl rfl
theorem s123_5_0 : stepA E C B 19 r123_5 o123_5_0 (φ, H) = some (fput φ 17 (fget φ 5), H) := nrfl rfl
theorem s123_5_1 : stepA E C B 19 r123_5 o123_5_1 (φ, H) = some (fput φ 4 (fget φ 17), H) := nrfl rfl
noncomputable def c123_22 : Code := kR c123_20
theorem x123_22 : execA E C (fg 123) B 19 E0 N c123_22 s = some (.ret, s) := x_ret (by rfl) s
theorem x123_20 : execA E C (fg 123) B 19 E0 N c123_20 s = seqX (execA E C (fg 123) B 19 E0 N c123_21 s) (execA E C (fg 123) B 19 E0 N c123_22) := x_seq (by rfl) s
noncomputable def c123_23 : Code := kE c123_19
theorem x123_23 : execA E C (fg 123) B 19 E0 N c123_23 s = some (.normal, s) := x_skip (by rfl) s
theorem x123_19 : execA E C (fg 123) B 19 E0 N c123_19 (φ, H) = condX (fget φ 16) (execA E C (fg 123) B 19 E0 N c123_20 (φ, H)) (execA E C (fg 123) B 19 E0 N c123_23 (φ, H)) := x_cond (by rfl) _
theorem x123_17 : execA E C (fg 123) B 19 E0 N c123_17 s = seqX (execA E C (fg 123) B 19 E0 N c123_18 s) (execA E C (fg 123) B 19 E0 N c123_19) := x_seq (by rfl) s
theorem x123_15 : execA E C (fg 123) B 19 E0 N c123_15 s = seqX (execA E C (fg 123) B 19 E0 N c123_16 s) (execA E C (fg 123) B 19 E0 N c123_17) := x_seq (by rfl) s
theorem x123_14 : execA E C (fg 123) B 19 E0 N c123_14 s = blockX 1 (fun s => (forget s.1 [5, 16], s.2)) (execA E C (fg 123) B 19 E0 N c123_15 s) := x_block (by rfl) (by rfl) s
noncomputable def c123_24 : Code := kR c123_13
noncomputable def r123_6 : Array Oper := kO c123_24
noncomputable def o123_6_0 : Oper := opN r123_6 0
noncomputable def o123_6_1 : Oper := opN r123_6 1
theorem x123_24 : execA E C (fg 123) B 19 E0 N c123_24 s = regX (runA E C B 19 r123_6 r123_6.toList s) (fun s => gcM E0 [18] (forget s.1 [18], s.2)) := x_reg (ops := r123_6) (by rfl) (by rfl) s
theorem r123_6_l : r123_6.toList = [o123_6_0, o123_6_1] := nrfl rfl
theorem s123_6_0 : stepA E C B 19 r123_6 o123_6_0 (φ, H) = stp (some 18) φ H (just (aBin E.T .add 3 (fget φ 8) (.int .i64 1))) := nrfl rfl
theorem s123_6_1 : stepA E C B 19 r123_6 o123_6_1 (φ, H) = some (fput φ 8 (fget φ 18), H) := nrfl rfl
theorem x123_13 : execA E C (fg 123) B 19 E0 N c123_13 s = seqX (execA E C (fg 123) B 19 E0 N c123_14 s) (execA E C (fg 123) B 19 E0 N c123_24) := x_seq (by rfl) s
theorem x123_9 : execA E C (fg 123) B 19 E0 N c123_9 s = seqX (execA E C (fg 123) B 19 E0 N c123_10 s) (execA E C (fg 123) B 19 E0 N c123_13) := x_seq (by rfl) s
theorem x123_7 : execA E C (fg 123) B 19 E0 N c123_7 s = seqX (execA E C (fg 123) B 19 E0 N c123_8 s) (execA E C (fg 123) B 19 E0 N c123_9) := x_seq (by rfl) s
theorem x123_6 : execA E C (fg 123) B 19 E0 N c123_6 s = iterA (execA E C (fg 123) B 19 E0 N c123_7) (headA E0) N s := x_loop (by rfl) s
theorem x123_5 : execA E C (fg 123) B 19 E0 N c123_5 s = blockX 0 (fun s => (forget s.1 [0, 3, 7, 8, 9], s.2)) (execA E C (fg 123) B 19 E0 N c123_6 s) := x_block (by rfl) (by rfl) s
theorem x123_3 : execA E C (fg 123) B 19 E0 N c123_3 s = seqX (execA E C (fg 123) B 19 E0 N c123_4 s) (execA E C (fg 123) B 19 E0 N c123_5) := x_seq (by rfl) s
noncomputable def c123_25 : Code := kR c123_2
noncomputable def c123_26 : Code := kL c123_25
noncomputable def r123_7 : Array Oper := kO c123_26
noncomputable def o123_7_0 : Oper := opN r123_7 0
theorem x123_26 : execA E C (fg 123) B 19 E0 N c123_26 s = regX (runA E C B 19 r123_7 r123_7.toList s) (fun s => gcM E0 [] (forget s.1 [], s.2)) := x_reg (ops := r123_7) (by rfl) (by rfl) s
theorem r123_7_l : r123_7.toList = [o123_7_0] := nrfl rfl
theorem s123_7_0 : stepA E C B 19 r123_7 o123_7_0 (φ, H) = some (fput φ 4 (.int .i64 (-1)), H) := nrfl rfl
noncomputable def c123_27 : Code := kR c123_25
theorem x123_27 : execA E C (fg 123) B 19 E0 N c123_27 s = some (.ret, s) := x_ret (by rfl) s
theorem x123_25 : execA E C (fg 123) B 19 E0 N c123_25 s = seqX (execA E C (fg 123) B 19 E0 N c123_26 s) (execA E C (fg 123) B 19 E0 N c123_27) := x_seq (by rfl) s
theorem x123_2 : execA E C (fg 123) B 19 E0 N c123_2 s = seqX (execA E C (fg 123) B 19 E0 N c123_3 s) (execA E C (fg 123) B 19 E0 N c123_25) := x_seq (by rfl) s
theorem x123_0 : execA E C (fg 123) B 19 E0 N c123_0 s = seqX (execA E C (fg 123) B 19 E0 N c123_1 s) (execA E C (fg 123) B 19 E0 N c123_2) := x_seq (by rfl) s
theorem fi_123 : fInfo E 123 = some ⟨19, #[.tmp 4], c123_0⟩ := nrfl rfl
theorem b_123 (args : List AV) : bodyA E C fg N 123 args H B = bodyX E [.tmp 4] (execA E C (fg 123) B 19 H N c123_0 (frame0 args 0 [], H)) := bodyA_eq fi_123 args H
noncomputable def c130_0 : Code := kBody Proofs.Tryd.f130
noncomputable def c130_1 : Code := kL c130_0
noncomputable def r130_0 : Array Oper := kO c130_1
noncomputable def o130_0_0 : Oper := opN r130_0 0
theorem x130_1 : execA E C (fg 130) B 33 E0 N c130_1 s = regX (runA E C B 33 r130_0 r130_0.toList s) (fun s => gcM E0 [4] (forget s.1 [4], s.2)) := x_reg (ops := r130_0) (by rfl) (by rfl) s
theorem r130_0_l : r130_0.toList = [o130_0_0] := nrfl rfl
theorem s130_0_0 : stepA E C B 33 r130_0 o130_0_0 (φ, H) = some (fput φ 4 (.int .i64 0), H) := nrfl rfl
noncomputable def c130_2 : Code := kR c130_0
noncomputable def c130_3 : Code := kL c130_2
noncomputable def c130_4 : Code := kL c130_3
noncomputable def r130_1 : Array Oper := kO c130_4
noncomputable def o130_1_0 : Oper := opN r130_1 0
noncomputable def o130_1_1 : Oper := opN r130_1 1
noncomputable def o130_1_2 : Oper := opN r130_1 2
theorem x130_4 : execA E C (fg 130) B 33 E0 N c130_4 s = regX (runA E C B 33 r130_1 r130_1.toList s) (fun s => gcM E0 [7, 8] (forget s.1 [7, 8], s.2)) := x_reg (ops := r130_1) (by rfl) (by rfl) s
theorem r130_1_l : r130_1.toList = [o130_1_0, o130_1_1, o130_1_2] := nrfl rfl
theorem s130_1_0 : stepA E C B 33 r130_1 o130_1_0 (φ, H) = some (fput φ 7 (fget φ 0), H) := nrfl rfl
theorem s130_1_1 : stepA E C B 33 r130_1 o130_1_1 (φ, H) = stp (some 8) φ H (aBuiltin E.T (B + 8) .len #[36] [(fget φ 7)]) := nrfl rfl
theorem s130_1_2 : stepA E C B 33 r130_1 o130_1_2 (φ, H) = stp (some 9) φ H (just (aBin E.T .lss 3 (fget φ 8) (.int .i64 1))) := nrfl rfl
noncomputable def c130_5 : Code := kR c130_3
noncomputable def c130_6 : Code := kT c130_5
noncomputable def c130_7 : Code := kE c130_5
theorem x130_7 : execA E C (fg 130) B 33 E0 N c130_7 s = some (.normal, s) := x_skip (by rfl) s
theorem x130_5 : execA E C (fg 130) B 33 E0 N c130_5 (φ, H) = condX (fget φ 9) (execA E C (fg 130) B 33 E0 N c130_6 (φ, H)) (execA E C (fg 130) B 33 E0 N c130_7 (φ, H)) := x_cond (by rfl) _
theorem x130_3 : execA E C (fg 130) B 33 E0 N c130_3 s = seqX (execA E C (fg 130) B 33 E0 N c130_4 s) (execA E C (fg 130) B 33 E0 N c130_5) := x_seq (by rfl) s
noncomputable def c130_8 : Code := kR c130_2
noncomputable def c130_9 : Code := kL c130_8
noncomputable def r130_3 : Array Oper := kO c130_9
noncomputable def o130_3_0 : Oper := opN r130_3 0
noncomputable def o130_3_1 : Oper := opN r130_3 1
noncomputable def o130_3_2 : Oper := opN r130_3 2
noncomputable def o130_3_3 : Oper := opN r130_3 3
theorem x130_9 : execA E C (fg 130) B 33 E0 N c130_9 s = regX (runA E C B 33 r130_3 r130_3.toList s) (fun s => gcM E0 [9, 11, 12, 13] (forget s.1 [9, 11, 12, 13], s.2)) := x_reg (ops := r130_3) (by rfl) (by rfl) s
theorem r130_3_l : r130_3.toList = [o130_3_0, o130_3_1, o130_3_2, o130_3_3] := nrfl rfl
theorem s130_3_0 : stepA E C B 33 r130_3 o130_3_0 (φ, H) = some (fput φ 11 (fget φ 0), H) := nrfl rfl
theorem s130_3_1 : stepA E C B 33 r130_3 o130_3_1 (φ, H) = stp (some 12) φ H (just (aIndexAddr E.T 36 (fget φ 11) (.int .i64 0))) := nrfl rfl
theorem s130_3_2 : stepA E C B 33 r130_3 o130_3_2 (φ, H) = stp (some 13) φ H (just (aLoad E.T 3 (fget φ 12))) := nrfl rfl
theorem s130_3_3 : stepA E C B 33 r130_3 o130_3_3 (φ, H) = some (fput φ 5 (fget φ 13), H) := nrfl rfl
noncomputable def c130_10 : Code := kR c130_8
noncomputable def c130_11 : Code := kL c130_10
noncomputable def c130_12 : Code := kL c130_11
noncomputable def r130_4 : Array Oper := kO c130_12
noncomputable def o130_4_0 : Oper := opN r130_4 0
theorem x130_12 : execA E C (fg 130) B 33 E0 N c130_12 s = regX (runA E C B 33 r130_4 r130_4.toList s) (fun s => gcM E0 [] (forget s.1 [], s.2)) := x_reg (ops := r130_4) (by rfl) (by rfl) s
theorem r130_4_l : r130_4.toList = [o130_4_0] := nrfl rfl
theorem s130_4_0 : stepA E C B 33 r130_4 o130_4_0 (φ, H) = some (fput φ 6 (.int .i64 1), H) := nrfl rfl
noncomputable def c130_13 : Code := kR c130_11
noncomputable def c130_14 : Code := kB c130_13
noncomputable def c130_15 : Code := kB c130_14
noncomputable def c130_16 : Code := kL c130_15
noncomputable def c130_17 : Code := kL c130_16
noncomputable def r130_5 : Array Oper := kO c130_17
noncomputable def o130_5_0 : Oper := opN r130_5 0
noncomputable def o130_5_1 : Oper := opN r130_5 1
noncomputable def o130_5_2 : Oper := opN r130_5 2
noncomputable def o130_5_3 : Oper := opN r130_5 3
theorem x130_17 : execA E C (fg 130) B 33 E0 N c130_17 s = regX (runA E C B 33 r130_5 r130_5.toList s) (fun s => gcM E0 [14, 15, 16] (forget s.1 [14, 15, 16], s.2)) := x_reg (ops := r130_5) (by rfl) (by rfl) s
theorem r130_5_l : r130_5.toList = [o130_5_0, o130_5_1, o130_5_2, o130_5_3] := nrfl rfl
theorem s130_5_0 : stepA E C B 33 r130_5 o130_5_0 (φ, H) = some (fput φ 14 (fget φ 6), H) := nrfl rfl
theorem s130_5_1 : stepA E C B 33 r130_5 o130_5_1 (φ, H) = some (fput φ 15 (fget φ 0), H) := nrfl rfl
theorem s130_5_2 : stepA E C B 33 r130_5 o130_5_2 (φ, H) = stp (some 16) φ H (aBuiltin E.T (B + 16) .len #[36] [(fget φ 15)]) := nrfl rfl
theorem s130_5_3 : stepA E C B 33 r130_5 o130_5_3 (φ, H) = stp (some 17) φ H (just (aBin E.T .lss 3 (fget φ 14) (fget φ 16))) := nrfl rfl
noncomputable def c130_18 : Code := kR c130_16
noncomputable def c130_19 : Code := kT c130_18
theorem x130_19 : execA E C (fg 130) B 33 E0 N c130_19 s = some (.normal, s) := x_skip (by rfl) s
noncomputable def c130_20 : Code := kE c130_18
theorem x130_20 : execA E C (fg 130) B 33 E0 N c130_20 s = some (.exit 0, s) := x_exit (by rfl) s
theorem x130_18 : execA E C (fg 130) B 33 E0 N c130_18 (φ, H) = condX (fget φ 17) (execA E C (fg 130) B 33 E0 N c130_19 (φ, H)) (execA E C (fg 130) B 33 E0 N c130_20 (φ, H)) := x_cond (by rfl) _
theorem x130_16 : execA E C (fg 130) B 33 E0 N c130_16 s = seqX (execA E C (fg 130) B 33 E0 N c130_17 s) (execA E C (fg 130) B 33 E0 N c130_18) := x_seq (by rfl) s
noncomputable def c130_21 : Code := kR c130_15
noncomputable def c130_22 : Code := kL c130_21
noncomputable def c130_23 : Code := kB c130_22
noncomputable def c130_24 : Code := kL c130_23
noncomputable def r130_7 : Array Oper := kO c130_24
noncomputable def o130_7_0 : Oper := opN r130_7 0
noncomputable def o130_7_1 : Oper := opN r130_7 1
noncomputable def o130_7_2 : Oper := opN r130_7 2
noncomputable def o130_7_3 : Oper := opN r130_7 3
noncomputable def o130_7_4 : Oper := opN r130_7 4
noncomputable def o130_7_5 : Oper := opN r130_7 5
noncomputable def o130_7_6 : Oper := opN r130_7 6
noncomputable def o130_7_7 : Oper := opN r130_7 7
theorem x130_24 : execA E C (fg 130) B 33 E0 N c130_24 s = regX (runA E C B 33 r130_7 r130_7.toList s) (fun s => gcM E0 [17, 20, 21, 22, 23, 24, 25, 26] (forget s.1 [17, 20, 21, 22, 23, 24, 25, 26], s.2)) := x_reg (ops := r130_7) (by rfl) (by rfl) s
theorem r130_7_l : r130_7.toList = [o130_7_0, o130_7_1, o130_7_2, o130_7_3, o130_7_4, o130_7_5, o130_7_6, o130_7_7] := nrfl rfl
theorem s130_7_0 : stepA E C B 33 r130_7 o130_7_0 (φ, H) = some (fput φ 20 (fget φ 1), H) := nrfl rfl
theorem s130_7_1 : stepA E C B 33 r130_7 o130_7_1 (φ, H) = some (fput φ 21 (fget φ 0), H) := nrfl rfl
theorem s130_7_2 : stepA E C B 33 r130_7 o130_7_2 (φ, H) = some (fput φ 22 (fget φ 6), H) := nrfl rfl
theorem s130_7_3 : stepA E C B 33 r130_7 o130_7_3 (φ, H) = stp (some 23) φ H (just (aIndexAddr E.T 36 (fget φ 21) (fget φ 22))) := nrfl rfl
theorem s130_7_4 : stepA E C B 33 r130_7 o130_7_4 (φ, H) = stp (some 24) φ H (just (aLoad E.T 3 (fget φ 23))) := nrfl rfl
theorem s130_7_5 : stepA E C B 33 r130_7 o130_7_5 (φ, H) = some (fput φ 25 (fget φ 5), H) := nrfl rfl
theorem s130_7_6 : stepA E C B 33 r130_7 o130_7_6 (φ, H) = callV E C (B + 33 * 8) (some 26) (fun j => B + j * 33 + 26) φ H (fget φ 20) [(fget φ 24), (fget φ 25)] true := nrfl rfl
theorem s130_7_7 : stepA E C B 33 r130_7 o130_7_7 (φ, H) = stp (some 27) φ H (just (aBin E.T .lss 3 (fget φ 26) (.int .i64 0))) := nrfl rfl
noncomputable def c130_25 : Code := kR c130_23
noncomputable def c130_26 : Code := kT c130_25
noncomputable def r130_8 : Array Oper := kO c130_26
noncomputable def o130_8_0 : Oper := opN r130_8 0
noncomputable def o130_8_1 : Oper := opN r130_8 1
noncomputable def o130_8_2 : Oper := opN r130_8 2
noncomputable def o130_8_3 : Oper := opN r130_8 3
noncomputable def o130_8_4 : Oper := opN r130_8 4
theorem x130_26 : execA E C (fg 130) B 33 E0 N c130_26 s = regX (runA E C B 33 r130_8 r130_8.toList s) (fun s => gcM E0 [27, 28, 29, 30, 31] (forget s.1 [27, 28, 29, 30, 31], s.2)) := x_reg (ops := r130_8) (by rfl) (by rfl) s
theorem r130_8_l : r130_8.toList = [o130_8_0, o130_8_1, o130_8_2, o130_8_3, o130_8_4] := nrfl rfl
theorem s130_8_0 : stepA E C B 33 r130_8 o130_8_0 (φ, H) = some (fput φ 28 (fget φ 0), H) := nrfl rfl
theorem s130_8_1 : stepA E C B 33 r130_8 o130_8_1 (φ, H) = some (fput φ 29 (fget φ 6), H) := nrfl rfl
theorem s130_8_2 : stepA E C B 33 r130_8 o130_8_2 (φ, H) = stp (some 30) φ H (just (aIndexAddr E.T 36 (fget φ 28) (fget φ 29))) := nrfl rfl
theorem s130_8_3 : stepA E C B 33 r130_8 o130_8_3 (φ, H) = stp (some 31) φ H (just (aLoad E.T 3 (fget φ 30))) := nrfl rfl
theorem s130_8_4 : stepA E C B 33 r130_8 o130_8_4 (φ, H) = some (fput φ 5 (fget φ 31), H) := nrfl rfl
noncomputable def c130_27 : Code := kE c130_25
theorem x130_27 : execA E C (fg 130) B 33 E0 N c130_27 s = some (.normal, s) := x_skip (by rfl) s
theorem x130_25 : execA E C (fg 130) B 33 E0 N c130_25 (φ, H) = condX (fget φ 27) (execA E C (fg 130) B 33 E0 N c130_26 (φ, H)) (execA E C (fg 130) B 33 E0 N c130_27 (φ, H)) := x_cond (by rfl) _
theorem x130_23 : execA E C (fg 130) B 33 E0 N c130_23 s = seqX (execA E C (fg 130) B 33 E0 N c130_24 s) (execA E C (fg 130) B 33 E0 N c130_25) := x_seq (by rfl) s
theorem x130_22 : execA E C (fg 130) B 33 E0 N c130_22 s = blockX 1 (fun s => (forget s.1 [27], s.2)) (execA E C (fg 130) B 33 E0 N c130_23 s) := x_block (by rfl) (by rfl) s
noncomputable def c130_28 : Code := kR c130_21
noncomputable def r130_6 : Array Oper := kO c130_28
noncomputable def o130_6_0 : Oper := opN r130_6 0
noncomputable def o130_6_1 : Oper := opN r130_6 1
noncomputable def o130_6_2 : Oper := opN r130_6 2
theorem x130_28 : execA E C (fg 130) B 33 E0 N c130_28 s = regX (runA E C B 33 r130_6 r130_6.toList s) (fun s => gcM E0 [18, 19] (forget s.1 [18, 19], s.2)) := x_reg (ops := r130_6) (by rfl) (by rfl) s
theorem r130_6_l : r130_6.toList = [o130_6_0, o130_6_1, o130_6_2] := nrfl rfl
theorem s130_6_0 : stepA E C B 33 r130_6 o130_6_0 (φ, H) = some (fput φ 18 (fget φ 6), H) := nrfl rfl
theorem s130_6_1 : stepA E C B 33 r130_6 o130_6_1 (φ, H) = stp (some 19) φ H (just (aBin E.T .add 3 (fget φ 18) (.int .i64 1))) := nrfl rfl
theorem s130_6_2 : stepA E C B 33 r130_6 o130_6_2 (φ, H) = some (fput φ 6 (fget φ 19), H) := nrfl rfl
theorem x130_21 : execA E C (fg 130) B 33 E0 N c130_21 s = seqX (execA E C (fg 130) B 33 E0 N c130_22 s) (execA E C (fg 130) B 33 E0 N c130_28) := x_seq (by rfl) s
theorem x130_15 : execA E C (fg 130) B 33 E0 N c130_15 s = seqX (execA E C (fg 130) B 33 E0 N c130_16 s) (execA E C (fg 130) B 33 E0 N c130_21) := x_seq (by rfl) s
theorem x130_14 : execA E C (fg 130) B 33 E0 N c130_14 s = iterA (execA E C (fg 130) B 33 E0 N c130_15) (headA E0) N s := x_loop (by rfl) s
theorem x130_13 : execA E C (fg 130) B 33 E0 N c130_13 s = blockX 0 (fun s => (forget s.1 [0, 1, 6, 17], s.2)) (execA E C (fg 130) B 33 E0 N c130_14 s) := x_block (by rfl) (by rfl) s
theorem x130_11 : execA E C (fg 130) B 33 E0 N c130_11 s = seqX (execA E C (fg 130) B 33 E0 N c130_12 s) (execA E C (fg 130) B 33 E0 N c130_13) := x_seq (by rfl) s
noncomputable def c130_29 : Code := kR c130_10
noncomputable def c130_30 : Code := kL c130_29
noncomputable def r130_9 : Array Oper := kO c130_30
noncomputable def o130_9_0 : Oper := opN r130_9 0
noncomputable def o130_9_1 : Oper := opN r130_9 1
theorem x130_30 : execA E C (fg 130) B 33 E0 N c130_30 s = regX (runA E C B 33 r130_9 r130_9.toList s) (fun s => gcM E0 [5, 32] (forget s.1 [5, 32], s.2)) := x_reg (ops := r130_9) (by rfl) (by rfl) s
theorem r130_9_l : r130_9.toList = [o130_9_0, o130_9_1] := nrfl rfl
theorem s130_9_0 : stepA E C B 33 r130_9 o130_9_0 (φ, H) = some (fput φ 32 (fget φ 5), H) := nrfl rfl
theorem s130_9_1 : stepA E C B 33 r130_9 o130_9_1 (φ, H) = some (fput φ 4 (fget φ 32), H) := nrfl rfl
noncomputable def c130_31 : Code := kR c130_29
theorem x130_31 : execA E C (fg 130) B 33 E0 N c130_31 s = some (.ret, s) := x_ret (by rfl) s
theorem x130_29 : execA E C (fg 130) B 33 E0 N c130_29 s = seqX (execA E C (fg 130) B 33 E0 N c130_30 s) (execA E C (fg 130) B 33 E0 N c130_31) := x_seq (by rfl) s
theorem x130_10 : execA E C (fg 130) B 33 E0 N c130_10 s = seqX (execA E C (fg 130) B 33 E0 N c130_11 s) (execA E C (fg 130) B 33 E0 N c130_29) := x_seq (by rfl) s
theorem x130_8 : execA E C (fg 130) B 33 E0 N c130_8 s = seqX (execA E C (fg 130) B 33 E0 N c130_9 s) (execA E C (fg 130) B 33 E0 N c130_10) := x_seq (by rfl) s
theorem x130_2 : execA E C (fg 130) B 33 E0 N c130_2 s = seqX (execA E C (fg 130) B 33 E0 N c130_3 s) (execA E C (fg 130) B 33 E0 N c130_8) := x_seq (by rfl) s
theorem x130_0 : execA E C (fg 130) B 33 E0 N c130_0 s = seqX (execA E C (fg 130) B 33 E0 N c130_1 s) (execA E C (fg 130) B 33 E0 N c130_2) := x_seq (by rfl) s
theorem fi_130 : fInfo E 130 = some ⟨33, #[.tmp 4], c130_0⟩ := nrfl rfl
theorem b_130 (args : List AV) : bodyA E C fg N 130 args H B = bodyX E [.tmp 4] (execA E C (fg 130) B 33 H N c130_0 (frame0 args 0 [], H)) := bodyA_eq fi_130 args H
noncomputable def c129_0 : Code := kBody Proofs.Tryd.f129
noncomputable def c129_1 : Code := kL c129_0
noncomputable def r129_0 : Array Oper := kO c129_1
noncomputable def o129_0_0 : Oper := opN r129_0 0
noncomputable def o129_0_1 : Oper := opN r129_0 1
noncomputable def o129_0_2 : Oper := opN r129_0 2
noncomputable def o129_0_3 : Oper := opN r129_0 3
noncomputable def o129_0_4 : Oper := opN r129_0 4
theorem x129_1 : execA E C (fg 129) B 28 E0 N c129_1 s = regX (runA E C B 28 r129_0 r129_0.toList s) (fun s => gcM E0 [4, 5, 6] (forget s.1 [4, 5, 6], s.2)) := x_reg (ops := r129_0) (by rfl) (by rfl) s
theorem r129_0_l : r129_0.toList = [o129_0_0, o129_0_1, o129_0_2, o129_0_3, o129_0_4] := nrfl rfl
theorem s129_0_0 : stepA E C B 28 r129_0 o129_0_0 (φ, H) = some (fput φ 4 (fget φ 0), H) := nrfl rfl
theorem s129_0_1 : stepA E C B 28 r129_0 o129_0_1 (φ, H) = stp (some 5) φ H (aBuiltin E.T (B + 5) .len #[36] [(fget φ 4)]) := nrfl rfl
theorem s129_0_2 : stepA E C B 28 r129_0 o129_0_2 (φ, H) = stp (some 6) φ H (just (aBin E.T .sub 3 (fget φ 5) (.int .i64 1))) := nrfl rfl
theorem s129_0_3 : stepA E C B 28 r129_0 o129_0_3 (φ, H) = some (fput φ 2 (.int .i64 0), H) := nrfl rfl
theorem s129_0_4 : stepA E C B 28 r129_0 o129_0_4 (φ, H) = some (fput φ 3 (fget φ 6), H) := nrfl rfl
noncomputable def c129_2 : Code := kR c129_0
noncomputable def c129_3 : Code := kB c129_2
noncomputable def c129_4 : Code := kB c129_3
noncomputable def c129_5 : Code := kL c129_4
noncomputable def c129_6 : Code := kL c129_5
noncomputable def r129_1 : Array Oper := kO c129_6
noncomputable def o129_1_0 : Oper := opN r129_1 0
noncomputable def o129_1_1 : Oper := opN r129_1 1
noncomputable def o129_1_2 : Oper := opN r129_1 2
theorem x129_6 : execA E C (fg 129) B 28 E0 N c129_6 s = regX (runA E C B 28 r129_1 r129_1.toList s) (fun s => gcM E0 [7, 8] (forget s.1 [7, 8], s.2)) := x_reg (ops := r129_1) (by rfl) (by rfl) s
theorem r129_1_l : r129_1.toList = [o129_1_0, o129_1_1, o129_1_2] := nrfl rfl
theorem s129_1_0 : stepA E C B 28 r129_1 o129_1_0 (φ, H) = some (fput φ 7 (fget φ 2), H) := nrfl rfl
theorem s129_1_1 : stepA E C B 28 r129_1 o129_1_1 (φ, H) = some (fput φ 8 (fget φ 3), H) := nrfl rfl
theorem s129_1_2 : stepA E C B 28 r129_1 o129_1_2 (φ, H) = stp (some 9) φ H (just (aBin E.T .lss 3 (fget φ 7) (fget φ 8))) := nrfl rfl
noncomputable def c129_7 : Code := kR c129_5
noncomputable def c129_8 : Code := kT c129_7
theorem x129_8 : execA E C (fg 129) B 28 E0 N c129_8 s = some (.normal, s) := x_skip (by rfl) s
noncomputable def c129_9 : Code := kE c129_7
theorem x129_9 : execA E C (fg 129) B 28 E0 N c129_9 s = some (.exit 0, s) := x_exit (by rfl) s
theorem x129_7 : execA E C (fg 129) B 28 E0 N c129_7 (φ, H) = condX (fget φ 9) (execA E C (fg 129) B 28 E0 N c129_8 (φ, H)) (execA E C (fg 129) B 28 E0 N c129_9 (φ, H)) := x_cond (by rfl) _
theorem x129_5 : execA E C (fg 129) B 28 E0 N c129_5 s = seqX (execA E C (fg 129) B 28 E0 N c129_6 s) (execA E C (fg 129) B 28 E0 N c129_7) := x_seq (by rfl) s
noncomputable def c129_10 : Code := kR c129_4
noncomputable def c129_11 : Code := kL c129_10
noncomputable def c129_12 : Code := kB c129_11
noncomputable def r129_3 : Array Oper := kO c129_12
noncomputable def o129_3_0 : Oper := opN r129_3 0
noncomputable def o129_3_1 : Oper := opN r129_3 1
noncomputable def o129_3_2 : Oper := opN r129_3 2
noncomputable def o129_3_3 : Oper := opN r129_3 3
noncomputable def o129_3_4 : Oper := opN r129_3 4
noncomputable def o129_3_5 : Oper := opN r129_3 5
noncomputable def o129_3_6 : Oper := opN r129_3 6
noncomputable def o129_3_7 : Oper := opN r129_3 7
noncomputable def o129_3_8 : Oper := opN r129_3 8
noncomputable def o129_3_9 : Oper := opN r129_3 9
noncomputable def o129_3_10 : Oper := opN r129_3 10
noncomputable def o129_3_11 : Oper := opN r129_3 11
noncomputable def o129_3_12 : Oper := opN r129_3 12
noncomputable def o129_3_13 : Oper := opN r129_3 13
noncomputable def o129_3_14 : Oper := opN r129_3 14
noncomputable def o129_3_15 : Oper := opN r129_3 15
theorem x129_12 : execA E C (fg 129) B 28 E0 N c129_12 s = regX (drawA E C B 28 r129_3 s) (fun s => gcM E0 [9, 14, 15, 16, 17, 18, 19, 20, 21, 22, 23, 24, 25, 26, 27] (forget s.1 [9, 14, 15, 16, 17, 18, 19, 20, 21, 22, 23, 24, 25, 26, 27], s.2)) := x_draw (ops := r129_3) (by rfl) (by rfl) s
theorem r129_3_l : r129_3.toList = [o129_3_0, o129_3_1, o129_3_2, o129_3_3, o129_3_4, o129_3_5, o129_3_6, o129_3_7, o129_3_8, o129_3_9, o129_3_10, o129_3_11, o129_3_12, o129_3_13, o129_3_14, o129_3_15] := nrfl rfl
theorem r129_3_st : statOk r129_3 = true := by kernel_rfl
theorem r129_3_dr : drawA E C B 28 r129_3 s = if neat 28 s = true then drX r129_3 (runT E C B 28 r129_3 r129_3.toList 0 s) else none := draw_eq r129_3_st s
theorem r129_3_an (l : List (Nat × Tr)) : dynOk r129_3 l = (!writing l || dynPairs [[], [], [], [], [], [], [4, 5], [4, 5, 6], [], [], [8, 9], [8, 9, 10], [0, 1, 4, 5, 6, 7, 8, 9, 10, 11], [0, 1, 4, 5, 6, 7, 8, 9, 10, 11, 12], [0, 1, 2, 3, 4, 5, 6, 7, 8, 9, 10, 11, 12, 13], [0, 1, 2, 3, 4, 5, 6, 7, 8, 9, 10, 11, 12, 13, 14]] (touching l)) := dynOk_eq (by kernel_rfl) l
theorem s129_3_0 : stepT E C B 28 r129_3 o129_3_0 (φ, H) = some ((fput φ 14 (fget φ 0), H), ⟨false, [], []⟩) := stT_go rfl (goT_mv rfl rfl)
theorem s129_3_1 : stepT E C B 28 r129_3 o129_3_1 (φ, H) = some ((fput φ 15 (fget φ 2), H), ⟨false, [], []⟩) := stT_go rfl (goT_mv rfl rfl)
theorem s129_3_2 : stepT E C B 28 r129_3 o129_3_2 (φ, H) = some ((fput φ 16 (fget φ 0), H), ⟨false, [], []⟩) := stT_go rfl (goT_mv rfl rfl)
theorem s129_3_3 : stepT E C B 28 r129_3 o129_3_3 (φ, H) = some ((fput φ 17 (fget φ 3), H), ⟨false, [], []⟩) := stT_go rfl (goT_mv rfl rfl)
theorem s129_3_4 : stepT E C B 28 r129_3 o129_3_4 (φ, H) = some ((fput φ 18 (fget φ 0), H), ⟨false, [], []⟩) := stT_go rfl (goT_mv rfl rfl)
theorem s129_3_5 : stepT E C B 28 r129_3 o129_3_5 (φ, H) = some ((fput φ 19 (fget φ 3), H), ⟨false, [], []⟩) := stT_go rfl (goT_mv rfl rfl)
theorem s129_3_6 : stepT E C B 28 r129_3 o129_3_6 (φ, H) = stpT (some 20) φ H (just (aIndexAddr E.T 36 (fget φ 18) (fget φ 19))) := stT_go rfl (goT_R rfl rfl)
theorem s129_3_7 : stepT E C B 28 r129_3 o129_3_7 (φ, H) = stpT (some 21) φ H (just (aLoad E.T 3 (fget φ 20))) := stT_go rfl (goT_R rfl rfl)
theorem s129_3_8 : stepT E C B 28 r129_3 o129_3_8 (φ, H) = some ((fput φ 22 (fget φ 0), H), ⟨false, [], []⟩) := stT_go rfl (goT_mv rfl rfl)
theorem s129_3_9 : stepT E C B 28 r129_3 o129_3_9 (φ, H) = some ((fput φ 23 (fget φ 2), H), ⟨false, [], []⟩) := stT_go rfl (goT_mv rfl rfl)
theorem s129_3_10 : stepT E C B 28 r129_3 o129_3_10 (φ, H) = stpT (some 24) φ H (just (aIndexAddr E.T 36 (fget φ 22) (fget φ 23))) := stT_go rfl (goT_R rfl rfl)
theorem s129_3_11 : stepT E C B 28 r129_3 o129_3_11 (φ, H) = stpT (some 25) φ H (just (aLoad E.T 3 (fget φ 24))) := stT_go rfl (goT_R rfl rfl)
theorem s129_3_12 : stepT E C B 28 r129_3 o129_3_12 (φ, H) = stpT (some 26) φ H (just (aIndexAddr E.T 36 (fget φ 14) (fget φ 15))) := stT_go rfl (goT_R rfl rfl)
theorem s129_3_13 : stepT E C B 28 r129_3 o129_3_13 (φ, H) = stpT none φ H (opStore E.T 3 (fget φ 26) (fget φ 21)) := stT_go rfl (goT_R rfl rfl)
theorem s129_3_14 : stepT E C B 28 r129_3 o129_3_14 (φ, H) = stpT (some 27) φ H (just (aIndexAddr E.T 36 (fget φ 16) (fget φ 17))) := stT_go rfl (goT_R rfl rfl)
theorem s129_3_15 : stepT E C B 28 r129_3 o129_3_15 (φ, H) = stpT none φ H (opStore E.T 3 (fget φ 27) (fget φ 25)) := stT_go rfl (goT_R rfl rfl)
theorem x129_11 : execA E C (fg 129) B 28 E0 N c129_11 s = blockX 1 (fun s => (forget s.1 [], s.2)) (execA E C (fg 129) B 28 E0 N c129_12 s) := x_block (by rfl) (by rfl) s
noncomputable def c129_13 : Code := kR c129_10
noncomputable def r129_2 : Array Oper := kO c129_13
noncomputable def o129_2_0 : Oper := opN r129_2 0
noncomputable def o129_2_1 : Oper := opN r129_2 1
noncomputable def o129_2_2 : Oper := opN r129_2 2
noncomputable def o129_2_3 : Oper := opN r129_2 3
noncomputable def o129_2_4 : Oper := opN r129_2 4
noncomputable def o129_2_5 : Oper := opN r129_2 5
theorem x129_13 : execA E C (fg 129) B 28 E0 N c129_13 s = regX (runA E C B 28 r129_2 r129_2.toList s) (fun s => gcM E0 [10, 11, 12, 13] (forget s.1 [10, 11, 12, 13], s.2)) := x_reg (ops := r129_2) (by rfl) (by rfl) s
theorem r129_2_l : r129_2.toList = [o129_2_0, o129_2_1, o129_2_2, o129_2_3, o129_2_4, o129_2_5] := nrfl rfl
theorem s129_2_0 : stepA E C B 28 r129_2 o129_2_0 (φ, H) = some (fput φ 10 (fget φ 2), H) := nrfl rfl
theorem s129_2_1 : stepA E C B 28 r129_2 o129_2_1 (φ, H) = stp (some 11) φ H (just (aBin E.T .add 3 (fget φ 10) (.int .i64 1))) := nrfl rfl
theorem s129_2_2 : stepA E C B 28 r129_2 o129_2_2 (φ, H) = some (fput φ 12 (fget φ 3), H) := nrfl rfl
theorem s129_2_3 : stepA E C B 28 r129_2 o129_2_3 (φ, H) = stp (some 13) φ H (just (aBin E.T .sub 3 (fget φ 12) (.int .i64 1))) := nrfl rfl
theorem s129_2_4 : stepA E C B 28 r129_2 o129_2_4 (φ, H) = some (fput φ 2 (fget φ 11), H) := nrfl rfl
theorem s129_2_5 : stepA E C B 28 r129_2 o129_2_5 (φ, H) = some (fput φ 3 (fget φ 13), H) := nrfl rfl
theorem x129_10 : execA E C (fg 129) B 28 E0 N c129_10 s = seqX (execA E C (fg 129) B 28 E0 N c129_11 s) (execA E C (fg 129) B 28 E0 N c129_13) := x_seq (by rfl) s
theorem x129_4 : execA E C (fg 129) B 28 E0 N c129_4 s = seqX (execA E C (fg 129) B 28 E0 N c129_5 s) (execA E C (fg 129) B 28 E0 N c129_10) := x_seq (by rfl) s
theorem x129_3 : execA E C (fg 129) B 28 E0 N c129_3 s = iterA (execA E C (fg 129) B 28 E0 N c129_4) (headA E0) N s := x_loop (by rfl) s
theorem x129_2 : execA E C (fg 129) B 28 E0 N c129_2 s = blockX 0 (fun s => (forget s.1 [0, 2, 3, 9], s.2)) (execA E C (fg 129) B 28 E0 N c129_3 s) := x_block (by rfl) (by rfl) s
theorem x129_0 : execA E C (fg 129) B 28 E0 N c129_0 s = seqX (execA E C (fg 129) B 28 E0 N c129_1 s) (execA E C (fg 129) B 28 E0 N c129_2) := x_seq (by rfl) s
theorem fi_129 : fInfo E 129 = some ⟨28, #[], c129_0⟩ := nrfl rfl
theorem b_129 (args : List AV) : bodyA E C fg N 129 args H B = bodyX E [] (execA E C (fg 129) B 28 H N c129_0 (frame0 args 0 [], H)) := bodyA_eq fi_129 args H
end Go.AM.YtgfnbmfjbjopkaaDoor
end

section
namespace Go.AM
/-- A result that leads to one new block, at the first free place. -/
noncomputable def back1 (k : Nat) (seen : List Nat) (r : Nat → AV) (b : Blk) : Rd (AV × Ups) :=
  (freeOff [k] 6 0).bind fun off => (freeAll [k + off]).bind fun _ => (frz seen).bind fun us => .pure (r (k + off), us ++ [(k + off, b)])
theorem back1_eq (k : Nat) (seen : List Nat) (r : Nat → AV) (b : Blk) : ∃ no : Blk → Rd (AV × Ups), back1 k seen r b = .get k fun
    | none => .get k fun
      | none => (frz seen).bind fun us => .pure (r k, us ++ [(k, b)])
      | some _ => .fail
    | some b => no b := by
  refine ⟨fun _ => (freeOff [k] 5 1048576).bind fun off => (freeAll [k + off]).bind fun _ => (frz seen).bind fun us => .pure (r (k + off), us ++ [(k + off, b)]), ?_⟩
  simp only [back1, freeOff, List.map_cons, List.map_nil, allFree, Rd.bind, Nat.add_zero]
  congr 1
  funext x
  cases x with
  | none =>
    simp only [Rd.bind, freeAll, Nat.add_zero]
    congr 1
    funext y
    cases y <;> rfl
  | some _ => rfl
theorem back1_run {k : Nat} {seen : List Nat} {r : Nat → AV} {b : Blk} {H : AHeap} (h : hget H k = none) : (back1 k seen r b).run H = ((frz seen).bind fun us => .pure (r k, us ++ [(k, b)])).run H := by
  obtain ⟨no, e⟩ := back1_eq k seen r b
  rw [e]; simp only [Rd.run, h]
theorem back1_foot {k : Nat} {seen : List Nat} {r : Nat → AV} {b : Blk} {H : AHeap} (h : hget H k = none) : (back1 k seen r b).foot H = k :: k :: ((frz seen).bind fun us => .pure (r k, us ++ [(k, b)])).foot H := by
  obtain ⟨no, e⟩ := back1_eq k seen r b
  rw [e]; simp only [Rd.foot, h]
noncomputable def back1N (k : Nat) (seen : List Nat) (r : Nat → AV) (b : Blk) : Rd (AV × Ups) := back1 k seen r b
theorem back1_r {k : Nat} {seen : List Nat} {r : Nat → AV} {b : Blk} {H : AHeap} : (back1 k seen r b).run H = match hget H k with
    | none => ((frz seen).bind fun us => .pure (r k, us ++ [(k, b)])).run H
    | some _ => (back1N k seen r b).run H := by
  cases h : hget H k with
  | none => exact back1_run h
  | some _ => rfl
theorem back1_f {k : Nat} {seen : List Nat} {r : Nat → AV} {b : Blk} {H : AHeap} : (back1 k seen r b).foot H = match hget H k with
    | none => k :: k :: ((frz seen).bind fun us => .pure (r k, us ++ [(k, b)])).foot H
    | some _ => (back1N k seen r b).foot H := by
  cases h : hget H k with
  | none => exact back1_foot h
  | some _ => rfl
/-- A result that leads to two new blocks. -/
noncomputable def back2 (k0 k1 : Nat) (seen : List Nat) (r : Nat → Nat → AV) (b0 b1 : Blk) : Rd (AV × Ups) :=
  (freeOff [k1, k0] 6 0).bind fun off => (freeAll [k1 + off, k0 + off]).bind fun _ => (frz seen).bind fun us => .pure (r (k0 + off) (k1 + off), us ++ [(k1 + off, b1), (k0 + off, b0)])
noncomputable def back2N (k0 k1 : Nat) (seen : List Nat) (r : Nat → Nat → AV) (b0 b1 : Blk) : Rd (AV × Ups) := back2 k0 k1 seen r b0 b1
theorem back2_eq (k0 k1 : Nat) (seen : List Nat) (r : Nat → Nat → AV) (b0 b1 : Blk) : ∃ no no' : Blk → Rd (AV × Ups), back2 k0 k1 seen r b0 b1 = .get k1 fun
    | none => .get k0 fun
      | none => .get k1 fun
        | none => .get k0 fun
          | none => (frz seen).bind fun us => .pure (r k0 k1, us ++ [(k1, b1), (k0, b0)])
          | some _ => .fail
        | some _ => .fail
      | some b => no b
    | some b => no' b := by
  refine ⟨fun _ => (freeOff [k1, k0] 5 1048576).bind fun off => (freeAll [k1 + off, k0 + off]).bind fun _ => (frz seen).bind fun us => .pure (r (k0 + off) (k1 + off), us ++ [(k1 + off, b1), (k0 + off, b0)]),
    fun _ => (freeOff [k1, k0] 5 1048576).bind fun off => (freeAll [k1 + off, k0 + off]).bind fun _ => (frz seen).bind fun us => .pure (r (k0 + off) (k1 + off), us ++ [(k1 + off, b1), (k0 + off, b0)]), ?_⟩
  simp only [back2, freeOff, List.map_cons, List.map_nil, allFree, Rd.bind, Nat.add_zero]
  congr 1
  funext x
  cases x with
  | some _ => rfl
  | none =>
    simp only [Rd.bind]
    congr 1
    funext y
    cases y with
    | some _ => rfl
    | none =>
      simp only [Rd.bind, freeAll, Nat.add_zero]
      congr 1
      funext x
      cases x with
      | some _ => rfl
      | none =>
        simp only [Rd.bind]
        congr 1
        funext y
        cases y <;> rfl
theorem back2_r {k0 k1 : Nat} {seen : List Nat} {r : Nat → Nat → AV} {b0 b1 : Blk} {H : AHeap} : (back2 k0 k1 seen r b0 b1).run H = match hget H k1 with
    | none => match hget H k0 with
      | none => ((frz seen).bind fun us => .pure (r k0 k1, us ++ [(k1, b1), (k0, b0)])).run H
      | some _ => (back2N k0 k1 seen r b0 b1).run H
    | some _ => (back2N k0 k1 seen r b0 b1).run H := by
  cases h : hget H k1 with
  | some _ => rfl
  | none =>
    cases h2 : hget H k0 with
    | some _ => rfl
    | none =>
      obtain ⟨no, no', e⟩ := back2_eq k0 k1 seen r b0 b1
      rw [e]; simp only [Rd.run, h, h2]
theorem aBack_ref {C : Callee} {site : Nat → Nat} {seen : List Nat} {f : FuncId} {args : List AV} {id n sz : Nat} {cells : List AV} {H' : AHeap} (h : C f args [] 0 = some (.ref id 0 n n cells.length sz false, H')) (hg : hget H' id = some ⟨.row, cells⟩) :
    aBack site true seen (thaw C f args [] 0) = back1 (site 0) seen (fun k => .ref k 0 n n cells.length sz false) ⟨.row, cells⟩ := by
  simp only [thaw, h, frzRet, aBack, sitesB, aBackAt, imp, hg, List.length_nil, List.not_mem_nil, not_false_eq_true, and_true, if_true, List.map_cons, List.map_nil, AM.apart, List.elem_nil, Bool.not_false, Bool.and_true, AV.leads, back1]
theorem aBack_refint {C : Callee} {site : Nat → Nat} {seen : List Nat} {f : FuncId} {args : List AV} {id n sz : Nat} {k : IntKind} {z : Int} {cells : List AV} {H' : AHeap} (h : C f args [] 0 = some (.tup [.ref id 0 n n cells.length sz false, .int k z], H')) (hg : hget H' id = some ⟨.row, cells⟩) :
    aBack site true seen (thaw C f args [] 0) = back1 (site 0) seen (fun j => .tup [.ref j 0 n n cells.length sz false, .int k z]) ⟨.row, cells⟩ := by
  simp only [thaw, h, frzRet, aBack, sitesB, aBackAt, imp, imps, hg, List.length_nil, List.not_mem_nil, not_false_eq_true, and_true, if_true, List.map_cons, List.map_nil, AM.apart, List.elem_nil, Bool.not_false, Bool.and_true, AV.leads, AV.leads.leadsL, Bool.or_false, back1]
theorem aBack_nil {C : Callee} {site : Nat → Nat} {seen : List Nat} {f : FuncId} {args : List AV} (h : ∃ H', C f args [] 0 = some (.nilsl, H')) : aBack site true seen (thaw C f args [] 0) = .pure (.nilsl, []) := by
  obtain ⟨H', h⟩ := h; exact aBack_plain h rfl (fun _ => rfl) rfl
end Go.AM
end

section
namespace Go.AM
theorem seqN (s : St) (k) : seqX (some (.normal, s)) k = k s := nrfl rfl
theorem bindN (s : St) (k) : bindR (some s) k = k s := nrfl rfl
theorem regN (s : St) (k) : regX (some s) k = some (.normal, k s) := nrfl rfl
theorem snap_int (d : Nat) (k : IntKind) (z : Int) : snap (d + 1) (.int k z) = .pure (.int k z, []) := rfl
theorem snap_nilsl (d : Nat) : snap (d + 1) .nilsl = .pure (.nilsl, []) := rfl
theorem snap_imm (d : Nat) (c : List AV) (n : Nat) (ex : Bool) : snap (d + 1) (.imm c n ex) = .pure (.imm c n ex, []) := rfl
theorem snap_ref (d id off len cap gl sz : Nat) (ex : Bool) : snap (d + 1) (.ref id off len cap gl sz ex) = (Rd.liveBlk id gl).bind fun b =>
      if off + len * sz ≤ b.cells.length then
        match b.st with
        | .box => (snaps d ((b.cells.drop off).take (len * sz))).bind fun x =>
          .pure (.imm x.1 len (ex && decide (cap = len)), id :: x.2)
        | _ => .pure (.imm ((b.cells.drop off).take (len * sz)) len (ex && decide (cap = len)), [id])
      else .fail := rfl
theorem snap_ptr' (d id off gl : Nat) : snap (d + 1) (.ptr id off gl) = (Rd.liveBlk id gl).bind fun b =>
      match b.st with
      | .box => (snaps d b.cells).bind fun x => .pure (.iptr x.1 off, id :: x.2)
      | _ => .pure (.iptr b.cells off, [id]) := rfl
theorem snap_iptr (d : Nat) (c : List AV) (n : Nat) : snap (d + 1) (.iptr c n) = .pure (.iptr c n, []) := rfl
theorem snap_bool (d : Nat) (b : Bool) : snap (d + 1) (.bool b) = .pure (.bool b, []) := rfl
theorem snap_nilfunc (d : Nat) : snap (d + 1) .nilfunc = .pure (.nilfunc, []) := rfl
theorem snap_agg (d : Nat) (vs : List AV) : snap (d + 1) (.agg vs) = (snaps d vs).bind fun x => .pure (.agg x.1, x.2) := rfl
theorem snap_tup (d : Nat) (vs : List AV) : snap (d + 1) (.tup vs) = (snaps d vs).bind fun x => .pure (.tup x.1, x.2) := rfl
theorem snap_clo (d : Nat) (f : FuncId) (vs : List AV) : snap (d + 1) (.clo f vs) = (snaps d vs).bind fun x => .pure (.clo f x.1, x.2) := rfl
/-- A block is frozen. -/
def frzB (s : BS) (cs : List AV) (i : Nat) (r : Rd Ups) : Rd Ups :=
  match s, cs.all AV.flat with
  | .box, false => .fail
  | .mp, _ => .fail
  | _, _ => r.bind fun us => .pure ((i, ⟨.froz, cs⟩) :: us)
theorem frz_nil : frz [] = .pure [] := rfl
theorem frz_eq (i : Nat) (is : List Nat) : frz (i :: is) = .get i fun
    | some b => frzB b.st b.cells i (frz is)
    | none => .fail := rfl
theorem frzB_row (cs : List AV) (i : Nat) (r : Rd Ups) : frzB .row cs i r = r.bind fun us => .pure ((i, ⟨.froz, cs⟩) :: us) := rfl
theorem frzB_froz (cs : List AV) (i : Nat) (r : Rd Ups) : frzB .froz cs i r = r.bind fun us => .pure ((i, ⟨.froz, cs⟩) :: us) := rfl
theorem frzB_box (cs : List AV) (i : Nat) (r : Rd Ups) : frzB .box cs i r = if cs.all AV.flat = true then r.bind fun us => .pure ((i, ⟨.froz, cs⟩) :: us) else .fail := by
  unfold frzB; cases cs.all AV.flat <;> rfl
theorem snaps_flat : ∀ (l : List AV) (d : Nat), (∀ a ∈ l, ∃ k z, a = AV.int k z) → l.length + 2 ≤ d → snaps d l = .pure (l, [])
  | [], d + 1, _, _ => by simp only [snaps]
  | a :: l, d + 1, h, hd => by
    obtain ⟨k, z, rfl⟩ := h a (List.mem_cons_self ..)
    have hd2 : l.length + 2 ≤ d := by simp only [List.length_cons] at hd; omega
    have ih := snaps_flat l d (fun a ha => h a (List.mem_cons_of_mem _ ha)) hd2
    obtain ⟨e, rfl⟩ : ∃ e, d = e + 1 := ⟨d - 1, by omega⟩
    simp only [snaps, snap, ih, Rd.bind, List.nil_append]
end Go.AM
namespace Go.AM.YtgfnbmfjbjopkaaDoor
open Go Go.AM
theorem cl0 : ((0 : Nat) : Int) = 0 := rfl
theorem cl1 : ((1 : Nat) : Int) = 1 := rfl
end Go.AM.YtgfnbmfjbjopkaaDoor
end

section
namespace Go.AM
/-- The cells of a list of things that take sz cells each. -/
def cls {α : Type} (f : α → List AV) (l : List α) : List AV := l.flatMap f
section
variable {α : Type} {f : α → List AV} {sz : Nat}
theorem cls_nil : cls f [] = [] := rfl
theorem cls_cons (a : α) (l : List α) : cls f (a :: l) = f a ++ cls f l := by simp [cls]
theorem cls_length (h : ∀ a, (f a).length = sz) : ∀ l : List α, (cls f l).length = l.length * sz
  | [] => by simp [cls]
  | a :: l => by rw [cls_cons, List.length_append, h, cls_length h l, List.length_cons, Nat.succ_mul]; omega
theorem cls_at (h : ∀ a, (f a).length = sz) : ∀ {l : List α} {k : Nat} {s : α}, l[k]? = some s → ((cls f l).drop (k * sz)).take sz = f s
  | [], k, s, e => by simp at e
  | a :: l, 0, s, e => by simp at e; subst e; rw [cls_cons, Nat.zero_mul, List.drop_zero, List.take_append_of_le_length (by rw [h]; exact Nat.le_refl _), List.take_of_length_le (by rw [h]; exact Nat.le_refl _)]
  | a :: l, k + 1, s, e => by
    simp at e
    rw [cls_cons, Nat.succ_mul, Nat.add_comm, ← List.drop_drop, List.drop_left' (h a)]
    exact cls_at h e
theorem cls_field (h : ∀ a, (f a).length = sz) {l : List α} {k j : Nat} {s : α} (e : l[k]? = some s) (hj : j < sz) : (cls f l)[k * sz + j]? = (f s)[j]? := by
  rw [← cls_at h e, List.getElem?_take, if_pos hj, List.getElem?_drop]
theorem cls_snoc (l : List α) (a : α) : cls f l ++ f a = cls f (l ++ [a]) := by simp [cls]
theorem cls_take (h : ∀ a, (f a).length = sz) (l : List α) : List.take (l.length * sz) (cls f l) = cls f l := List.take_of_length_le (by rw [cls_length h]; exact Nat.le_refl _)
theorem cls_takeN (h : ∀ a, (f a).length = sz) : ∀ (l : List α) (n : Nat), List.take (n * sz) (cls f l) = cls f (l.take n)
  | [], n => by simp [cls]
  | a :: l, 0 => by simp [cls]
  | a :: l, n + 1 => by
    rw [cls_cons, List.take_succ_cons, cls_cons, ← cls_takeN h l n, Nat.succ_mul, Nat.add_comm, List.take_add, List.take_left' (h a), List.drop_left' (h a)]
end
/-- Integers of 64 bits. -/
def ics (l : List Int) : List AV := l.map (AV.int .i64)
theorem ics_length (l : List Int) : (ics l).length = l.length := by simp [ics]
/-- Numbers as integers of 64 bits. -/
def ins (l : List Nat) : List AV := l.map fun (i : Nat) => AV.int .i64 (i : Int)
theorem ins_length (l : List Nat) : (ins l).length = l.length := by simp [ins]
theorem ins_at {l : List Nat} {k i : Nat} (h : l[k]? = some i) : (ins l)[k]? = some (.int .i64 (i : Int)) := by simp [ins, h]
theorem ins_snoc (l : List Nat) (i : Nat) : ins l ++ [.int .i64 (i : Int)] = ins (l ++ [i]) := by simp [ins]
theorem ins_takeA (l : List Nat) : (ins l).take l.length = ins l := List.take_of_length_le (by rw [ins_length]; exact Nat.le_refl _)
theorem ins_set (l : List Nat) (k i : Nat) : (ins l).set k (.int .i64 (i : Int)) = ins (l.set k i) := by simp [ins]
/-- Unsigned words. -/
def ucs (l : List Nat) : List AV := l.map fun (i : Nat) => AV.int .u64 (i : Int)
theorem ucs_length (l : List Nat) : (ucs l).length = l.length := by simp [ucs]
theorem ucs_at {l : List Nat} {k i : Nat} (h : l[k]? = some i) : (ucs l)[k]? = some (.int .u64 (i : Int)) := by simp [ucs, h]
theorem ucs_set (l : List Nat) (k i : Nat) : (ucs l).set k (.int .u64 (i : Int)) = ucs (l.set k i) := by simp [ucs]
/-- A list that is built, at its place: nil as long as it is empty. -/
def oV (k sz n : Nat) : AV := match n with
  | 0 => .nilsl
  | n + 1 => .ref k 0 (n + 1) (n + 1) ((n + 1) * sz) sz false
def oH (k : Nat) (cells : List AV) : AHeap := match cells with
  | [] => []
  | c :: cs => [(k, ⟨.row, c :: cs⟩)]
theorem aBack_refc {C : Callee} {site : Nat → Nat} {seen : List Nat} {f : FuncId} {args : List AV} {id m c sz gl : Nat} {cells : List AV} {H' : AHeap} (h : C f args [] 0 = some (.ref id 0 m c gl sz false, H')) (hg : hget H' id = some ⟨.row, cells⟩) (hl : cells.length = gl) :
    aBack site true seen (thaw C f args [] 0) = back1 (site 0) seen (fun k => .ref k 0 m c gl sz false) ⟨.row, cells⟩ := by
  subst hl
  simp only [thaw, h, frzRet, aBack, sitesB, aBackAt, imp, hg, List.length_nil, List.not_mem_nil, not_false_eq_true, and_true, if_true, List.map_cons, List.map_nil, AM.apart, List.elem_nil, Bool.not_false, Bool.and_true, AV.leads, back1]
theorem oH_get {k j : Nat} (h : k ≠ j) (c : List AV) : hget (oH k c) j = none := by
  cases c with
  | nil => rfl
  | cons a c => simp only [oH, hget_cons', if_neg h, hget_nil']
theorem oH_ne (k : Nat) {c : List AV} (h : 0 < c.length) : oH k c = [(k, ⟨.row, c⟩)] := by
  cases c with
  | nil => simp at h
  | cons a c => rfl
/-- A loop of n rounds. -/
theorem loopN {f : St → XR} (st : Nat → St) (n : Nat) (h : ∀ i, i < n → ∃ s', f (st i) = some (.normal, s') ∧ headA [] s' = st (i + 1)) (h0 : headA [] (st 0) = st 0) (hn : n < 1000) {e : Ex} {se : St} (he : f (st n) = some (e, se)) (hne : e ≠ .normal) :
    iterA f (headA []) 1000 (st 0) = some (e, se) :=
  iter_all st n 1000 0 (st 0) h0 hn (fun i _ hi => h i (by omega)) (by rw [Nat.zero_add]; exact he) hne
/-- .. that is left at once. -/
theorem loop0 {f : St → XR} {s0 : St} (h0 : headA [] s0 = s0) {e : Ex} {se : St} (he : f s0 = some (e, se)) (hne : e ≠ .normal) : iterA f (headA []) 1000 s0 = some (e, se) :=
  loopN (fun _ => s0) 0 (fun i hi => by omega) h0 (by omega) he hne
theorem wrpU {n : Nat} (h : n < 18446744073709551616) : wrp .u64 (n : Int) = n := wrp_id (by simp only [kLo]; omega) (by simp only [kHi]; omega)
theorem bt_nat {n : Nat} : bt .u64 (n : Int) = BitVec.ofNat 64 n := by
  simp only [bt, IntKind.bits, BitVec.ofInt_natCast]
theorem bk_nat (x : BitVec 64) : bk .u64 x = .int .u64 (x.toNat : Int) := by
  show AV.int .u64 (wrp .u64 (x.toNat : Int)) = _
  rw [wrpU x.isLt]
theorem bk_and {a b : Nat} (ha : a < 18446744073709551616) (hb : b < 18446744073709551616) : bk .u64 (bt .u64 (a : Int) &&& bt .u64 (b : Int)) = .int .u64 ((a &&& b : Nat) : Int) := by
  rw [bt_nat, bt_nat]
  refine (bk_nat _).trans (congrArg (fun x : Nat => AV.int .u64 (x : Int)) ?_)
  exact (show (BitVec.ofNat 64 a &&& BitVec.ofNat 64 b).toNat = a &&& b by rw [BitVec.toNat_and, BitVec.toNat_ofNat, BitVec.toNat_ofNat, Nat.mod_eq_of_lt ha, Nat.mod_eq_of_lt hb])
theorem bk_or {a b : Nat} (ha : a < 18446744073709551616) (hb : b < 18446744073709551616) : bk .u64 (bt .u64 (a : Int) ||| bt .u64 (b : Int)) = .int .u64 ((a ||| b : Nat) : Int) := by
  rw [bt_nat, bt_nat]
  refine (bk_nat _).trans (congrArg (fun x : Nat => AV.int .u64 (x : Int)) ?_)
  exact (show (BitVec.ofNat 64 a ||| BitVec.ofNat 64 b).toNat = a ||| b by rw [BitVec.toNat_or, BitVec.toNat_ofNat, BitVec.toNat_ofNat, Nat.mod_eq_of_lt ha, Nat.mod_eq_of_lt hb])
theorem bk_and1 {a : Nat} (ha : a < 18446744073709551616) : bk .u64 (bt .u64 (a : Int) &&& bt .u64 1) = .int .u64 ((a &&& 1 : Nat) : Int) := bk_and (b := 1) ha (by omega)
theorem andNot64 : ∀ s, s < 64 → ∀ t, t < 64 → (BitVec.ofNat 64 s &&& ~~~(BitVec.ofNat 64 t)).toNat = s &&& (63 - t) := by decide +kernel
theorem bk_andNot {s t : Nat} (hs : s < 64) (ht : t < 64) : bk .u64 (bt .u64 (s : Int) &&& ~~~(bt .u64 (t : Int))) = .int .u64 ((s &&& (63 - t) : Nat) : Int) := by
  rw [bt_nat, bt_nat]
  exact (bk_nat _).trans (congrArg (fun x : Nat => AV.int .u64 (x : Int)) (andNot64 s hs t ht))
theorem shl64 {i : Nat} (h : i < 7) : aShift .shl .u64 1 (i : Int) = some (.int .u64 ((1 <<< i : Nat) : Int)) := by
  have : i = 0 ∨ i = 1 ∨ i = 2 ∨ i = 3 ∨ i = 4 ∨ i = 5 ∨ i = 6 := by omega
  rcases this with rfl | rfl | rfl | rfl | rfl | rfl | rfl <;> rfl
theorem shr64 {b i : Nat} (hi : i < 64) : aShift .shr .u64 (b : Int) (i : Int) = some (.int .u64 ((b >>> i : Nat) : Int)) := by
  have h1 : ¬ (i : Int) < 0 := by omega
  simp only [aShift, if_neg h1, pw2, IntKind.bits, Int.toNat_natCast]
  rw [Nat.min_eq_left (by omega), Nat.shiftRight_eq_div_pow]
  congr 2
  exact (Int.fdiv_eq_ediv_of_nonneg _ (Int.natCast_nonneg _)).trans (Int.natCast_ediv _ _).symm
theorem shr_lt {b i : Nat} (h : b < 18446744073709551616) : b >>> i < 18446744073709551616 := by
  rw [Nat.shiftRight_eq_div_pow]; exact Nat.lt_of_le_of_lt (Nat.div_le_self ..) h
theorem bit_beq (b i : Nat) : ((((b >>> i) &&& 1 : Nat) : Int) == 1) = b.testBit i := by
  rw [Nat.testBit, Nat.and_comm 1]
  have h : b >>> i &&& 1 < 2 := Nat.lt_of_le_of_lt Nat.and_le_right (by omega)
  generalize b >>> i &&& 1 = x at *
  match x, h with
  | 0, _ => rfl
  | 1, _ => rfl
theorem bit_eq (b i : Nat) : ((((b >>> i) &&& 1 : Nat) : Int) = 1) = (b.testBit i = true) := by
  rw [← bit_beq, beq_iff_eq]
theorem nat_bne0 (x : Nat) : ((x : Int) != 0) = (x != 0) := by
  cases x <;> rfl
end Go.AM
end
