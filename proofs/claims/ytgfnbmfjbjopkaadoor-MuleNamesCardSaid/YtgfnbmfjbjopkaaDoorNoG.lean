/- A part of the proof of muleNames_card: NmG. Own work of this project; texts printed by own programs among it. -/
import Derived.Test.YtgfnbmfjbjopkaaDoorRows
import Derived.Test.YtgfnbmfjbjopkaaDoorChecked
import Derived.ProofKit
import Derived.OpenShut
import Derived.LaidLaws
import Derived.Handed
import Derived.KernelRfl
import Derived.Test.YtgfnbmfjbjopkaaDoorNoF
set_option maxRecDepth 1000000
set_option maxHeartbeats 16000000
noncomputable section
noncomputable section
namespace Go.AM.YtgfnbmfjbjopkaaDoor
open Go Go.AM Go.RowKit Go.Proofs Go.Proofs.YtgfnbmfjbjopkaaDoor Go.ChangeShapes Go.WideShapes
theorem own : ownKnob Tryd.prog.godebug = none := by kernel_rfl
theorem laidOut : laidOutB Tryd.prog = true := by kernel_rfl
theorem Zg5 {H : Type} {enc : TypeId × Value → H} {P : Program} {w : World} {base : Nat} {spare : Nat → Bool} {hld : Bool} {fuel : Nat} {t e : TypeId} {cs : List Value} {n : Nat} {k : IntKind} {l : List Int} {p : List MemPlace}
   (ht : P.underlying t = some (.array n e)) (he : P.underlying e = some (.int k)) (hc : P.cellsOf e = 1) (h : DataW.trod enc P w base spare hld fuel t cs = some (.agg (l.map fun z => .lit (.int k z)), p)) :
   ∀ (i : Nat) (z : Int), l[i]? = some z → cs[i]? = some (.int k z) := by
 obtain ⟨xs, m, _, hx, _, hl, hi⟩ := DataW.trod_array ht h
 simp only [Prod.mk.injEq, DataW.agg.injEq] at hx
 intro i z hz
 have hlen : l.length = xs.length := by have := congrArg List.length hx.1; simpa using this
 have hlt : i < n := by rw [← hl, ← hlen]; exact (List.getElem?_eq_some_iff.1 hz).1
 have h1 := hi i hlt
 have hxi : xs[i]? = some xs[i] := List.getElem?_eq_getElem (by omega)
 rw [hxi, hc, Nat.mul_one] at h1
 obtain ⟨s, q1, q2, _⟩ := DataW.trod_int he h1
 have h2 := congrArg (fun y => y[i]?) hx.1
 simp only [List.getElem?_map, hz, hxi, Option.map_some, q2, Option.some.injEq, DataW.lit.injEq, Lit.int.injEq, true_and] at h2
 subst h2
 have h3 := congrArg (fun y => y[0]?) q1
 simp only [List.getElem?_take, List.getElem?_drop, Nat.add_zero] at h3
 simpa using h3
def intsOf : DataW Unit → List Int
 | .agg ds => ds.map fun
   | .lit (.int _ z) => z
   | _ => 0
 | _ => []
def tab0 : List Int := intsOf Rows.laid_math_bits_deBruijn32tab
def tab1 : List Int := intsOf Rows.laid_math_bits_deBruijn64tab
theorem Z0se : (Rows.laid_math_bits_deBruijn32tab : DataW Unit) = .agg (tab0.map fun z => .lit (.int .u8 z)) := rfl
theorem Z0sz : (Rows.laid_math_bits_deBruijn64tab : DataW Unit) = .agg (tab1.map fun z => .lit (.int .u8 z)) := rfl
abbrev laid : List (String × DataW Unit) := [("math/bits.deBruijn32tab", Rows.laid_math_bits_deBruijn32tab), ("math/bits.deBruijn64tab", Rows.laid_math_bits_deBruijn64tab)]
theorem Z0pW : Tryd.prog.globalNamed "math/bits.deBruijn32tab" = some 0 := by kernel_rfl
theorem Z0nX : Tryd.prog.globalNamed "math/bits.deBruijn64tab" = some 1 := by kernel_rfl
theorem Z0po : (Tryd.prog.globals[0]?).map (·.type) = some 154 := by kernel_rfl
theorem Z0os : (Tryd.prog.globals[1]?).map (·.type) = some 155 := by kernel_rfl
theorem Z0cR : Tryd.prog.cellsOf 5 = 1 := by kernel_rfl
theorem ZyA {W : World} (h : laidMet Tryd.prog laid W) :
   (∀ (i : Nat) (z : Int), tab0[i]? = some z → W.cell? ⟨0, i, none⟩ = some (.int .u8 z)) ∧ (∀ (i : Nat) (z : Int), tab1[i]? = some z → W.cell? ⟨1, i, none⟩ = some (.int .u8 z)) := by
 obtain ⟨ps, ⟨g, t, cs, fuel, p, q, hg, ht, hvar, hd, ⟨g', t', cs', fuel', p', q', hg', ht', hvar', hd', _, _⟩, _⟩, _⟩ := h
 obtain rfl := Option.some.inj (Z0pW.symm.trans hg)
 obtain rfl := Option.some.inj (Z0po.symm.trans ht)
 obtain rfl := Option.some.inj (Z0nX.symm.trans hg')
 obtain rfl := Option.some.inj (Z0os.symm.trans ht')
 rw [Z0se] at hd
 rw [Z0sz] at hd'
 refine ⟨fun i z hz => ?_, fun i z hz => ?_⟩
 · have := Zg5 Tryd.underlying154 Tryd.underlying5 Z0cR hd i z hz
   rw [World.var?_cell hg hvar i]
   simpa using this
 · have := Zg5 Tryd.underlying155 Tryd.underlying5 Z0cR hd' i z hz
   rw [World.var?_cell hg' hvar' i]
   simpa using this
def start (fz : Nat → Prop) (W : World) : Gh := ⟨fun _ => (0, 0), fun k => k = 0 ∨ k = 1 ∨ fz k, [], W⟩
theorem Z0qP : globs 0 = some (tab0.map (AV.int .u8)) := rfl
theorem Z0qQ : globs 1 = some (tab1.map (AV.int .u8)) := rfl
theorem Z0s2 (k : Nat) : globs (k + 2) = none := rfl
theorem Zoy {W : World} {b o : Nat} {v : Value} (h : W.cell? ⟨b, o, none⟩ = some v) : b < W.heap.size := by
 simp only [World.cell?] at h
 split at h
 · rename_i hb; exact (Array.getElem?_eq_some_iff.1 hb).1
 · exact absurd h (by simp)
theorem Zo8 {fz : Nat → Prop} {W : World} {b : Nat} {l : List Int} (h : ∀ (i : Nat) (z : Int), l[i]? = some z → W.cell? ⟨b, i, none⟩ = some (.int .u8 z)) : VRc fz W (l.map (AV.int .u8)) noRef b 0 := by
 rw [Z4X]
 intro i a hi
 rw [List.getElem?_map] at hi
 cases hz : l[i]? with
 | none => rw [hz] at hi; simp at hi
 | some z =>
   rw [hz] at hi
   simp only [Option.map_some, Option.some.injEq] at hi
   subst hi
   exact ⟨_, by rw [Nat.zero_add]; exact h i z hz, rfl, by simp only [VR]⟩
theorem Z08J {fz : Nat → Prop} {W : World} (h : laidMet Tryd.prog laid W) (hfz : ∀ k, fz k → k < W.heap.size) : Inv E (start fz W) := by
 obtain ⟨h0, h1⟩ := ZyA h
 refine ⟨fun _ _ h => by simp [start, Z0V] at h, fun _ _ _ _ h => by simp [start, Z0V] at h, fun _ _ h => by simp [start, Z0V] at h, fun _ _ h => by simp [start, Z0V] at h, ?_, ?_⟩
 · rintro k (rfl | rfl | hk)
   · exact Zoy (h0 0 0 rfl)
   · exact Zoy (h1 0 0 rfl)
   · exact hfz k hk
 · intro k cells hk
   change globs k = some cells at hk
   match k with
   | 0 => rw [Z0qP] at hk; obtain rfl := Option.some.inj hk; exact ⟨.inl rfl, Zo8 h0⟩
   | 1 => rw [Z0qQ] at hk; obtain rfl := Option.some.inj hk; exact ⟨.inr (.inl rfl), Zo8 h1⟩
   | k + 2 => rw [Z0s2] at hk; exact absurd hk (by simp)
theorem Z0ko {C : Callee} (hC : CS Tryd.prog E C) {f : FuncId} {args : List AV} {H' : AHeap} (h : C f args [] 0 = some (.bool true, H')) {fz : Nat → Prop} {W : World} (hl : laidMet Tryd.prog laid W) (hfz : ∀ k, fz k → k < W.heap.size) {vs : List Value}
   (hs : (start fz W).Rs args vs) : Calls Tryd.prog f vs.toArray W fun e w' => e = .returned (.bool true) ∧ Below W.heap.size W w' := by
 refine (hC f args [] 0 _ _ h (start fz W) vs rfl (Z08J hl hfz) hs).mono ?_
 intro e w' he
 cases e with
 | returned v =>
   obtain ⟨g', rfl, _, _, hA, hv⟩ := he
   simp only [Gh.R, VR] at hv
   subst hv
   exact ⟨rfl, hA.os, hA.tape, hA.out, hA.size, fun k hk => hA.old k hk ZaS⟩
 | panicked => exact he.elim
 | outgrown => exact he.elim
def ZxC (os : Os) : World :=
 let w0 := World.holding Tryd.prog os ⟨#[], #[], []⟩
 { w0 with heap := (w0.heap.modify 0 fun
     | .cells _ t frozen => .cells (tab0.map (Value.int .u8)).toArray t frozen
     | o => o).modify 1 fun
     | .cells _ t frozen => .cells (tab1.map (Value.int .u8)).toArray t frozen
     | o => o }
theorem Z0f4 (os : Os) (args : Array Value) : laidMet Tryd.prog laid ((ZxC os).forCall (fun _ _ => 0) ⟨#[], args, []⟩).memory :=
 laidMet_of_run (ps := MemPlace.row ⟨0, 0, none⟩ 32 ++ MemPlace.row ⟨1, 0, none⟩ 64) 8 (by kernel_rfl) (by kernel_rfl) (by kernel_rfl)
end Go.AM.YtgfnbmfjbjopkaaDoor
end
noncomputable section
namespace Go.AM
theorem nrfl {α : Type} {a b : α} (h : a = b) : a = b := h
theorem nf {α : Type} {a : α} : a = a := nrfl rfl
def kL : Code → Code
 | .seq a _ => a
 | c => c
def kR : Code → Code
 | .seq _ b => b
 | c => c
def kT : Code → Code
 | .cond _ t _ => t
 | c => c
def kE : Code → Code
 | .cond _ _ e => e
 | c => c
def kB : Code → Code
 | .block _ b => b
 | .loop b => b
 | .scope b => b
 | c => c
def kO : Code → Array Oper
 | .region _ ops _ => ops
 | _ => #[]
def kBody (f : Func) : Code := f.body.getD .skip
def opN (ops : Array Oper) (i : Nat) : Oper := ops.toList.getD i ⟨none, .move (.tmp 0), 0, "", #[], none⟩
abbrev XR := Option (Ex × St)
def seqX (r : XR) (k : St → XR) : XR :=
 match r with
 | some (.normal, s) => k s
 | r => r
def bindR (r : Option St) (k : St → Option St) : Option St :=
 match r with
 | some s => k s
 | none => none
def regX (r : Option St) (k : St → St) : XR :=
 match r with
 | some s => some (.normal, k s)
 | none => none
def condX (v : AV) (t e : XR) : XR :=
 match v with
 | .bool true => t
 | .bool false => e
 | _ => none
def blockX (id : Nat) (k : St → St) (r : XR) : XR :=
 match r with
 | some (.exit i, s) => match Nat.beq i id with
   | true => some (.normal, k s)
   | false => some (.exit i, s)
 | some (.normal, s) => some (.normal, k s)
 | r => r
def fset : AFr → Nat → AV → AFr
 | [], _, _ => []
 | (k, a) :: t, i, b => if k = i then (k, b) :: t else (k, a) :: fset t i b
def gd (φ : AFr) (k : Nat) (want : Bool) (no yes : AFr → Option St) : Option St :=
 match fget φ k with
 | .bool b => if b = want then yes (fset φ k (.bool want)) else no (fset φ k (.bool !want))
 | .tup _ => no φ
 | _ => none
def putD (d : Option Nat) (φ : AFr) (v : AV) : AFr :=
 match d with
 | some d => fput φ d v
 | none => φ
def stp (d : Option Nat) (φ : AFr) (H : AHeap) (r : Rd (AV × Ups)) : Option St :=
 match r.run H with
 | some (v, us) => some (putD d φ v, upds H us)
 | none => none
def mutX (d : Option Nat) (φ : AFr) (r : Option (AV × AHeap)) : Option St :=
 match r with
 | some (v, H) => some (putD d φ v, H)
 | none => none
def callV (E : Env) (C : Callee) (Bn : Nat) (d : Option Nat) (site : Nat → Nat) (φ : AFr) (H : AHeap) (f : AV) (args : List AV) (keep : Bool) : Option St :=
 match mutV E f args with
 | some (g, asx) => mutX d φ (C g asx H Bn)
 | none => stp d φ H (opCallV E C site keep f args)
def bodyX (E : Env) (rs : List ResultVar) (r : XR) : Option (AV × AHeap) :=
 match r with
 | some (.normal, s) => match resA E s rs with
   | some v => some (v, s.2)
   | none => none
 | some (.ret, s) => match resA E s rs with
   | some v => some (v, s.2)
   | none => none
 | _ => none
noncomputable section
variable {E : Env} {C : Callee} {fg : Nat → List Nat} {B n N : Nat} {E0 : AHeap}
theorem Z4 {c a b : Code} (h : c = .seq a b) (s : St) : execA E C fg B n E0 N c s = seqX (execA E C fg B n E0 N a s) (execA E C fg B n E0 N b) := by
 subst h; simp only [execA, seqX]; rfl
theorem ZV {c : Code} (h : c = .skip) (s : St) : execA E C fg B n E0 N c s = some (.normal, s) := by subst h; simp only [execA]
theorem Z06 {c : Code} (h : c = .ret) (s : St) : execA E C fg B n E0 N c s = some (.ret, s) := by subst h; simp only [execA]
theorem Z0I {c : Code} {id} (h : c = .exit id) (s : St) : execA E C fg B n E0 N c s = some (.exit id, s) := by subst h; simp only [execA]
theorem Zb {c : Code} {id ops} {l : List Nat} (h : c = .region id ops false) (hl : fg id = l) (s : St) : execA E C fg B n E0 N c s = regX (runA E C B n ops ops.toList s) (fun s => gcM E0 l (forget s.1 l, s.2)) := by
 subst h; subst hl; simp only [execA, regA, regX]
 split <;> rename_i h <;> simp only [h]
theorem Z0Z {c : Code} {id ops} {l : List Nat} (h : c = .region id ops true) (hl : fg id = l) (s : St) : execA E C fg B n E0 N c s = regX (drawA E C B n ops s) (fun s => gcM E0 l (forget s.1 l, s.2)) := by
 subst h; subst hl; simp only [execA, regA, regX]
 split <;> rename_i h <;> simp only [h]
theorem ZN {c : Code} {x t e} (h : c = .cond x t e) (s : St) : execA E C fg B n E0 N c s = condX (evO E s.1 x) (execA E C fg B n E0 N t s) (execA E C fg B n E0 N e s) := by
 subst h; simp only [execA, condX]; rfl
theorem ZK {c : Code} {id b} {l : List Nat} (h : c = .block id b) (hl : fg (id + 1000000) = l) (s : St) : execA E C fg B n E0 N c s = blockX id (fun s => (forget s.1 l, s.2)) (execA E C fg B n E0 N b s) := by
 subst h; subst hl; simp only [execA, blockX]; rfl
theorem Z0H {c : Code} {b} (h : c = .loop b) (s : St) : execA E C fg B n E0 N c s = iterA (execA E C fg B n E0 N b) (headA E0) N s := by
 subst h; simp only [execA]
theorem ZUv : ∀ (φ : AFr) (i : Nat), fset φ i (fget φ i) = φ
 | [], _ => rfl
 | (k, a) :: t, i => by
   simp only [fset, ZTD]
   cases h : Nat.beq k i
   · rw [if_neg (Nat.ne_of_beq_eq_false h)]
     simp only [cond_false]
     rw [ZUv t i]
   · rw [if_pos (Nat.eq_of_beq_eq_true h)]; rfl
theorem s_gd {ops : Array Oper} {o oj : Oper} {j dj : Nat} {want : Bool} {φ : AFr} {H : AHeap} {no yes : AFr → Option St} (hg : o.guard = some (j, want)) (hj : ops[j]? = some oj) (hd : oj.dst = some dj) (hn : ∀ φ, fin n o φ (.tup []) H = no φ) (hy : ∀ φ, goA E C B n o (φ, H) = yes φ) :
   stepA E C B n ops o (φ, H) = gd φ dj want no yes := by
 simp only [stepA, hg, wantA, hj, hd, gd]
 have hs := ZUv φ dj
 cases h : fget φ dj <;> simp only [hn, hy]
 rename_i b
 rw [h] at hs
 cases b <;> cases want <;> simp [hs]
theorem Zc (ops : Array Oper) (s : St) : runA E C B n ops [] s = some s := rfl
theorem Za (ops : Array Oper) (o : Oper) (os : List Oper) (s : St) : runA E C B n ops (o :: os) s = bindR (stepA E C B n ops o s) (runA E C B n ops os) := by
 simp only [runA, bindR]; rfl
theorem Z0a {fgf : FuncId → Nat → List Nat} {f : FuncId} {nt : Nat} {rs : Array ResultVar} {c : Code} (h : fInfo E f = some ⟨nt, rs, c⟩) (args : List AV) (H : AHeap) :
   bodyA E C fgf N f args H B = bodyX E rs.toList (execA E C (fgf f) B nt H N c (Zw args 0 [], H)) := by
 simp only [bodyA, h, bodyX]; rfl
@[simp] theorem Zji (s : St) (k) : seqX (some (.normal, s)) k = k s := rfl
@[simp] theorem Z0o (s : St) (k) : seqX (some (.ret, s)) k = some (.ret, s) := rfl
@[simp] theorem ZR (i) (s : St) (k) : seqX (some (.exit i, s)) k = some (.exit i, s) := rfl
@[simp] theorem ZjJ (p : Prop) [Decidable p] (a b : XR) (k) : seqX (if p then a else b) k = if p then seqX a k else seqX b k := by split <;> rfl
@[simp] theorem Zbo (k) : regX none k = none := rfl
@[simp] theorem Z8 (b : Bool) (t e : XR) : condX (.bool b) t e = if b = true then t else e := by cases b <;> rfl
@[simp] theorem ZJ (id : Nat) (k) (i : Nat) (s : St) : blockX id k (some (.exit i, s)) = if i = id then some (.normal, k s) else some (.exit i, s) := by
 simp only [blockX]
 split <;> rename_i h
 · rw [if_pos (Nat.eq_of_beq_eq_true h)]
 · rw [if_neg (Nat.ne_of_beq_eq_false h)]
@[simp] theorem Zg (id : Nat) (k) (s : St) : blockX id k (some (.normal, s)) = some (.normal, k s) := rfl
@[simp] theorem Z0e (id : Nat) (k) (s : St) : blockX id k (some (.ret, s)) = some (.ret, s) := rfl
@[simp] theorem Ze4 (id : Nat) (k) (p : Prop) [Decidable p] (a b) : blockX id k (if p then a else b) = if p then blockX id k a else blockX id k b := by split <;> rfl
theorem ZW (k : Nat) (a : AV) (t : AFr) (i : Nat) (b : AV) : fset ((k, a) :: t) i b = if k = i then (k, b) :: t else (k, a) :: fset t i b := rfl
@[simp] theorem Zga (rs) (p : Prop) [Decidable p] (a b) : bodyX E rs (if p then a else b) = if p then bodyX E rs a else bodyX E rs b := by split <;> rfl
theorem ZF (rs) (s : St) : bodyX E rs (some (.ret, s)) = (resA E s rs).map fun v => (v, s.2) := by
 simp only [bodyX]; cases resA E s rs <;> rfl
theorem ZUM (rs) (s : St) : bodyX E rs (some (.normal, s)) = (resA E s rs).map fun v => (v, s.2) := by
 simp only [bodyX]; cases resA E s rs <;> rfl
theorem Z7 (d : Nat) (φ : AFr) (v : AV) : putD (some d) φ v = fput φ d v := rfl
theorem Zk (φ : AFr) (v : AV) : putD none φ v = φ := rfl
theorem Z61 (f : St → XR) (hd : St → St) (k : Nat) (s : St) : iterA f hd (k + 1) s = seqX (f (hd s)) (iterA f hd k) := by
 simp only [iterA, seqX]; rfl
theorem Z2M {f : St → XR} {hd : St → St} (st : Nat → St) : ∀ (n F k : Nat) (s0 : St), hd s0 = st k → n < F →
   (∀ i, k ≤ i → i < k + n → ∃ s', f (st i) = some (.normal, s') ∧ hd s' = st (i + 1)) → ∀ {e : Ex} {se : St}, f (st (k + n)) = some (e, se) → e ≠ .normal → iterA f hd F s0 = some (e, se)
 | 0, F + 1, k, s0, h0, _, _, e, se, he, hn => by
   rw [Z61, h0]
   rw [Nat.add_zero] at he
   rw [he]
   cases e with
   | normal => exact absurd rfl hn
   | ret => rfl
   | exit i => rfl
 | n + 1, F + 1, k, s0, h0, hF, h, e, se, he, hn => by
   obtain ⟨s', h1, h2⟩ := h k (Nat.le_refl _) (by omega)
   rw [Z61, h0, h1, Zji]
   refine Z2M st n F (k + 1) s' h2 (by omega) (fun i h3 h4 => h i (by omega) (by omega)) (e := e) (se := se) ?_ hn
   rw [show k + 1 + n = k + (n + 1) by omega]
   exact he
 | _, 0, _, _, _, hF, _, _, _, _, _ => absurd hF (by omega)
theorem Z1L {f : AV} {args : List AV} (h : mutV E f args = none) (Bn : Nat) (d : Option Nat) (site) (φ H) (keep) : callV E C Bn d site φ H f args keep = stp d φ H (opCallV E C site keep f args) := by
 simp only [callV, h]
theorem Z2L {site : Nat → Nat} {seen : List Nat} {f : FuncId} {args : List AV} {r : AV} {H' : AHeap} (h : C f args [] 0 = some (r, H')) (ht : frzRet H' r = some (r, H')) (hi : ∀ site, imp H' site 200 r [] [] = some (r, [], [])) (hl : r.leads = false) :
   aBack site true seen (thaw C f args [] 0) = .pure (r, []) := by
 simp only [thaw, h, ht, aBack, sitesB, freeOff, allFree, aBackAt, hi, List.map_nil, AM.apart, if_true, freeAll, Rd.bind, hl]
theorem Z1k {site : Nat → Nat} {seen : List Nat} {f : FuncId} {args : List AV} {k : IntKind} {z : Int} (h : ∃ H', C f args [] 0 = some (.int k z, H')) : aBack site true seen (thaw C f args [] 0) = .pure (.int k z, []) := by
 obtain ⟨H', h⟩ := h; exact Z2L h rfl (fun _ => rfl) rfl
theorem Z5Z {site : Nat → Nat} {seen : List Nat} {f : FuncId} {args : List AV} {b : Bool} (h : ∃ H', C f args [] 0 = some (.bool b, H')) : aBack site true seen (thaw C f args [] 0) = .pure (.bool b, []) := by
 obtain ⟨H', h⟩ := h; exact Z2L h rfl (fun _ => rfl) rfl
theorem Z9G {site : Nat → Nat} {seen : List Nat} {f : FuncId} {args : List AV} {k k' : IntKind} {z z' : Int} (h : ∃ H', C f args [] 0 = some (.tup [.int k z, .int k' z'], H')) : aBack site true seen (thaw C f args [] 0) = .pure (.tup [.int k z, .int k' z'], []) := by
 obtain ⟨H', h⟩ := h; exact Z2L h rfl (fun _ => rfl) rfl
theorem ZCe {k : IntKind} {z : Int} (h1 : kLo k ≤ z) (h2 : z ≤ kHi k) : wrp k z = z := by
 simp only [wrp, if_pos (And.intro h1 h2)]
theorem Z0i {z : Int} (h : -9223372036854775808 ≤ z ∧ z ≤ 9223372036854775807) : wrp .i64 z = z := ZCe h.1 h.2
theorem ZD {k : Nat} (h : k < 1000000) : wrp .i64 ((k : Int) + 1) = ((k + 1 : Nat) : Int) := by
 rw [Z0i (by omega)]; rfl
abbrev rsOf (r : Option (AV × AHeap)) : Option AV := r.map (·.1)
theorem Z1j {r : Option (AV × AHeap)} {v : AV} (h : rsOf r = some v) : ∃ H', r = some (v, H') := by
 cases r with
 | none => exact absurd h (by simp)
 | some x => obtain ⟨a, H⟩ := x; simp at h; exact ⟨H, by rw [h]⟩
theorem Zo (E0 : AHeap) (s : St) : gcM E0 [] s = s := rfl
theorem Zm (E0 : AHeap) (a : Nat) (l : List Nat) (s : St) : gcM E0 (a :: l) s = if a = 999999 then headA E0 s else s := by
 by_cases h : a = 999999
 · subst h; rfl
 · rw [if_neg h]; unfold gcM; split
   · rename_i e; exact absurd (List.cons.inj e).1 h
   · rfl
theorem Z2 (k : Nat) (a : AV) (t : AFr) (i : Nat) : fget ((k, a) :: t) i = if k = i then a else fget t i := by
 simp only [ZTD]
 cases h : Nat.beq k i
 · rw [if_neg (Nat.ne_of_beq_eq_false h)]; rfl
 · rw [if_pos (Nat.eq_of_beq_eq_true h)]; rfl
theorem Z0G (i : Nat) (b : AV) : fput [] i b = [(i, b)] := rfl
theorem Z1 (k : Nat) (c : AV) (t : AFr) (i : Nat) (b : AV) : fput ((k, c) :: t) i b = if k = i then (i, b) :: t else if i ≤ k then (k, c) :: fput t i b else (i, b) :: (k, c) :: t := by
 simp only [Z2E]
 cases h : Nat.beq k i
 · rw [if_neg (Nat.ne_of_beq_eq_false h)]
   simp only [cond_false]
   cases h2 : Nat.ble i k
   · rw [if_neg (by intro h3; rw [Nat.ble_eq_true_of_le h3] at h2; exact absurd h2 (by simp))]; rfl
   · rw [if_pos (Nat.le_of_ble_eq_true h2)]; rfl
 · rw [if_pos (Nat.eq_of_beq_eq_true h)]; rfl
theorem Z3 (l : List Nat) : forget [] l = [] := rfl
theorem Z0 (k : Nat) (a : AV) (t : AFr) (l : List Nat) : forget ((k, a) :: t) l = if l.elem k = true then forget t l else (k, a) :: forget t l := by
 simp only [ZjW]; cases l.elem k <;> rfl
theorem Zl (i : Nat) : hget [] i = none := rfl
theorem Zd (k : Nat) (b : Blk) (t : AHeap) (i : Nat) : hget ((k, b) :: t) i = if k = i then some b else hget t i := by
 simp only [Z6e]
 cases h : Nat.beq k i
 · rw [if_neg (Nat.ne_of_beq_eq_false h)]; rfl
 · rw [if_pos (Nat.eq_of_beq_eq_true h)]; rfl
theorem Zx (i : Nat) (b : Blk) : hset [] i b = [(i, b)] := rfl
theorem Zi (k : Nat) (c : Blk) (t : AHeap) (i : Nat) (b : Blk) : hset ((k, c) :: t) i b = if k = i then (i, b) :: t else if k ≤ i then (k, c) :: hset t i b else (i, b) :: (k, c) :: t := by
 simp only [Z4h]
 cases h : Nat.beq k i
 · rw [if_neg (Nat.ne_of_beq_eq_false h)]
   simp only [cond_false]
   cases h2 : Nat.ble k i
   · rw [if_neg (by intro h3; rw [Nat.ble_eq_true_of_le h3] at h2; exact absurd h2 (by simp))]; rfl
   · rw [if_pos (Nat.le_of_ble_eq_true h2)]; rfl
 · rw [if_pos (Nat.eq_of_beq_eq_true h)]; rfl
theorem Zf (i gl : Nat) : Rd.liveBlk i gl = .get i fun
   | some b => if gl = b.cells.length then (match b.st with | .mp => .fail | _ => .pure b) else .fail
   | none => .fail := by
 simp only [Rd.liveBlk]
 congr 1
 funext b
 cases b with
 | none => rfl
 | some b =>
   simp only
   cases h : Nat.beq gl b.cells.length
   · rw [if_neg (Nat.ne_of_beq_eq_false h)]; rfl
   · rw [if_pos (Nat.eq_of_beq_eq_true h)]; rfl
theorem Z03K (k t o : Nat) : freeOff [k] (t + 1) o = .get (k + o) fun
   | none => .pure o
   | some _ => freeOff [k] t (o + 1048576) := by
 rw [freeOff]
 generalize freeOff [k] t (o + 1048576) = z
 simp only [List.map_cons, List.map_nil, allFree, Rd.bind]
 congr 1
 funext b
 cases b <;> rfl
theorem fo6 (k : Nat) : freeOff [k] 6 0 = .get k fun
   | none => .pure 0
   | some _ => freeOff [k] 5 1048576 := by
 have := Z03K k 5 0
 rw [Nat.add_zero, Nat.zero_add] at this
 exact this
theorem fo5 (k : Nat) : freeOff [k] 5 1048576 = .get (k + 1048576) fun
   | none => .pure 1048576
   | some _ => freeOff [k] 4 2097152 := by
 have := Z03K k 4 1048576
 simp only [Nat.reduceAdd] at this
 exact this
theorem Z60 (φ : AFr) (H : AHeap) (h : refsF φ = []) : headA [] (φ, H) = (φ, []) := by
 have h1 : ∀ H : AHeap, keepB [] [] H = [] := by
   intro H
   induction H with
   | nil => rfl
   | cons p t ih => obtain ⟨i, b⟩ := p; simp only [keepB, Z0V, List.elem_nil, Option.isSome_none, Bool.or_false, cond_false, ih]
 simp only [headA, h, mark, h1, gcIf, closedB, allHeld, closedH, Bool.and_true]
def stepT (E : Env) (C : Callee) (B n : Nat) (ops : Array Oper) (o : Oper) (s : St) : Option (St × Tr) := (stepA E C B n ops o s).map fun s' => (s', trA E C B n ops o s)
def goT (E : Env) (C : Callee) (B n : Nat) (o : Oper) (s : St) : Option (St × Tr) := (goA E C B n o s).map fun s' => (s', trG E C B n o s)
def trS (r : Rd (AV × Ups)) (H : AHeap) : Tr :=
 match r.run H with
 | some (_, us) => ⟨false, r.foot H, us.map (·.1)⟩
 | none => ⟨true, [], []⟩
def stpT (d : Option Nat) (φ : AFr) (H : AHeap) (r : Rd (AV × Ups)) : Option (St × Tr) :=
 match r.run H with
 | some (v, us) => some ((putD d φ v, upds H us), ⟨false, r.foot H, us.map (·.1)⟩)
 | none => none
theorem Zj {o : Oper} {φ : AFr} {H : AHeap} {d} {R : Rd (AV × Ups)} (h : goA E C B n o (φ, H) = stp d φ H R) (ht : trG E C B n o (φ, H) = trS R H) : goT E C B n o (φ, H) = stpT d φ H R := by
 simp only [goT, h, ht, stp, stpT, trS]
 cases R.run H <;> rfl
theorem ZS {o : Oper} {φ : AFr} {H : AHeap} {s'} (h : goA E C B n o (φ, H) = some s') (ht : trG E C B n o (φ, H) = ⟨false, [], []⟩) : goT E C B n o (φ, H) = some (s', ⟨false, [], []⟩) := by
 simp only [goT, h, ht, Option.map_some]
theorem Z9 {ops : Array Oper} {o : Oper} {s : St} {x} (hg : o.guard = none) (h : goT E C B n o s = x) : stepT E C B n ops o s = x := by
 rw [← h]; simp only [stepT, goT, stepA, trA, hg]
def rtX (n i : Nat) (r : Option (St × Tr)) (k : St → Option (St × List (Nat × Tr))) : Option (St × List (Nat × Tr)) :=
 match r with
 | some (s', t) => match neat n s' with
   | true => match k s' with
     | some (s2, l) => some (s2, (i, t) :: l)
     | none => none
   | false => none
 | none => none
theorem ZP (ops : Array Oper) (i : Nat) (s : St) : runT E C B n ops [] i s = some (s, []) := rfl
theorem Zz (ops : Array Oper) (o : Oper) (os : List Oper) (i : Nat) (s : St) : runT E C B n ops (o :: os) i s = rtX n i (stepT E C B n ops o s) (runT E C B n ops os (i + 1)) := by
 simp only [runT, stepT, rtX]
 cases stepA E C B n ops o s with
 | none => rfl
 | some s' =>
   simp only [Option.map_some]
   cases neat n s' <;> rfl
def addT (i : Nat) (t : Tr) (r : Option (St × List (Nat × Tr))) : Option (St × List (Nat × Tr)) :=
 match r with
 | some (s2, l) => some (s2, (i, t) :: l)
 | none => none
theorem ZE (i : Nat) (s' : St) (t : Tr) (k) : rtX n i (some (s', t)) k = if neat n s' = true then addT i t (k s') else none := by
 simp only [rtX, addT]; cases neat n s' <;> rfl
theorem ZeR (i : Nat) (k) : rtX n i none k = none := rfl
theorem ZH (i : Nat) (t : Tr) (s l) : addT i t (some (s, l)) = some (s, (i, t) :: l) := rfl
theorem Zbv (i : Nat) (t : Tr) : addT i t none = none := rfl
def drX (ops : Array Oper) (r : Option (St × List (Nat × Tr))) : Option St :=
 match r with
 | some (s', l) => if dynOk ops l = true then some s' else none
 | none => none
theorem ZO (ops : Array Oper) (s' l) : drX ops (some (s', l)) = if dynOk ops l = true then some s' else none := rfl
theorem ZeX (ops : Array Oper) : drX ops none = none := rfl
theorem Z0J {ops : Array Oper} (h : statOk ops = true) (s : St) : drawA E C B n ops s = if neat n s = true then drX ops (runT E C B n ops ops.toList 0 s) else none := by
 simp only [drawA, h, drX]
 cases neat n s with
 | false => rfl
 | true =>
   simp only [if_true]
   cases runT E C B n ops ops.toList 0 s with
   | none => rfl
   | some x =>
     obtain ⟨s', l⟩ := x
     simp only
     cases dynOk ops l <;> rfl
theorem Z0t {ops : Array Oper} {an : List (List Nat)} (h : ancs ops.toList [] = an) (l) : dynOk ops l = (!writing l || Zs an (Zq l)) := by simp only [dynOk, h]
theorem ZL (n : Nat) (φ : AFr) (H : AHeap) : neat n (φ, H) = (descF n φ && ascH 0 H) := rfl
theorem Zt (h : Nat) : descF h [] = true := rfl
theorem Zn (hi k : Nat) (a : AV) (t : AFr) : descF hi ((k, a) :: t) = (decide (k + 1 ≤ hi) && descF k t) := by
 simp only [Z7D]; congr 1
 cases h : Nat.ble (k + 1) hi
 · rw [eq_comm, decide_eq_false_iff_not]; intro h2; rw [Nat.ble_eq_true_of_le h2] at h; exact absurd h (by simp)
 · rw [eq_comm, decide_eq_true_eq]; exact Nat.le_of_ble_eq_true h
theorem ZC (h : Nat) : ascH h [] = true := rfl
theorem Zv (lo k : Nat) (a : Blk) (t : AHeap) : ascH lo ((k, a) :: t) = (decide (lo ≤ k) && ascH (k + 1) t) := by
 simp only [Z9t]; congr 1
 cases h : Nat.ble lo k
 · rw [eq_comm, decide_eq_false_iff_not]; intro h2; rw [Nat.ble_eq_true_of_le h2] at h; exact absurd h (by simp)
 · rw [eq_comm, decide_eq_true_eq]; exact Nat.le_of_ble_eq_true h
end
end Go.AM
end
noncomputable section
namespace Go.AM.YtgfnbmfjbjopkaaDoor
open Go Go.AM
abbrev XQ (f n : Nat) (c a b : Code) : Prop := ∀ {C : Callee} {B N : Nat} {E0 : AHeap} {s : St}, execA E C (fg f) B n E0 N c s = seqX (execA E C (fg f) B n E0 N a s) (execA E C (fg f) B n E0 N b)
abbrev XG (f n : Nat) (c : Code) (r : Array Oper) (l : List Nat) : Prop := ∀ {C : Callee} {B N : Nat} {E0 : AHeap} {s : St}, execA E C (fg f) B n E0 N c s = regX (runA E C B n r r.toList s) (fun s => gcM E0 l (forget s.1 l, s.2))
abbrev XD (f n : Nat) (c : Code) (r : Array Oper) (l : List Nat) : Prop := ∀ {C : Callee} {B N : Nat} {E0 : AHeap} {s : St}, execA E C (fg f) B n E0 N c s = regX (drawA E C B n r s) (fun s => gcM E0 l (forget s.1 l, s.2))
abbrev XC (f n : Nat) (c : Code) (k : Nat) (t e : Code) : Prop := ∀ {C : Callee} {B N : Nat} {E0 : AHeap} {φ : AFr} {H : AHeap}, execA E C (fg f) B n E0 N c (φ, H) = condX (fget φ k) (execA E C (fg f) B n E0 N t (φ, H)) (execA E C (fg f) B n E0 N e (φ, H))
variable {C : Callee} {B N : Nat} {E0 : AHeap} (φ : AFr) (H : AHeap) (s : St)
theorem T_3 : E.T 3 = some ⟨.int .i64, 1, 8, (some [.int .i64 0])⟩ := nf
theorem T_5 : E.T 5 = some ⟨.int .u8, 1, 1, (some [.int .u8 0])⟩ := nf
theorem T_22 : E.T 22 = some ⟨.slice 62, 1, 24, (some [.nilsl])⟩ := nf
theorem T_23 : E.T 23 = some ⟨.slice 64, 1, 24, (some [.nilsl])⟩ := nf
theorem T_25 : E.T 25 = some ⟨.struct [(0, 22, 1), (1, 23, 1)] false, 2, 48, (some [.nilsl, .nilsl])⟩ := nf
theorem T_36 : E.T 36 = some ⟨.slice 3, 1, 24, (some [.nilsl])⟩ := nf
theorem T_53 : E.T 53 = some ⟨.arr 5 5 true, 5, 5, (some [.int .u8 0, .int .u8 0, .int .u8 0, .int .u8 0, .int .u8 0])⟩ := nf
theorem T_54 : E.T 54 = some ⟨.arr 6 53 false, 30, 30, (some [.int .u8 0, .int .u8 0, .int .u8 0, .int .u8 0, .int .u8 0, .int .u8 0, .int .u8 0, .int .u8 0, .int .u8 0, .int .u8 0, .int .u8 0, .int .u8 0, .int .u8 0, .int .u8 0, .int .u8 0, .int .u8 0, .int .u8 0, .int .u8 0, .int .u8 0, .int .u8 0, .int .u8 0, .int .u8 0, .int .u8 0, .int .u8 0, .int .u8 0, .int .u8 0, .int .u8 0, .int .u8 0, .int .u8 0, .int .u8 0])⟩ := nf
theorem T_55 : E.T 55 = some ⟨.int .u16, 1, 2, (some [.int .u16 0])⟩ := nf
theorem T_56 : E.T 56 = some ⟨.arr 6 5 true, 6, 6, (some [.int .u8 0, .int .u8 0, .int .u8 0, .int .u8 0, .int .u8 0, .int .u8 0])⟩ := nf
theorem T_58 : E.T 58 = some ⟨.struct [(0, 5, 1), (1, 54, 30), (31, 55, 1), (32, 56, 6)] false, 38, 40, (some [.int .u8 0, .int .u8 0, .int .u8 0, .int .u8 0, .int .u8 0, .int .u8 0, .int .u8 0, .int .u8 0, .int .u8 0, .int .u8 0, .int .u8 0, .int .u8 0, .int .u8 0, .int .u8 0, .int .u8 0, .int .u8 0, .int .u8 0, .int .u8 0, .int .u8 0, .int .u8 0, .int .u8 0, .int .u8 0, .int .u8 0, .int .u8 0, .int .u8 0, .int .u8 0, .int .u8 0, .int .u8 0, .int .u8 0, .int .u8 0, .int .u8 0, .int .u16 0, .int .u8 0, .int .u8 0, .int .u8 0, .int .u8 0, .int .u8 0, .int .u8 0])⟩ := nf
theorem T_62 : E.T 62 = some ⟨.struct [(0, 3, 1), (1, 3, 1), (2, 3, 1), (3, 3, 1), (4, 3, 1)] true, 5, 40, (some [.int .i64 0, .int .i64 0, .int .i64 0, .int .i64 0, .int .i64 0])⟩ := nf
theorem T_64 : E.T 64 = some ⟨.arr 2 3 true, 2, 16, (some [.int .i64 0, .int .i64 0])⟩ := nf
theorem Z0P : E.T 106 = some ⟨.slice 126, 1, 24, (some [.nilsl])⟩ := nf
theorem Z46 : E.T 107 = some ⟨.slice 121, 1, 24, (some [.nilsl])⟩ := nf
theorem ZZ : E.T 109 = some ⟨.struct [(0, 106, 1), (1, 107, 1)] false, 2, 48, (some [.nilsl, .nilsl])⟩ := nf
theorem Z18 : E.T 121 = some ⟨.int .u64, 1, 8, (some [.int .u64 0])⟩ := nf
theorem Z0E : E.T 126 = some ⟨.arr 5 3 true, 5, 40, (some [.int .i64 0, .int .i64 0, .int .i64 0, .int .i64 0, .int .i64 0])⟩ := nf
theorem Zqj : E.T 135 = some ⟨.slice 53, 1, 24, (some [.nilsl])⟩ := nf
def ZgA := kBody Proofs.Tryd.f126
def ZQw := kL ZgA
def Zcz := kO ZQw
def ZQp := opN Zcz 0
def ZL6 := opN Zcz 1
theorem Z0oD : XG 126 14 ZQw Zcz [0] := Zb (by rfl) (by rfl) _
theorem Z0gh : Zcz.toList = [ZQp, ZL6] := nf
theorem Z0fs : stepA E C B 14 Zcz ZQp (φ, H) = stp (some 1) φ H (opBox (B + 1) (acells (fget φ 0))) := nf
theorem Z0ec : stepA E C B 14 Zcz ZL6 (φ, H) = stp (some 2) φ H (opBox (B + 2) (zeroCells E.T 126)) := nf
def ZsK := kR ZgA
def ZIe := kL ZsK
def Z0C := kO ZIe
def ZAi := opN Z0C 0
def ZPL := opN Z0C 1
def ZAy := opN Z0C 2
def ZOQ := opN Z0C 3
def ZDD := opN Z0C 4
def ZDI := opN Z0C 5
def ZGx := opN Z0C 6
def ZUI := opN Z0C 7
def ZRZ := opN Z0C 8
def ZQJ := opN Z0C 9
def Zx6 := opN Z0C 10
def Zym := opN Z0C 11
theorem Z0pJ : XG 126 14 ZIe Z0C [1, 3, 4, 5, 6, 7, 8, 9, 10, 11, 12, 13] := Zb (by rfl) (by rfl) _
theorem Z0fi : Z0C.toList = [ZAi, ZPL, ZAy, ZOQ, ZDD, ZDI, ZGx, ZUI, ZRZ, ZQJ, Zx6, Zym] := nf
theorem Z0e7 : stepA E C B 14 Z0C ZAi (φ, H) = stp (some 3) φ H (just (Ze E.T 62 (fget φ 1) 0)) := nf
theorem Z0dL : stepA E C B 14 Z0C ZPL (φ, H) = stp (some 4) φ H (just (aLoad E.T 3 (fget φ 3))) := nf
theorem Z0dp : stepA E C B 14 Z0C ZAy (φ, H) = stp (some 5) φ H (just (Ze E.T 62 (fget φ 1) 1)) := nf
theorem Z0fN : stepA E C B 14 Z0C ZOQ (φ, H) = stp (some 6) φ H (just (aLoad E.T 3 (fget φ 5))) := nf
theorem Z0g2 : stepA E C B 14 Z0C ZDD (φ, H) = stp (some 7) φ H (just (Ze E.T 62 (fget φ 1) 2)) := nf
theorem Z0gb : stepA E C B 14 Z0C ZDI (φ, H) = stp (some 8) φ H (just (aLoad E.T 3 (fget φ 7))) := nf
theorem Z0gr : stepA E C B 14 Z0C ZGx (φ, H) = stp (some 9) φ H (just (Ze E.T 62 (fget φ 1) 3)) := nf
theorem Z0dT : stepA E C B 14 Z0C ZUI (φ, H) = stp (some 10) φ H (just (aLoad E.T 3 (fget φ 9))) := nf
theorem Z0dB : stepA E C B 14 Z0C ZRZ (φ, H) = stp (some 11) φ H (just (Ze E.T 62 (fget φ 1) 4)) := nf
theorem Z0fl : stepA E C B 14 Z0C ZQJ (φ, H) = stp (some 12) φ H (just (aLoad E.T 3 (fget φ 11))) := nf
theorem Z09Z : stepA E C B 14 Z0C Zx6 (φ, H) = stp (some 13) φ H (justO (aBuild E.T 126 (evO E φ) [(0, Operand.tmp 4), (1, Operand.tmp 6), (2, Operand.tmp 8), (3, Operand.tmp 10), (4, Operand.tmp 12)])) := nf
theorem Z08W : stepA E C B 14 Z0C Zym (φ, H) = stp none φ H (opStore E.T 126 (fget φ 2) (fget φ 13)) := nf
def Z0an := kR ZsK
theorem Z0qq : execA E C (fg 126) B 14 E0 N Z0an s = some (.ret, s) := Z06 (by rfl) s
theorem Z0qx : XQ 126 14 ZsK ZIe Z0an := Z4 (by rfl) _
theorem Z0q3 : XQ 126 14 ZgA ZQw ZsK := Z4 (by rfl) _
theorem Z0pe : fInfo E 126 = some ⟨14, #[.cell 2 126], ZgA⟩ := nf
theorem Z0rv (args : List AV) : bodyA E C fg N 126 args H B = bodyX E [.cell 2 126] (execA E C (fg 126) B 14 H N ZgA (Zw args 0 [], H)) := Z0a Z0pe args H
def ZoE := kBody Proofs.Tryd.f99
def Z06a := kL ZoE
def Zic := kO Z06a
def Z01l := opN Zic 0
def Z02X := opN Zic 1
theorem Z0sE : XG 99 16 Z06a Zic [0, 4] := Zb (by rfl) (by rfl) _
theorem Z0jV : Zic.toList = [Z01l, Z02X] := nf
theorem Z0hL : stepA E C B 16 Zic Z01l (φ, H) = stp (some 2) φ H (opBox (B + 2) (acells (fget φ 0))) := nf
theorem Z0hI : stepA E C B 16 Zic Z02X (φ, H) = some (fput φ 4 (.int .i64 0), H) := nf
def ZzD := kR ZoE
def Z07W := kL ZzD
def Z0Q := kO Z07W
def Z05h := opN Z0Q 0
def ZZC := opN Z0Q 1
def ZWg := opN Z0Q 2
def ZZk := opN Z0Q 3
def ZVy := opN Z0Q 4
def Z04X := opN Z0Q 5
def Z04N := opN Z0Q 6
def Z00p := opN Z0Q 7
def Z049 := opN Z0Q 8
def ZVp := opN Z0Q 9
def ZPJ := opN Z0Q 10
def ZDc := opN Z0Q 11
theorem Z0rs : XG 99 16 Z07W Z0Q [1, 2, 5, 6, 7, 8, 9, 10, 11, 12, 13, 14, 15] := Zb (by rfl) (by rfl) _
theorem Z0ka : Z0Q.toList = [Z05h, ZZC, ZWg, ZZk, ZVy, Z04X, Z04N, Z00p, Z049, ZVp, ZPJ, ZDc] := nf
theorem Z0kG : stepA E C B 16 Z0Q Z05h (φ, H) = stp (some 5) φ H (just (Z5 E.T 126 (fget φ 2) (.int .i64 4))) := nf
theorem Z0mm : stepA E C B 16 Z0Q ZZC (φ, H) = stp (some 6) φ H (just (aLoad E.T 3 (fget φ 5))) := nf
theorem Z0lg : stepA E C B 16 Z0Q ZWg (φ, H) = stp (some 7) φ H (just (Z5 E.T 126 (fget φ 2) (.int .i64 3))) := nf
theorem Z0l3 : stepA E C B 16 Z0Q ZZk (φ, H) = stp (some 8) φ H (just (aLoad E.T 3 (fget φ 7))) := nf
theorem Z0mI : stepA E C B 16 Z0Q ZVy (φ, H) = some (fput φ 9 (fget φ 1), H) := nf
theorem Z0ls : stepA E C B 16 Z0Q Z04X (φ, H) = stp (some 10) φ H (just (Z5 E.T 126 (fget φ 2) (.int .i64 2))) := nf
theorem Z0nk : stepA E C B 16 Z0Q Z04N (φ, H) = stp (some 11) φ H (just (aLoad E.T 3 (fget φ 10))) := nf
theorem Z0iH : stepA E C B 16 Z0Q Z00p (φ, H) = stp (some 12) φ H (just (aBin E.T .sub 3 (fget φ 9) (fget φ 11))) := nf
theorem Z0iK : stepA E C B 16 Z0Q Z049 (φ, H) = stp (some 13) φ H (Zh E.T (B + 13) .max #[3, 3] [(.int .i64 0), (fget φ 12)]) := nf
theorem Z0jN : stepA E C B 16 Z0Q ZVp (φ, H) = stp (some 14) φ H (just (aBin E.T .mul 3 (fget φ 8) (fget φ 13))) := nf
theorem Z0do : stepA E C B 16 Z0Q ZPJ (φ, H) = stp (some 15) φ H (just (aBin E.T .add 3 (fget φ 6) (fget φ 14))) := nf
theorem Z0dt : stepA E C B 16 Z0Q ZDc (φ, H) = some (fput φ 4 (fget φ 15), H) := nf
def Z0hf := kR ZzD
theorem Z0sV : execA E C (fg 99) B 16 E0 N Z0hf s = some (.ret, s) := Z06 (by rfl) s
theorem Z0sk : XQ 99 16 ZzD Z07W Z0hf := Z4 (by rfl) _
theorem Z0rG : XQ 99 16 ZoE Z06a ZzD := Z4 (by rfl) _
theorem Z0sF : fInfo E 99 = some ⟨16, #[.tmp 4], ZoE⟩ := nf
theorem b_99 (args : List AV) : bodyA E C fg N 99 args H B = bodyX E [.tmp 4] (execA E C (fg 99) B 16 H N ZoE (Zw args 0 [], H)) := Z0a Z0sF args H
def Znx := kBody Proofs.Tryd.f88
def Z065 := kL Znx
def ZbJ := kO Z065
def Z00F := opN ZbJ 0
def Z043 := opN ZbJ 1
def Z05I := opN ZbJ 2
theorem Z69 : XG 88 156 Z065 ZbJ [0, 3] := Zb (by rfl) (by rfl) _
theorem Z31 : ZbJ.toList = [Z00F, Z043, Z05I] := nf
theorem Z3j : stepA E C B 156 ZbJ Z00F (φ, H) = stp (some 1) φ H (opBox (B + 1) (acells (fget φ 0))) := nf
theorem Z2Z : stepA E C B 156 ZbJ Z043 (φ, H) = stp (some 2) φ H (opBox (B + 2) (zeroCells E.T 109)) := nf
theorem Z3a : stepA E C B 156 ZbJ Z05I (φ, H) = some (fput φ 3 (.int .i64 0), H) := nf
def Zzy := kR Znx
def Z05Z := kL Zzy
def Z8O := kO Z05Z
def Z02m := opN Z8O 0
def ZVM := opN Z8O 1
def ZZW := opN Z8O 2
def Z00v := opN Z8O 3
theorem Z6b : XG 88 156 Z05Z Z8O [15, 16, 17] := Zb (by rfl) (by rfl) _
theorem Z33 : Z8O.toList = [Z02m, ZVM, ZZW, Z00v] := nf
theorem Z2V : stepA E C B 156 Z8O Z02m (φ, H) = stp (some 15) φ H (just (Ze E.T 25 (fget φ 1) 0)) := nf
theorem Z39 : stepA E C B 156 Z8O ZVM (φ, H) = stp (some 16) φ H (just (aLoad E.T 22 (fget φ 15))) := nf
theorem Z3n : stepA E C B 156 Z8O ZZW (φ, H) = stp (some 17) φ H (Zh E.T (B + 17) .len #[22] [(fget φ 16)]) := nf
theorem Z3l : stepA E C B 156 Z8O Z00v (φ, H) = some (fput φ 4 (fget φ 17), H) := nf
def Zzb := kR Zzy
def Z07N := kL Zzb
def ZyR := kB Z07N
def Z07U := kL ZyR
def Zbc := kO Z07U
def ZVr := opN Zbc 0
def ZZD := opN Zbc 1
def ZXq := opN Zbc 2
theorem Z5X : XG 88 156 Z07U Zbc [19, 20] := Zb (by rfl) (by rfl) _
theorem Z36 : Zbc.toList = [ZVr, ZZD, ZXq] := nf
theorem Z3d : stepA E C B 156 Zbc ZVr (φ, H) = some (fput φ 19 (fget φ 4), H) := nf
theorem Z38 : stepA E C B 156 Zbc ZZD (φ, H) = stp (some 20) φ H (just (aBin E.T .eql 3 (fget φ 19) (.int .i64 0))) := nf
theorem Z3g : stepA E C B 156 Zbc ZXq (φ, H) = some (fput φ 18 (fget φ 20), H) := nf
def ZzX := kR ZyR
def Zz1 := kT ZzX
def ZTx := kL Zz1
def Zbb := kO ZTx
def ZYx := opN Zbb 0
def Z033 := opN Zbb 1
def ZYT := opN Zbb 2
theorem Z4z : XG 88 156 ZTx Zbb [1, 4, 18, 21] := Zb (by rfl) (by rfl) _
theorem Z37 : Zbb.toList = [ZYx, Z033, ZYT] := nf
theorem Z35 : stepA E C B 156 Zbb ZYx (φ, H) = stp (some 21) φ H (justO (aBuild E.T 109 (evO E φ) [])) := nf
theorem Z3m : stepA E C B 156 Zbb Z033 (φ, H) = stp none φ H (opStore E.T 109 (fget φ 2) (fget φ 21)) := nf
theorem Z2T : stepA E C B 156 Zbb ZYT (φ, H) = some (fput φ 3 (.int .i64 4), H) := nf
def Z09O := kR Zz1
theorem Z4G : execA E C (fg 88) B 156 E0 N Z09O s = some (.ret, s) := Z06 (by rfl) s
theorem Z6d : XQ 88 156 Zz1 ZTx Z09O := Z4 (by rfl) _
def ZrT := kE ZzX
def ZV2 := kL ZrT
def Z1m := kO ZV2
def Z05q := opN Z1m 0
def Z056 := opN Z1m 1
def Z9L := opN Z1m 2
def Z00U := opN Z1m 3
def Z01V := opN Z1m 4
def Z05c := opN Z1m 5
def Z05P := opN Z1m 6
def ZYQ := opN Z1m 7
def Z05m := opN Z1m 8
theorem Z48 : XG 88 156 ZV2 Z1m [18, 23, 24, 25, 26, 27, 28, 29, 30] := Zb (by rfl) (by rfl) _
theorem Z3o : Z1m.toList = [Z05q, Z056, Z9L, Z00U, Z01V, Z05c, Z05P, ZYQ, Z05m] := nf
theorem Z3c : stepA E C B 156 Z1m Z05q (φ, H) = some (fput φ 23 (fget φ 4), H) := nf
theorem Z3i : stepA E C B 156 Z1m Z056 (φ, H) = stp (some 24) φ H (just (aBin E.T .gtr 3 (fget φ 23) (.int .i64 6))) := nf
theorem Z2U : stepA E C B 156 Z1m Z9L (φ, H) = some (fput φ 25 (fget φ 24), H) := nf
theorem Z3b : stepA E C B 156 Z1m Z00U (φ, H) = gd φ 25 false (fun φ => some (fput φ 26 (.tup []), H)) (fun φ => stp (some 26) φ H (just (Ze E.T 25 (fget φ 1) 1))) := s_gd (j := 2) (oj := Z9L) rfl rfl rfl (fun _ => rfl) (fun _ => rfl)
theorem Z32 : stepA E C B 156 Z1m Z01V (φ, H) = gd φ 25 false (fun φ => some (fput φ 27 (.tup []), H)) (fun φ => stp (some 27) φ H (just (aLoad E.T 23 (fget φ 26)))) := s_gd (j := 2) (oj := Z9L) rfl rfl rfl (fun _ => rfl) (fun _ => rfl)
theorem Z3k : stepA E C B 156 Z1m Z05c (φ, H) = gd φ 25 false (fun φ => some (fput φ 28 (.tup []), H)) (fun φ => stp (some 28) φ H (Zh E.T (B + 28) .len #[23] [(fget φ 27)])) := s_gd (j := 2) (oj := Z9L) rfl rfl rfl (fun _ => rfl) (fun _ => rfl)
theorem Z4O : stepA E C B 156 Z1m Z05P (φ, H) = gd φ 25 false (fun φ => some (fput φ 29 (.tup []), H)) (fun φ => stp (some 29) φ H (just (aBin E.T .gtr 3 (fget φ 28) (.int .i64 15)))) := s_gd (j := 2) (oj := Z9L) rfl rfl rfl (fun _ => rfl) (fun _ => rfl)
theorem Z4U : stepA E C B 156 Z1m ZYQ (φ, H) = stp (some 30) φ H (opPick (fget φ 25) (.bool true) (fget φ 29)) := nf
theorem Z4Z : stepA E C B 156 Z1m Z05m (φ, H) = some (fput φ 22 (fget φ 30), H) := nf
def Zoe := kR ZrT
def ZqH := kT Zoe
def ZOC := kL ZqH
def ZaY := kO ZOC
def ZYy := opN ZaY 0
def Z03z := opN ZaY 1
def Z03b := opN ZaY 2
theorem Z5W : XG 88 156 ZOC ZaY [1, 4, 22, 31] := Zb (by rfl) (by rfl) _
theorem Z4R : ZaY.toList = [ZYy, Z03z, Z03b] := nf
theorem Z50 : stepA E C B 156 ZaY ZYy (φ, H) = stp (some 31) φ H (justO (aBuild E.T 109 (evO E φ) [])) := nf
theorem Z4Q : stepA E C B 156 ZaY Z03z (φ, H) = stp none φ H (opStore E.T 109 (fget φ 2) (fget φ 31)) := nf
theorem Z4N : stepA E C B 156 ZaY Z03b (φ, H) = some (fput φ 3 (.int .i64 3), H) := nf
def Z0bb := kR ZqH
theorem Z6a : execA E C (fg 88) B 156 E0 N Z0bb s = some (.ret, s) := Z06 (by rfl) s
theorem Z65 : XQ 88 156 ZqH ZOC Z0bb := Z4 (by rfl) _
def Z09t := kE Zoe
theorem Z5U : execA E C (fg 88) B 156 E0 N Z09t s = some (.normal, s) := ZV (by rfl) s
theorem Z64 : XC 88 156 Zoe 22 ZqH Z09t := ZN (by rfl) _
theorem Z4q : XQ 88 156 ZrT ZV2 Zoe := Z4 (by rfl) _
theorem Z62 : XC 88 156 ZzX 18 Zz1 ZrT := ZN (by rfl) _
theorem Z67 : XQ 88 156 ZyR Z07U ZzX := Z4 (by rfl) _
theorem Z68 : execA E C (fg 88) B 156 E0 N Z07N s = blockX 0 (fun s => (forget s.1 [22], s.2)) (execA E C (fg 88) B 156 E0 N ZyR s) := ZK (by rfl) (by rfl) s
def Zp7 := kR Zzb
def ZCa := kL Zp7
def Z5q := kO ZCa
def ZZO := opN Z5q 0
def Z02A := opN Z5q 1
def Z02n := opN Z5q 2
def ZW0 := opN Z5q 3
def Z04T := opN Z5q 4
theorem ZaO : XG 88 156 ZCa Z5q [32, 33, 34] := Zb (by rfl) (by rfl) _
theorem Z8p : Z5q.toList = [ZZO, Z02A, Z02n, ZW0, Z04T] := nf
theorem Z7H : stepA E C B 156 Z5q ZZO (φ, H) = some (fput φ 32 (fget φ 4), H) := nf
theorem Z7f : stepA E C B 156 Z5q Z02A (φ, H) = stp (some 33) φ H (aMake E.T (B + 33) 107 (fget φ 32) (fget φ 32)) := nf
theorem Z7d : stepA E C B 156 Z5q Z02n (φ, H) = stp (some 34) φ H (justO (aBuild E.T 109 (evO E φ) [(1, Operand.tmp 33)])) := nf
theorem Z7e : stepA E C B 156 Z5q ZW0 (φ, H) = stp (some 5) φ H (opBox (B + 5) (zeroCells E.T 109)) := nf
theorem Z6P : stepA E C B 156 Z5q Z04T (φ, H) = stp none φ H (opStore E.T 109 (fget φ 5) (fget φ 34)) := nf
def ZpK := kR Zp7
def Zss := kL ZpK
def ZQu := kL Zss
def Z8N := kO ZQu
def ZWB := opN Z8N 0
def Z01b := opN Z8N 1
def ZVv := opN Z8N 2
def ZW4 := opN Z8N 3
theorem Zam : XG 88 156 ZQu Z8N [35] := Zb (by rfl) (by rfl) _
theorem Z8o : Z8N.toList = [ZWB, Z01b, ZVv, ZW4] := nf
theorem Z87 : stepA E C B 156 Z8N ZWB (φ, H) = stp (some 35) φ H (just (Ze E.T 25 (fget φ 1) 0)) := nf
theorem Z7A : stepA E C B 156 Z8N Z01b (φ, H) = stp (some 36) φ H (just (aLoad E.T 22 (fget φ 35))) := nf
theorem Z7Y : stepA E C B 156 Z8N ZVv (φ, H) = stp (some 37) φ H (Zh E.T (B + 37) .len #[22] [(fget φ 36)]) := nf
theorem Z8A : stepA E C B 156 Z8N ZW4 (φ, H) = some (fput φ 38 (.int .i64 0), H) := nf
def ZQZ := kR Zss
def ZRD := kB ZQZ
def Z4v := kB ZRD
def ZAF := kL Z4v
def ZyK := kO ZAF
def ZXb := opN ZyK 0
theorem Zg8 : XG 88 156 ZAF ZyK [] := Zb (by rfl) (by rfl) _
theorem ZcM : ZyK.toList = [ZXb] := nf
theorem Zc1 : stepA E C B 156 ZyK ZXb (φ, H) = stp (some 39) φ H (just (aBin E.T .lss 3 (fget φ 38) (fget φ 37))) := nf
def ZrO := kR Z4v
def Zp5 := kL ZrO
def Z08n := kT Zp5
theorem Zgl : execA E C (fg 88) B 156 E0 N Z08n s = some (.normal, s) := ZV (by rfl) s
def Z0cS := kE Zp5
theorem Zg2 : execA E C (fg 88) B 156 E0 N Z0cS s = some (.exit 1, s) := Z0I (by rfl) s
theorem Zgx : XC 88 156 Zp5 39 Z08n Z0cS := ZN (by rfl) _
def ZsF := kR ZrO
def ZOD := kL ZsF
def ZnF := kB ZOD
def ZDY := kL ZnF
def Z8Z := kO ZDY
def Z04J := opN Z8Z 0
def Z02c := opN Z8Z 1
def Z02s := opN Z8Z 2
def Z01U := opN Z8Z 3
theorem Zqh : XG 88 156 ZDY Z8Z [39, 40, 41] := Zb (by rfl) (by rfl) _
theorem Zi7 : Z8Z.toList = [Z04J, Z02c, Z02s, Z01U] := nf
theorem Zh5 : stepA E C B 156 Z8Z Z04J (φ, H) = stp (some 40) φ H (just (Z5 E.T 22 (fget φ 36) (fget φ 38))) := nf
theorem ZiO : stepA E C B 156 Z8Z Z02c (φ, H) = stp (some 41) φ H (just (aLoad E.T 62 (fget φ 40))) := nf
theorem ZhC : stepA E C B 156 Z8Z Z02s (φ, H) = stp (some 7) φ H (opBox (B + 7) (zeroCells E.T 62)) := nf
theorem Zib : stepA E C B 156 Z8Z Z01U (φ, H) = stp none φ H (opStore E.T 62 (fget φ 7) (fget φ 41)) := nf
def Zsh := kR ZnF
def ZCm := kL Zsh
def Z5b := kO ZCm
def ZLP := opN Z5b 0
def ZSD := opN Z5b 1
def ZA3 := opN Z5b 2
def ZHq := opN Z5b 3
theorem Zqe : XG 88 156 ZCm Z5b [7, 42, 43] := Zb (by rfl) (by rfl) _
theorem ZeC : Z5b.toList = [ZLP, ZSD, ZA3, ZHq] := nf
theorem ZeH : stepA E C B 156 Z5b ZLP (φ, H) = stp (some 42) φ H (just (aLoad E.T 62 (fget φ 7))) := nf
theorem ZeI : stepA E C B 156 Z5b ZSD (φ, H) = stp (some 43) φ H (aCall C (fun j => B + j * 156 + 43) true 126 [(fget φ 42)]) := nf
theorem Zet : stepA E C B 156 Z5b ZA3 (φ, H) = stp (some 8) φ H (opBox (B + 8) (zeroCells E.T 126)) := nf
theorem Zef : stepA E C B 156 Z5b ZHq (φ, H) = stp none φ H (opStore E.T 126 (fget φ 8) (fget φ 43)) := nf
def ZqI := kR Zsh
def ZEp := kL ZqI
def Zr1 := kB ZEp
def ZNi := kL Zr1
def Z1b := kO ZNi
def ZQQ := opN Z1b 0
def ZQi := opN Z1b 1
def ZUe := opN Z1b 2
def ZLD := opN Z1b 3
def ZUm := opN Z1b 4
theorem Zqy : XD 88 156 ZNi Z1b [45, 46, 47, 48] := Z0Z (by rfl) (by rfl) _
theorem Zee : Z1b.toList = [ZQQ, ZQi, ZUe, ZLD, ZUm] := nf
theorem Z0cE : statOk Z1b = true := by kernel_rfl
theorem Zbf : drawA E C B 156 Z1b s = if neat 156 s = true then drX Z1b (runT E C B 156 Z1b Z1b.toList 0 s) else none := Z0J Z0cE s
theorem Zbj (l : List (Nat × Tr)) : dynOk Z1b l = (!writing l || Zs [[], [], [1], [0, 1, 2], [0, 1, 2, 3]] (Zq l)) := Z0t (by kernel_rfl) l
theorem ZeL : stepT E C B 156 Z1b ZQQ (φ, H) = stpT (some 45) φ H (just (aLoad E.T 126 (fget φ 8))) := Z9 rfl (Zj rfl rfl)
theorem Zeo : stepT E C B 156 Z1b ZQi (φ, H) = stpT (some 46) φ H (just (aLoad E.T 126 (fget φ 8))) := Z9 rfl (Zj rfl rfl)
theorem Zel : stepT E C B 156 Z1b ZUe (φ, H) = stpT (some 47) φ H (aCall C (fun j => B + j * 156 + 47) true 127 [(fget φ 46)]) := Z9 rfl (Zj rfl rfl)
theorem Zfp : stepT E C B 156 Z1b ZLD (φ, H) = stpT (some 48) φ H (just (aBin E.T .neq 126 (fget φ 45) (fget φ 47))) := Z9 rfl (Zj rfl rfl)
theorem Ze7 : stepT E C B 156 Z1b ZUm (φ, H) = some ((fput φ 44 (fget φ 48), H), ⟨false, [], []⟩) := Z9 rfl (ZS rfl rfl)
def ZrW := kR Zr1
def Zni := kT ZrW
def ZLZ := kL Zni
def Z9s := kO ZLZ
def ZBY := opN Z9s 0
def ZUr := opN Z9s 1
def ZMb := opN Z9s 2
theorem Zpa : XG 88 156 ZLZ Z9s [1, 4, 5, 8, 36, 37, 38, 44, 49] := Zb (by rfl) (by rfl) _
theorem ZeM : Z9s.toList = [ZBY, ZUr, ZMb] := nf
theorem ZdX : stepA E C B 156 Z9s ZBY (φ, H) = stp (some 49) φ H (justO (aBuild E.T 109 (evO E φ) [])) := nf
theorem Zf3 : stepA E C B 156 Z9s ZUr (φ, H) = stp none φ H (opStore E.T 109 (fget φ 2) (fget φ 49)) := nf
theorem ZeO : stepA E C B 156 Z9s ZMb (φ, H) = some (fput φ 3 (.int .i64 1), H) := nf
def Z08x := kR Zni
theorem ZrH : execA E C (fg 88) B 156 E0 N Z08x s = some (.ret, s) := Z06 (by rfl) s
theorem ZoP : XQ 88 156 Zni ZLZ Z08x := Z4 (by rfl) _
def ZnB := kE ZrW
def ZHn := kL ZnB
def Z2B := kO ZHn
def ZEL := opN Z2B 0
def ZPX := opN Z2B 1
def ZRm := opN Z2B 2
def ZAV := opN Z2B 3
def ZK1 := opN Z2B 4
def ZRa := opN Z2B 5
theorem Zo1 : XG 88 156 ZHn Z2B [44, 51, 52, 53, 54, 55] := Zb (by rfl) (by rfl) _
theorem ZeT : Z2B.toList = [ZEL, ZPX, ZRm, ZAV, ZK1, ZRa] := nf
theorem ZeU : stepA E C B 156 Z2B ZEL (φ, H) = stp (some 51) φ H (just (Z5 E.T 126 (fget φ 8) (.int .i64 0))) := nf
theorem Zfq : stepA E C B 156 Z2B ZPX (φ, H) = stp (some 52) φ H (just (aLoad E.T 3 (fget φ 51))) := nf
theorem Zfv : stepA E C B 156 Z2B ZRm (φ, H) = stp (some 53) φ H (just (Z5 E.T 126 (fget φ 8) (.int .i64 1))) := nf
theorem ZdQ : stepA E C B 156 Z2B ZAV (φ, H) = stp (some 54) φ H (just (aLoad E.T 3 (fget φ 53))) := nf
theorem ZeG : stepA E C B 156 Z2B ZK1 (φ, H) = stp (some 55) φ H (just (aBin E.T .gtr 3 (fget φ 52) (fget φ 54))) := nf
theorem Zf0 : stepA E C B 156 Z2B ZRa (φ, H) = some (fput φ 50 (fget φ 55), H) := nf
def Zq2 := kR ZnB
def Zq3 := kT Zq2
def ZFx := kL Zq3
def Z9b := kO ZFx
def ZP7 := opN Z9b 0
def ZOY := opN Z9b 1
def ZIB := opN Z9b 2
theorem Zp2 : XG 88 156 ZFx Z9b [1, 4, 5, 8, 36, 37, 38, 50, 56] := Zb (by rfl) (by rfl) _
theorem Zfe : Z9b.toList = [ZP7, ZOY, ZIB] := nf
theorem ZdU : stepA E C B 156 Z9b ZP7 (φ, H) = stp (some 56) φ H (justO (aBuild E.T 109 (evO E φ) [])) := nf
theorem Ze1 : stepA E C B 156 Z9b ZOY (φ, H) = stp none φ H (opStore E.T 109 (fget φ 2) (fget φ 56)) := nf
theorem ZdP : stepA E C B 156 Z9b ZIB (φ, H) = some (fput φ 3 (.int .i64 7), H) := nf
def Z09b := kR Zq3
theorem ZnT : execA E C (fg 88) B 156 E0 N Z09b s = some (.ret, s) := Z06 (by rfl) s
theorem Zo7 : XQ 88 156 Zq3 ZFx Z09b := Z4 (by rfl) _
def Z0af := kE Zq2
theorem Zrc : execA E C (fg 88) B 156 E0 N Z0af s = some (.normal, s) := ZV (by rfl) s
theorem Zq7 : XC 88 156 Zq2 50 Zq3 Z0af := ZN (by rfl) _
theorem ZsN : XQ 88 156 ZnB ZHn Zq2 := Z4 (by rfl) _
theorem Zoz : XC 88 156 ZrW 44 Zni ZnB := ZN (by rfl) _
theorem ZnI : XQ 88 156 Zr1 ZNi ZrW := Z4 (by rfl) _
theorem ZoB : execA E C (fg 88) B 156 E0 N ZEp s = blockX 3 (fun s => (forget s.1 [50], s.2)) (execA E C (fg 88) B 156 E0 N Zr1 s) := ZK (by rfl) (by rfl) s
def ZS7 := kR ZqI
def Z28 := kO ZS7
def ZKf := opN Z28 0
def ZMX := opN Z28 1
def ZCR := opN Z28 2
def ZEo := opN Z28 3
def ZPU := opN Z28 4
def ZL8 := opN Z28 5
def ZNC := opN Z28 6
theorem Z0b9 : XG 88 156 ZS7 Z28 [8, 57, 58, 59, 60, 61, 62] := Zb (by rfl) (by rfl) _
theorem ZTL : Z28.toList = [ZKf, ZMX, ZCR, ZEo, ZPU, ZL8, ZNC] := nf
theorem ZNj : stepA E C B 156 Z28 ZKf (φ, H) = stp (some 57) φ H (just (Ze E.T 109 (fget φ 5) 0)) := nf
theorem ZGp : stepA E C B 156 Z28 ZMX (φ, H) = stp (some 58) φ H (just (aLoad E.T 106 (fget φ 57))) := nf
theorem ZFf : stepA E C B 156 Z28 ZCR (φ, H) = stp (some 59) φ H (just (aLoad E.T 126 (fget φ 8))) := nf
theorem ZOb : stepA E C B 156 Z28 ZEo (φ, H) = stp (some 60) φ H (ZB E.T (B + 60) 106 1 (evO E φ) [(0, Operand.tmp 59)]) := nf
theorem ZLf : stepA E C B 156 Z28 ZPU (φ, H) = stp (some 61) φ H (Zh E.T (B + 61) .append #[106, 106] [(fget φ 58), (fget φ 60)]) := nf
theorem ZDR : stepA E C B 156 Z28 ZL8 (φ, H) = stp (some 62) φ H (just (Ze E.T 109 (fget φ 5) 0)) := nf
theorem ZMA : stepA E C B 156 Z28 ZNC (φ, H) = stp none φ H (opStore E.T 106 (fget φ 62) (fget φ 61)) := nf
theorem Zpx : XQ 88 156 ZqI ZEp ZS7 := Z4 (by rfl) _
theorem Zsm : XQ 88 156 Zsh ZCm ZqI := Z4 (by rfl) _
theorem Zol : XQ 88 156 ZnF ZDY Zsh := Z4 (by rfl) _
theorem ZpF : execA E C (fg 88) B 156 E0 N ZOD s = blockX 2 (fun s => (forget s.1 [], s.2)) (execA E C (fg 88) B 156 E0 N ZnF s) := ZK (by rfl) (by rfl) s
def ZHg := kR ZsF
def ZcR := kO ZHg
def ZTv := opN ZcR 0
def ZQ4 := opN ZcR 1
theorem Z0bX : XG 88 156 ZHg ZcR [63] := Zb (by rfl) (by rfl) _
theorem ZOS : ZcR.toList = [ZTv, ZQ4] := nf
theorem ZHO : stepA E C B 156 ZcR ZTv (φ, H) = stp (some 63) φ H (just (aBin E.T .add 3 (fget φ 38) (.int .i64 1))) := nf
theorem ZRo : stepA E C B 156 ZcR ZQ4 (φ, H) = some (fput φ 38 (fget φ 63), H) := nf
theorem Zso : XQ 88 156 ZsF ZOD ZHg := Z4 (by rfl) _
theorem Zg9 : XQ 88 156 ZrO Zp5 ZsF := Z4 (by rfl) _
theorem ZgB : XQ 88 156 Z4v ZAF ZrO := Z4 (by rfl) _
theorem Za1 : execA E C (fg 88) B 156 E0 N ZRD s = iterA (execA E C (fg 88) B 156 E0 N Z4v) (headA E0) N s := Z0H (by rfl) s
theorem ZaT : execA E C (fg 88) B 156 E0 N ZQZ s = blockX 1 (fun s => (forget s.1 [36, 37, 38, 39], s.2)) (execA E C (fg 88) B 156 E0 N ZRD s) := ZK (by rfl) (by rfl) s
theorem Za5 : XQ 88 156 Zss ZQu ZQZ := Z4 (by rfl) _
def Zok := kR ZpK
def Zr9 := kL Zok
def ZE1 := kL Zr9
def Z5j := kO ZE1
def ZJh := opN Z5j 0
def ZR5 := opN Z5j 1
def ZLb := opN Z5j 2
def ZNn := opN Z5j 3
theorem Zgf : XG 88 156 ZE1 Z5j [64] := Zb (by rfl) (by rfl) _
theorem ZaM : Z5j.toList = [ZJh, ZR5, ZLb, ZNn] := nf
theorem Zaz : stepA E C B 156 Z5j ZJh (φ, H) = stp (some 64) φ H (just (Ze E.T 25 (fget φ 1) 1)) := nf
theorem Zal : stepA E C B 156 Z5j ZR5 (φ, H) = stp (some 65) φ H (just (aLoad E.T 23 (fget φ 64))) := nf
theorem Zas : stepA E C B 156 Z5j ZLb (φ, H) = stp (some 66) φ H (Zh E.T (B + 66) .len #[23] [(fget φ 65)]) := nf
theorem ZaU : stepA E C B 156 Z5j ZNn (φ, H) = some (fput φ 67 (.int .i64 0), H) := nf
def ZD4 := kR Zr9
def ZCC := kB ZD4
def Z3h := kB ZCC
def ZOZ := kL Z3h
def Zof := kO ZOZ
def ZBj := opN Zof 0
theorem Zc8 : XG 88 156 ZOZ Zof [] := Zb (by rfl) (by rfl) _
theorem Z70 : Zof.toList = [ZBj] := nf
theorem Z6C : stepA E C B 156 Zof ZBj (φ, H) = stp (some 68) φ H (just (aBin E.T .lss 3 (fget φ 67) (fget φ 66))) := nf
def ZoG := kR Z3h
def Zo2 := kL ZoG
def Z0bD := kT Zo2
theorem Zd2 : execA E C (fg 88) B 156 E0 N Z0bD s = some (.normal, s) := ZV (by rfl) s
def Z0aj := kE Zo2
theorem Zcp : execA E C (fg 88) B 156 E0 N Z0aj s = some (.exit 4, s) := Z0I (by rfl) s
theorem ZcN : XC 88 156 Zo2 68 Z0bD Z0aj := ZN (by rfl) _
def Zrv := kR ZoG
def ZBl := kL Zrv
def Zqw := kB ZBl
def ZDn := kL Zqw
def Z2G := kO ZDn
def ZJK := opN Z2G 0
def ZOv := opN Z2G 1
def ZRU := opN Z2G 2
def ZDv := opN Z2G 3
def ZLT := opN Z2G 4
def ZB3 := opN Z2G 5
theorem ZpR : XG 88 156 ZDn Z2G [68, 69, 70, 71] := Zb (by rfl) (by rfl) _
theorem ZdT : Z2G.toList = [ZJK, ZOv, ZRU, ZDv, ZLT, ZB3] := nf
theorem Zfb : stepA E C B 156 Z2G ZJK (φ, H) = some (fput φ 69 (fget φ 67), H) := nf
theorem Zev : stepA E C B 156 Z2G ZOv (φ, H) = stp (some 70) φ H (just (Z5 E.T 23 (fget φ 65) (fget φ 67))) := nf
theorem Zff : stepA E C B 156 Z2G ZRU (φ, H) = stp (some 71) φ H (just (aLoad E.T 64 (fget φ 70))) := nf
theorem Zek : stepA E C B 156 Z2G ZDv (φ, H) = stp (some 10) φ H (opBox (B + 10) (zeroCells E.T 64)) := nf
theorem ZdR : stepA E C B 156 Z2G ZLT (φ, H) = some (fput φ 9 (fget φ 69), H) := nf
theorem Zey : stepA E C B 156 Z2G ZB3 (φ, H) = stp none φ H (opStore E.T 64 (fget φ 10) (fget φ 71)) := nf
def Zrp := kR Zqw
def ZFg := kL Zrp
def ZnW := kB ZFg
def ZPF := kL ZnW
def Z0d := kO ZPF
def ZCQ := opN Z0d 0
def ZJJ := opN Z0d 1
def ZKi := opN Z0d 2
def ZQK := opN Z0d 3
def ZE7 := opN Z0d 4
def ZAr := opN Z0d 5
def Z3s := opN Z0d 6
def ZGe := opN Z0d 7
def ZUd := opN Z0d 8
def ZRJ := opN Z0d 9
def Zyg := opN Z0d 10
def ZxV := opN Z0d 11
def ZxW := opN Z0d 12
def ZwU := opN Z0d 13
def ZwL := opN Z0d 14
def Zy3 := opN Z0d 15
theorem Zno : XG 88 156 ZPF Z0d [73, 74, 75, 76, 77, 78, 79, 80, 81, 82, 83, 84, 85, 86, 87] := Zb (by rfl) (by rfl) _
theorem Zer : Z0d.toList = [ZCQ, ZJJ, ZKi, ZQK, ZE7, ZAr, Z3s, ZGe, ZUd, ZRJ, Zyg, ZxV, ZxW, ZwU, ZwL, Zy3] := nf
theorem ZeF : stepA E C B 156 Z0d ZCQ (φ, H) = stp (some 73) φ H (just (Z5 E.T 64 (fget φ 10) (.int .i64 0))) := nf
theorem Zeb : stepA E C B 156 Z0d ZJJ (φ, H) = stp (some 74) φ H (just (aLoad E.T 3 (fget φ 73))) := nf
theorem ZdN : stepA E C B 156 Z0d ZKi (φ, H) = stp (some 75) φ H (just (Z5 E.T 64 (fget φ 10) (.int .i64 1))) := nf
theorem ZdW : stepA E C B 156 Z0d ZQK (φ, H) = stp (some 76) φ H (just (aLoad E.T 3 (fget φ 75))) := nf
theorem Zf6 : stepA E C B 156 Z0d ZE7 (φ, H) = stp (some 77) φ H (Zh E.T (B + 77) .min #[3, 3] [(fget φ 74), (fget φ 76)]) := nf
theorem Zfg : stepA E C B 156 Z0d ZAr (φ, H) = stp (some 78) φ H (just (aBin E.T .lss 3 (fget φ 77) (.int .i64 0))) := nf
theorem Zfw : stepA E C B 156 Z0d Z3s (φ, H) = some (fput φ 79 (fget φ 78), H) := nf
theorem ZeQ : stepA E C B 156 Z0d ZGe (φ, H) = gd φ 79 false (fun φ => some (fput φ 80 (.tup []), H)) (fun φ => stp (some 80) φ H (just (Z5 E.T 64 (fget φ 10) (.int .i64 0)))) := s_gd (j := 6) (oj := Z3s) rfl rfl rfl (fun _ => rfl) (fun _ => rfl)
theorem Ze2 : stepA E C B 156 Z0d ZUd (φ, H) = gd φ 79 false (fun φ => some (fput φ 81 (.tup []), H)) (fun φ => stp (some 81) φ H (just (aLoad E.T 3 (fget φ 80)))) := s_gd (j := 6) (oj := Z3s) rfl rfl rfl (fun _ => rfl) (fun _ => rfl)
theorem Zec : stepA E C B 156 Z0d ZRJ (φ, H) = gd φ 79 false (fun φ => some (fput φ 82 (.tup []), H)) (fun φ => stp (some 82) φ H (just (Z5 E.T 64 (fget φ 10) (.int .i64 1)))) := s_gd (j := 6) (oj := Z3s) rfl rfl rfl (fun _ => rfl) (fun _ => rfl)
theorem Zb1 : stepA E C B 156 Z0d Zyg (φ, H) = gd φ 79 false (fun φ => some (fput φ 83 (.tup []), H)) (fun φ => stp (some 83) φ H (just (aLoad E.T 3 (fget φ 82)))) := s_gd (j := 6) (oj := Z3s) rfl rfl rfl (fun _ => rfl) (fun _ => rfl)
theorem Zbr : stepA E C B 156 Z0d ZxV (φ, H) = gd φ 79 false (fun φ => some (fput φ 84 (.tup []), H)) (fun φ => stp (some 84) φ H (Zh E.T (B + 84) .max #[3, 3] [(fget φ 81), (fget φ 83)])) := s_gd (j := 6) (oj := Z3s) rfl rfl rfl (fun _ => rfl) (fun _ => rfl)
theorem Zb0 : stepA E C B 156 Z0d ZxW (φ, H) = gd φ 79 false (fun φ => some (fput φ 85 (.tup []), H)) (fun φ => some (fput φ 85 (fget φ 4), H)) := s_gd (j := 6) (oj := Z3s) rfl rfl rfl (fun _ => rfl) (fun _ => rfl)
theorem ZaZ : stepA E C B 156 Z0d ZwU (φ, H) = gd φ 79 false (fun φ => some (fput φ 86 (.tup []), H)) (fun φ => stp (some 86) φ H (just (aBin E.T .geq 3 (fget φ 84) (fget φ 85)))) := s_gd (j := 6) (oj := Z3s) rfl rfl rfl (fun _ => rfl) (fun _ => rfl)
theorem Zbg : stepA E C B 156 Z0d ZwL (φ, H) = stp (some 87) φ H (opPick (fget φ 79) (.bool true) (fget φ 86)) := nf
theorem Zb7 : stepA E C B 156 Z0d Zy3 (φ, H) = some (fput φ 72 (fget φ 87), H) := nf
def Zs1 := kR ZnW
def ZrV := kT Zs1
def ZMN := kL ZrV
def Z9c := kO ZMN
def ZS9 := opN Z9c 0
def ZN8 := opN Z9c 1
def ZQX := opN Z9c 2
theorem ZpP : XG 88 156 ZMN Z9c [1, 4, 5, 9, 10, 65, 66, 67, 72, 88] := Zb (by rfl) (by rfl) _
theorem Zed : Z9c.toList = [ZS9, ZN8, ZQX] := nf
theorem Zfr : stepA E C B 156 Z9c ZS9 (φ, H) = stp (some 88) φ H (justO (aBuild E.T 109 (evO E φ) [])) := nf
theorem Ze6 : stepA E C B 156 Z9c ZN8 (φ, H) = stp none φ H (opStore E.T 109 (fget φ 2) (fget φ 88)) := nf
theorem ZeD : stepA E C B 156 Z9c ZQX (φ, H) = some (fput φ 3 (.int .i64 2), H) := nf
def Z0am := kR ZrV
theorem Znq : execA E C (fg 88) B 156 E0 N Z0am s = some (.ret, s) := Z06 (by rfl) s
theorem Zpm : XQ 88 156 ZrV ZMN Z0am := Z4 (by rfl) _
def Znz := kE Zs1
def ZLa := kL Znz
def Z0M := kO ZLa
def ZME := opN Z0M 0
def ZUC := opN Z0M 1
def ZC9 := opN Z0M 2
def ZCr := opN Z0M 3
def ZLg := opN Z0M 4
def ZDB := opN Z0M 5
def ZQl := opN Z0M 6
theorem Zsc : XD 88 156 ZLa Z0M [9, 72, 90, 91, 92, 93, 94, 95] := Z0Z (by rfl) (by rfl) _
theorem Zei : Z0M.toList = [ZME, ZUC, ZC9, ZCr, ZLg, ZDB, ZQl] := nf
theorem Z0aF : statOk Z0M = true := by kernel_rfl
theorem Zb9 : drawA E C B 156 Z0M s = if neat 156 s = true then drX Z0M (runT E C B 156 Z0M Z0M.toList 0 s) else none := Z0J Z0aF s
theorem Zya (l : List (Nat × Tr)) : dynOk Z0M l = (!writing l || Zs [[], [0], [], [0, 1, 2], [], [0, 1, 2, 3, 4], [0, 1, 2, 3, 4, 5]] (Zq l)) := Z0t (by kernel_rfl) l
theorem Zen : stepT E C B 156 Z0M ZME (φ, H) = stpT (some 90) φ H (just (Ze E.T 25 (fget φ 1) 1)) := Z9 rfl (Zj rfl rfl)
theorem ZdK : stepT E C B 156 Z0M ZUC (φ, H) = stpT (some 91) φ H (just (aLoad E.T 23 (fget φ 90))) := Z9 rfl (Zj rfl rfl)
theorem Zfn : stepT E C B 156 Z0M ZC9 (φ, H) = some ((fput φ 92 (fget φ 9), H), ⟨false, [], []⟩) := Z9 rfl (ZS rfl rfl)
theorem ZeW : stepT E C B 156 Z0M ZCr (φ, H) = stpT (some 93) φ H (just (aSlice E.T 23 (fget φ 91) none (some (fget φ 92)) none)) := Z9 rfl (Zj rfl rfl)
theorem ZdV : stepT E C B 156 Z0M ZLg (φ, H) = stpT (some 94) φ H (just (aLoad E.T 64 (fget φ 10))) := Z9 rfl (Zj rfl rfl)
theorem Zea : stepT E C B 156 Z0M ZDB (φ, H) = stpT (some 95) φ H (aCall C (fun j => B + j * 156 + 95) true 79 [(fget φ 93), (fget φ 94)]) := Z9 rfl (Zj rfl rfl)
theorem ZA2 : stepT E C B 156 Z0M ZQl (φ, H) = some ((fput φ 89 (fget φ 95), H), ⟨false, [], []⟩) := Z9 rfl (ZS rfl rfl)
def ZqK := kR Znz
def Zom := kT ZqK
def ZGk := kL Zom
def Z9j := kO ZGk
def ZIl := opN Z9j 0
def ZST := opN Z9j 1
def ZGd := opN Z9j 2
theorem Z0cO : XG 88 156 ZGk Z9j [1, 4, 5, 10, 65, 66, 67, 89, 96] := Zb (by rfl) (by rfl) _
theorem ZOU : Z9j.toList = [ZIl, ZST, ZGd] := nf
theorem ZJX : stepA E C B 156 Z9j ZIl (φ, H) = stp (some 96) φ H (justO (aBuild E.T 109 (evO E φ) [])) := nf
theorem ZUs : stepA E C B 156 Z9j ZST (φ, H) = stp none φ H (opStore E.T 109 (fget φ 2) (fget φ 96)) := nf
theorem ZQP : stepA E C B 156 Z9j ZGd (φ, H) = some (fput φ 3 (.int .i64 6), H) := nf
def Z08L := kR Zom
theorem Z084 : execA E C (fg 88) B 156 E0 N Z08L s = some (.ret, s) := Z06 (by rfl) s
theorem Z092 : XQ 88 156 Zom ZGk Z08L := Z4 (by rfl) _
def Z0a5 := kE ZqK
theorem Z080 : execA E C (fg 88) B 156 E0 N Z0a5 s = some (.normal, s) := ZV (by rfl) s
theorem Z09v : XC 88 156 ZqK 89 Zom Z0a5 := ZN (by rfl) _
theorem ZqZ : XQ 88 156 Znz ZLa ZqK := Z4 (by rfl) _
theorem ZnC : XC 88 156 Zs1 72 ZrV Znz := ZN (by rfl) _
theorem ZsG : XQ 88 156 ZnW ZPF Zs1 := Z4 (by rfl) _
theorem Zpz : execA E C (fg 88) B 156 E0 N ZFg s = blockX 6 (fun s => (forget s.1 [89], s.2)) (execA E C (fg 88) B 156 E0 N ZnW s) := ZK (by rfl) (by rfl) s
def ZKJ := kR Zrp
def Z0f := kO ZKJ
def ZDq := opN Z0f 0
def ZEQ := opN Z0f 1
def ZC4 := opN Z0f 2
def ZEe := opN Z0f 3
def ZFw := opN Z0f 4
def ZNX := opN Z0f 5
def ZK6 := opN Z0f 6
def ZUc := opN Z0f 7
def ZUE := opN Z0f 8
def ZQj := opN Z0f 9
def ZwF := opN Z0f 10
def Zxg := opN Z0f 11
theorem Z0qK : XD 88 156 ZKJ Z0f [10, 97, 98, 99, 100, 101, 102, 103, 104, 105, 106, 107] := Z0Z (by rfl) (by rfl) _
theorem Z0gC : Z0f.toList = [ZDq, ZEQ, ZC4, ZEe, ZFw, ZNX, ZK6, ZUc, ZUE, ZQj, ZwF, Zxg] := nf
theorem Z0aV : statOk Z0f = true := by kernel_rfl
theorem Z0aY : drawA E C B 156 Z0f s = if neat 156 s = true then drX Z0f (runT E C B 156 Z0f Z0f.toList 0 s) else none := Z0J Z0aV s
theorem Z0be (l : List (Nat × Tr)) : dynOk Z0f l = (!writing l || Zs [[], [0], [], [2], [0, 1, 2, 3], [0, 1, 2, 3, 4], [], [6], [6, 7], [0, 1, 2, 3, 4, 5, 6, 7, 8], [0, 1, 2, 3, 4, 5, 6, 7, 8, 9], [0, 1, 2, 3, 4, 5, 6, 7, 8, 9, 10]] (Zq l)) := Z0t (by kernel_rfl) l
theorem Z0fk : stepT E C B 156 Z0f ZDq (φ, H) = stpT (some 97) φ H (just (Ze E.T 109 (fget φ 5) 1)) := Z9 rfl (Zj rfl rfl)
theorem Z0f7 : stepT E C B 156 Z0f ZEQ (φ, H) = stpT (some 98) φ H (just (aLoad E.T 107 (fget φ 97))) := Z9 rfl (Zj rfl rfl)
theorem Z0dv : stepT E C B 156 Z0f ZC4 (φ, H) = stpT (some 99) φ H (just (Z5 E.T 64 (fget φ 10) (.int .i64 0))) := Z9 rfl (Zj rfl rfl)
theorem Z0fU : stepT E C B 156 Z0f ZEe (φ, H) = stpT (some 100) φ H (just (aLoad E.T 3 (fget φ 99))) := Z9 rfl (Zj rfl rfl)
theorem Z0gu : stepT E C B 156 Z0f ZFw (φ, H) = stpT (some 101) φ H (just (Z5 E.T 107 (fget φ 98) (fget φ 100))) := Z9 rfl (Zj rfl rfl)
theorem Z0f5 : stepT E C B 156 Z0f ZNX (φ, H) = stpT (some 102) φ H (just (aLoad E.T 121 (fget φ 101))) := Z9 rfl (Zj rfl rfl)
theorem Z0dl : stepT E C B 156 Z0f ZK6 (φ, H) = stpT (some 103) φ H (just (Z5 E.T 64 (fget φ 10) (.int .i64 1))) := Z9 rfl (Zj rfl rfl)
theorem Z0dc : stepT E C B 156 Z0f ZUc (φ, H) = stpT (some 104) φ H (just (aLoad E.T 3 (fget φ 103))) := Z9 rfl (Zj rfl rfl)
theorem Z0gc : stepT E C B 156 Z0f ZUE (φ, H) = stpT (some 105) φ H (just (aBin E.T .shl 121 (.int .u64 1) (fget φ 104))) := Z9 rfl (Zj rfl rfl)
theorem Z0eT : stepT E C B 156 Z0f ZQj (φ, H) = stpT (some 106) φ H (just (aBin E.T .or 121 (fget φ 102) (fget φ 105))) := Z9 rfl (Zj rfl rfl)
theorem Z0bf : stepT E C B 156 Z0f ZwF (φ, H) = stpT (some 107) φ H (just (Z5 E.T 107 (fget φ 98) (fget φ 100))) := Z9 rfl (Zj rfl rfl)
theorem Z09S : stepT E C B 156 Z0f Zxg (φ, H) = stpT none φ H (opStore E.T 121 (fget φ 107) (fget φ 106)) := Z9 rfl (Zj rfl rfl)
theorem ZqF : XQ 88 156 Zrp ZFg ZKJ := Z4 (by rfl) _
theorem Zr6 : XQ 88 156 Zqw ZDn Zrp := Z4 (by rfl) _
theorem ZoL : execA E C (fg 88) B 156 E0 N ZBl s = blockX 5 (fun s => (forget s.1 [], s.2)) (execA E C (fg 88) B 156 E0 N Zqw s) := ZK (by rfl) (by rfl) s
def ZGE := kR Zrv
def Zdl := kO ZGE
def ZEm := opN Zdl 0
def ZHs := opN Zdl 1
theorem Z0qI : XG 88 156 ZGE Zdl [108] := Zb (by rfl) (by rfl) _
theorem Z0g8 : Zdl.toList = [ZEm, ZHs] := nf
theorem Z0g5 : stepA E C B 156 Zdl ZEm (φ, H) = stp (some 108) φ H (just (aBin E.T .add 3 (fget φ 67) (.int .i64 1))) := nf
theorem Z0dK : stepA E C B 156 Zdl ZHs (φ, H) = some (fput φ 67 (fget φ 108), H) := nf
theorem Zru : XQ 88 156 Zrv ZBl ZGE := Z4 (by rfl) _
theorem ZcP : XQ 88 156 ZoG Zo2 Zrv := Z4 (by rfl) _
theorem ZcO : XQ 88 156 Z3h ZOZ ZoG := Z4 (by rfl) _
theorem ZfJ : execA E C (fg 88) B 156 E0 N ZCC s = iterA (execA E C (fg 88) B 156 E0 N Z3h) (headA E0) N s := Z0H (by rfl) s
theorem Zgj : execA E C (fg 88) B 156 E0 N ZD4 s = blockX 4 (fun s => (forget s.1 [1, 65, 66, 67, 68], s.2)) (execA E C (fg 88) B 156 E0 N ZCC s) := ZK (by rfl) (by rfl) s
theorem ZfO : XQ 88 156 Zr9 ZE1 ZD4 := Z4 (by rfl) _
def ZoJ := kR Zok
def ZpA := kL ZoJ
def ZBN := kL ZpA
def Zcw := kO ZBN
def ZG9 := opN Zcw 0
def ZJA := opN Zcw 1
theorem Zqg : XG 88 156 ZBN Zcw [] := Zb (by rfl) (by rfl) _
theorem Zez : Zcw.toList = [ZG9, ZJA] := nf
theorem ZeJ : stepA E C B 156 Zcw ZG9 (φ, H) = some (fput φ 109 (fget φ 4), H) := nf
theorem Zes : stepA E C B 156 Zcw ZJA (φ, H) = some (fput φ 110 (.int .i64 0), H) := nf
def ZBg := kR ZpA
def ZD6 := kB ZBg
def Zdn := kB ZD6
def ZRI := kL Zdn
def Zsn := kO ZRI
def ZGH := opN Zsn 0
theorem Z0bz : XG 88 156 ZRI Zsn [] := Zb (by rfl) (by rfl) _
theorem ZFz : Zsn.toList = [ZGH] := nf
theorem ZQR : stepA E C B 156 Zsn ZGH (φ, H) = stp (some 111) φ H (just (aBin E.T .lss 3 (fget φ 110) (fget φ 109))) := nf
def Zq1 := kR Zdn
def Zrh := kL Zq1
def Z0ca := kT Zrh
theorem Z08a : execA E C (fg 88) B 156 E0 N Z0ca s = some (.normal, s) := ZV (by rfl) s
def Z0as := kE Zrh
theorem Z0bw : execA E C (fg 88) B 156 E0 N Z0as s = some (.exit 7, s) := Z0I (by rfl) s
theorem Z09K : XC 88 156 Zrh 111 Z0ca Z0as := ZN (by rfl) _
def Zrl := kR Zq1
def ZEE := kL Zrl
def ZhL := kB ZEE
def ZsZ := kL ZhL
def ZcI := kO ZsZ
def ZOo := opN ZcI 0
def ZKN := opN ZcI 1
theorem Z0js : XG 88 156 ZsZ ZcI [111, 112] := Zb (by rfl) (by rfl) _
theorem Z0e9 : ZcI.toList = [ZOo, ZKN] := nf
theorem Z0ey : stepA E C B 156 ZcI ZOo (φ, H) = some (fput φ 112 (fget φ 110), H) := nf
theorem Z0hb : stepA E C B 156 ZcI ZKN (φ, H) = some (fput φ 11 (fget φ 112), H) := nf
def ZiF := kR ZhL
def Zub := kL ZiF
def ZbV := kO Zub
def ZD1 := opN ZbV 0
def ZLt := opN ZbV 1
theorem Z0jB : XG 88 156 Zub ZbV [] := Zb (by rfl) (by rfl) _
theorem Z0d7 : ZbV.toList = [ZD1, ZLt] := nf
theorem Z0fd : stepA E C B 156 ZbV ZD1 (φ, H) = some (fput φ 113 (fget φ 4), H) := nf
theorem Z0dI : stepA E C B 156 ZbV ZLt (φ, H) = some (fput φ 114 (.int .i64 0), H) := nf
def Zwq := kR ZiF
def Ztk := kB Zwq
def Z9K := kB Ztk
def Zw4 := kL Z9K
def ZrF := kO Zw4
def ZQD := opN ZrF 0
theorem Zu1 : XG 88 156 Zw4 ZrF [] := Zb (by rfl) (by rfl) _
theorem ZjU : ZrF.toList = [ZQD] := nf
theorem ZjO : stepA E C B 156 ZrF ZQD (φ, H) = stp (some 115) φ H (just (aBin E.T .lss 3 (fget φ 114) (fget φ 113))) := nf
def Zhd := kR Z9K
def Zj4 := kL Zhd
def ZZX := kT Zj4
theorem ZuO : execA E C (fg 88) B 156 E0 N ZZX s = some (.normal, s) := ZV (by rfl) s
def ZWh := kE Zj4
theorem Zv2 : execA E C (fg 88) B 156 E0 N ZWh s = some (.exit 9, s) := Z0I (by rfl) s
theorem Zus : XC 88 156 Zj4 115 ZZX ZWh := ZN (by rfl) _
def ZhG := kR Zhd
def Zwl := kL ZhG
def ZhE := kB Zwl
def Zvf := kL ZhE
def Zd7 := kO Zvf
def ZDw := opN Zd7 0
def ZEl := opN Zd7 1
theorem ZYl : XG 88 156 Zvf Zd7 [115, 116] := Zb (by rfl) (by rfl) _
theorem ZMB : Zd7.toList = [ZDw, ZEl] := nf
theorem ZMH : stepA E C B 156 Zd7 ZDw (φ, H) = some (fput φ 116 (fget φ 114), H) := nf
theorem ZTz : stepA E C B 156 Zd7 ZEl (φ, H) = some (fput φ 12 (fget φ 116), H) := nf
def Zil := kR ZhE
def ZtD := kL Zil
def Z0Y := kO ZtD
def ZAR := opN Z0Y 0
def ZNQ := opN Z0Y 1
def ZCM := opN Z0Y 2
def ZCi := opN Z0Y 3
def ZKa := opN Z0Y 4
def ZQs := opN Z0Y 5
def ZTf := opN Z0Y 6
def ZSx := opN Z0Y 7
def ZLQ := opN Z0Y 8
theorem Z01z : XG 88 156 ZtD Z0Y [117, 118, 119, 120, 121, 122, 123, 124] := Zb (by rfl) (by rfl) _
theorem ZQH : Z0Y.toList = [ZAR, ZNQ, ZCM, ZCi, ZKa, ZQs, ZTf, ZSx, ZLQ] := nf
theorem ZI8 : stepA E C B 156 Z0Y ZAR (φ, H) = stp (some 117) φ H (just (Ze E.T 109 (fget φ 5) 1)) := nf
theorem ZG6 : stepA E C B 156 Z0Y ZNQ (φ, H) = stp (some 118) φ H (just (aLoad E.T 107 (fget φ 117))) := nf
theorem ZRS : stepA E C B 156 Z0Y ZCM (φ, H) = some (fput φ 119 (fget φ 12), H) := nf
theorem ZTg : stepA E C B 156 Z0Y ZCi (φ, H) = stp (some 120) φ H (just (Z5 E.T 107 (fget φ 118) (fget φ 119))) := nf
theorem ZD5 : stepA E C B 156 Z0Y ZKa (φ, H) = stp (some 121) φ H (just (aLoad E.T 121 (fget φ 120))) := nf
theorem ZKS : stepA E C B 156 Z0Y ZQs (φ, H) = some (fput φ 122 (fget φ 11), H) := nf
theorem ZTA : stepA E C B 156 Z0Y ZTf (φ, H) = stp (some 123) φ H (just (aBin E.T .shr 121 (fget φ 121) (fget φ 122))) := nf
theorem ZFM : stepA E C B 156 Z0Y ZSx (φ, H) = stp (some 124) φ H (just (aBin E.T .and 121 (fget φ 123) (.int .u64 1))) := nf
theorem ZIh : stepA E C B 156 Z0Y ZLQ (φ, H) = stp (some 125) φ H (just (aBin E.T .eql 121 (fget φ 124) (.int .u64 1))) := nf
def Zin := kR Zil
def Zw3 := kT Zin
def Z0c := kO Zw3
def ZC5 := opN Z0c 0
def ZKY := opN Z0c 1
def ZP6 := opN Z0c 2
def ZJj := opN Z0c 3
def ZD3 := opN Z0c 4
def ZEf := opN Z0c 5
def ZUB := opN Z0c 6
def ZPB := opN Z0c 7
def ZHX := opN Z0c 8
def ZLp := opN Z0c 9
def ZxF := opN Z0c 10
def ZwM := opN Z0c 11
def Zx4 := opN Z0c 12
theorem ZY3 : XD 88 156 Zw3 Z0c [12, 125, 126, 127, 128, 129, 130, 131, 132, 133, 134, 135, 136, 137] := Z0Z (by rfl) (by rfl) _
theorem ZJV : Z0c.toList = [ZC5, ZKY, ZP6, ZJj, ZD3, ZEf, ZUB, ZPB, ZHX, ZLp, ZxF, ZwM, Zx4] := nf
theorem Z0at : statOk Z0c = true := by kernel_rfl
theorem Zxu : drawA E C B 156 Z0c s = if neat 156 s = true then drX Z0c (runT E C B 156 Z0c Z0c.toList 0 s) else none := Z0J Z0at s
theorem Z09X (l : List (Nat × Tr)) : dynOk Z0c l = (!writing l || Zs [[], [0], [], [0, 1, 2], [0, 1, 2, 3], [], [5], [], [5, 6, 7], [5, 6, 7, 8], [0, 1, 2, 3, 4, 5, 6, 7, 8, 9], [0, 1, 2, 3, 4, 5, 6, 7, 8, 9, 10], [0, 1, 2, 3, 4, 5, 6, 7, 8, 9, 10, 11]] (Zq l)) := Z0t (by kernel_rfl) l
theorem ZSI : stepT E C B 156 Z0c ZC5 (φ, H) = stpT (some 126) φ H (just (Ze E.T 109 (fget φ 5) 1)) := Z9 rfl (Zj rfl rfl)
theorem ZEJ : stepT E C B 156 Z0c ZKY (φ, H) = stpT (some 127) φ H (just (aLoad E.T 107 (fget φ 126))) := Z9 rfl (Zj rfl rfl)
theorem ZLq : stepT E C B 156 Z0c ZP6 (φ, H) = some ((fput φ 128 (fget φ 12), H), ⟨false, [], []⟩) := Z9 rfl (ZS rfl rfl)
theorem ZGL : stepT E C B 156 Z0c ZJj (φ, H) = stpT (some 129) φ H (just (Z5 E.T 107 (fget φ 127) (fget φ 128))) := Z9 rfl (Zj rfl rfl)
theorem ZID : stepT E C B 156 Z0c ZD3 (φ, H) = stpT (some 130) φ H (just (aLoad E.T 121 (fget φ 129))) := Z9 rfl (Zj rfl rfl)
theorem ZO9 : stepT E C B 156 Z0c ZEf (φ, H) = stpT (some 131) φ H (just (Ze E.T 109 (fget φ 5) 1)) := Z9 rfl (Zj rfl rfl)
theorem ZNt : stepT E C B 156 Z0c ZUB (φ, H) = stpT (some 132) φ H (just (aLoad E.T 107 (fget φ 131))) := Z9 rfl (Zj rfl rfl)
theorem ZIP : stepT E C B 156 Z0c ZPB (φ, H) = some ((fput φ 133 (fget φ 11), H), ⟨false, [], []⟩) := Z9 rfl (ZS rfl rfl)
theorem ZG7 : stepT E C B 156 Z0c ZHX (φ, H) = stpT (some 134) φ H (just (Z5 E.T 107 (fget φ 132) (fget φ 133))) := Z9 rfl (Zj rfl rfl)
theorem ZUA : stepT E C B 156 Z0c ZLp (φ, H) = stpT (some 135) φ H (just (aLoad E.T 121 (fget φ 134))) := Z9 rfl (Zj rfl rfl)
theorem Zxh : stepT E C B 156 Z0c ZxF (φ, H) = stpT (some 136) φ H (just (aBin E.T .or 121 (fget φ 130) (fget φ 135))) := Z9 rfl (Zj rfl rfl)
theorem Zy1 : stepT E C B 156 Z0c ZwM (φ, H) = stpT (some 137) φ H (just (Z5 E.T 107 (fget φ 127) (fget φ 128))) := Z9 rfl (Zj rfl rfl)
theorem Zxl : stepT E C B 156 Z0c Zx4 (φ, H) = stpT none φ H (opStore E.T 121 (fget φ 137) (fget φ 136)) := Z9 rfl (Zj rfl rfl)
def ZVz := kE Zin
theorem Z046 : execA E C (fg 88) B 156 E0 N ZVz s = some (.normal, s) := ZV (by rfl) s
theorem Z02g : XC 88 156 Zin 125 Zw3 ZVz := ZN (by rfl) _
theorem ZZR : XQ 88 156 Zil ZtD Zin := Z4 (by rfl) _
theorem Z02V : XQ 88 156 ZhE Zvf Zil := Z4 (by rfl) _
theorem Z040 : execA E C (fg 88) B 156 E0 N Zwl s = blockX 10 (fun s => (forget s.1 [12, 125], s.2)) (execA E C (fg 88) B 156 E0 N ZhE s) := ZK (by rfl) (by rfl) s
def ZvN := kR ZhG
def ZcL := kO ZvN
def ZKu := opN ZcL 0
def ZOE := opN ZcL 1
theorem ZWr : XG 88 156 ZvN ZcL [138] := Zb (by rfl) (by rfl) _
theorem ZKR : ZcL.toList = [ZKu, ZOE] := nf
theorem ZSd : stepA E C B 156 ZcL ZKu (φ, H) = stp (some 138) φ H (just (aBin E.T .add 3 (fget φ 114) (.int .i64 1))) := nf
theorem ZGh : stepA E C B 156 ZcL ZOE (φ, H) = some (fput φ 114 (fget φ 138), H) := nf
theorem ZYF : XQ 88 156 ZhG Zwl ZvN := Z4 (by rfl) _
theorem Zux : XQ 88 156 Zhd Zj4 ZhG := Z4 (by rfl) _
theorem ZtX : XQ 88 156 Z9K Zw4 Zhd := Z4 (by rfl) _
theorem Z0ky : execA E C (fg 88) B 156 E0 N Ztk s = iterA (execA E C (fg 88) B 156 E0 N Z9K) (headA E0) N s := Z0H (by rfl) s
theorem Z0kD : execA E C (fg 88) B 156 E0 N Zwq s = blockX 9 (fun s => (forget s.1 [11, 113, 114, 115], s.2)) (execA E C (fg 88) B 156 E0 N Ztk s) := ZK (by rfl) (by rfl) s
theorem Z0nc : XQ 88 156 ZiF Zub Zwq := Z4 (by rfl) _
theorem Z0nR : XQ 88 156 ZhL ZsZ ZiF := Z4 (by rfl) _
theorem Z0pc : execA E C (fg 88) B 156 E0 N ZEE s = blockX 8 (fun s => (forget s.1 [], s.2)) (execA E C (fg 88) B 156 E0 N ZhL s) := ZK (by rfl) (by rfl) s
def ZvE := kR Zrl
def Zds := kO ZvE
def ZHA := opN Zds 0
def ZGv := opN Zds 1
theorem Z0ju : XG 88 156 ZvE Zds [139] := Zb (by rfl) (by rfl) _
theorem Z0gX : Zds.toList = [ZHA, ZGv] := nf
theorem Z0du : stepA E C B 156 Zds ZHA (φ, H) = stp (some 139) φ H (just (aBin E.T .add 3 (fget φ 110) (.int .i64 1))) := nf
theorem Z0gY : stepA E C B 156 Zds ZGv (φ, H) = some (fput φ 110 (fget φ 139), H) := nf
theorem Z0o0 : XQ 88 156 Zrl ZEE ZvE := Z4 (by rfl) _
theorem Z09s : XQ 88 156 Zq1 Zrh Zrl := Z4 (by rfl) _
theorem Z0av : XQ 88 156 Zdn ZRI Zq1 := Z4 (by rfl) _
theorem ZnR : execA E C (fg 88) B 156 E0 N ZD6 s = iterA (execA E C (fg 88) B 156 E0 N Zdn) (headA E0) N s := Z0H (by rfl) s
theorem Zr0 : execA E C (fg 88) B 156 E0 N ZBg s = blockX 7 (fun s => (forget s.1 [4, 109, 110, 111], s.2)) (execA E C (fg 88) B 156 E0 N ZD6 s) := ZK (by rfl) (by rfl) s
theorem Zq4 : XQ 88 156 ZpA ZBN ZBg := Z4 (by rfl) _
def ZhV := kR ZoJ
def ZhT := kL ZhV
def ZtA := kL ZhT
def Z5i := kO ZtA
def ZN7 := opN Z5i 0
def ZJ2 := opN Z5i 1
def ZNp := opN Z5i 2
def ZB8 := opN Z5i 3
theorem Zh7 : XG 88 156 ZtA Z5i [140] := Zb (by rfl) (by rfl) _
theorem Ze8 : Z5i.toList = [ZN7, ZJ2, ZNp, ZB8] := nf
theorem ZeS : stepA E C B 156 Z5i ZN7 (φ, H) = stp (some 140) φ H (just (Ze E.T 109 (fget φ 5) 1)) := nf
theorem Zeu : stepA E C B 156 Z5i ZJ2 (φ, H) = stp (some 141) φ H (just (aLoad E.T 107 (fget φ 140))) := nf
theorem Ze0 : stepA E C B 156 Z5i ZNp (φ, H) = stp (some 142) φ H (Zh E.T (B + 142) .len #[107] [(fget φ 141)]) := nf
theorem Ze5 : stepA E C B 156 Z5i ZB8 (φ, H) = some (fput φ 143 (.int .i64 0), H) := nf
def ZvR := kR ZhT
def ZuC := kB ZvR
def Z3e := kB ZuC
def ZvQ := kL Z3e
def Zqk := kO ZvQ
def ZSR := opN Zqk 0
theorem ZtT : XG 88 156 ZvQ Zqk [] := Zb (by rfl) (by rfl) _
theorem ZmW : Zqk.toList = [ZSR] := nf
theorem Znf : stepA E C B 156 Zqk ZSR (φ, H) = stp (some 144) φ H (just (aBin E.T .lss 3 (fget φ 143) (fget φ 142))) := nf
def Ziu := kR Z3e
def Zir := kL Ziu
def Z01y := kT Zir
theorem Zuf : execA E C (fg 88) B 156 E0 N Z01y s = some (.normal, s) := ZV (by rfl) s
def Z01X := kE Zir
theorem Zv0 : execA E C (fg 88) B 156 E0 N Z01X s = some (.exit 11, s) := Z0I (by rfl) s
theorem Zvb : XC 88 156 Zir 144 Z01y Z01X := ZN (by rfl) _
def Zhk := kR Ziu
def ZsV := kL Zhk
def ZhB := kB ZsV
def Zww := kL ZhB
def Z3J := kO Zww
def ZJ0 := opN Z3J 0
def ZFX := opN Z3J 1
def ZMF := opN Z3J 2
def ZKq := opN Z3J 3
def ZC8 := opN Z3J 4
theorem Z00O : XG 88 156 Zww Z3J [144, 145, 146, 147] := Zb (by rfl) (by rfl) _
theorem ZEW : Z3J.toList = [ZJ0, ZFX, ZMF, ZKq, ZC8] := nf
theorem ZHk : stepA E C B 156 Z3J ZJ0 (φ, H) = some (fput φ 145 (fget φ 143), H) := nf
theorem ZU4 : stepA E C B 156 Z3J ZFX (φ, H) = stp (some 146) φ H (just (Z5 E.T 107 (fget φ 141) (fget φ 143))) := nf
theorem ZPm : stepA E C B 156 Z3J ZMF (φ, H) = stp (some 147) φ H (just (aLoad E.T 121 (fget φ 146))) := nf
theorem ZHU : stepA E C B 156 Z3J ZKq (φ, H) = some (fput φ 13 (fget φ 145), H) := nf
theorem ZFk : stepA E C B 156 Z3J ZC8 (φ, H) = some (fput φ 14 (fget φ 147), H) := nf
def Ziv := kR ZhB
def Zud := kL Ziv
def Z3E := kO Zud
def ZPj := opN Z3E 0
def ZDM := opN Z3E 1
def ZI3 := opN Z3E 2
def ZJv := opN Z3E 3
def ZUn := opN Z3E 4
theorem Z01Y : XG 88 156 Zud Z3E [13, 14, 148, 149, 150, 151] := Zb (by rfl) (by rfl) _
theorem ZGc : Z3E.toList = [ZPj, ZDM, ZI3, ZJv, ZUn] := nf
theorem ZSF : stepA E C B 156 Z3E ZPj (φ, H) = some (fput φ 148 (fget φ 14), H) := nf
theorem ZLh : stepA E C B 156 Z3E ZDM (φ, H) = some (fput φ 149 (fget φ 13), H) := nf
theorem ZOW : stepA E C B 156 Z3E ZI3 (φ, H) = stp (some 150) φ H (just (aBin E.T .shr 121 (fget φ 148) (fget φ 149))) := nf
theorem ZGG : stepA E C B 156 Z3E ZJv (φ, H) = stp (some 151) φ H (just (aBin E.T .and 121 (fget φ 150) (.int .u64 1))) := nf
theorem ZK2 : stepA E C B 156 Z3E ZUn (φ, H) = stp (some 152) φ H (just (aBin E.T .eql 121 (fget φ 151) (.int .u64 1))) := nf
def Zj8 := kR Ziv
def ZhY := kT Zj8
def Zt6 := kL ZhY
def Z9l := kO Zt6
def ZIn := opN Z9l 0
def ZPv := opN Z9l 1
def ZKH := opN Z9l 2
theorem ZWI : XG 88 156 Zt6 Z9l [5, 141, 142, 143, 152, 153] := Zb (by rfl) (by rfl) _
theorem ZK8 : Z9l.toList = [ZIn, ZPv, ZKH] := nf
theorem ZIG : stepA E C B 156 Z9l ZIn (φ, H) = stp (some 153) φ H (justO (aBuild E.T 109 (evO E φ) [])) := nf
theorem ZLm : stepA E C B 156 Z9l ZPv (φ, H) = stp none φ H (opStore E.T 109 (fget φ 2) (fget φ 153)) := nf
theorem ZR2 : stepA E C B 156 Z9l ZKH (φ, H) = some (fput φ 3 (.int .i64 13), H) := nf
def ZW1 := kR ZhY
theorem ZYe : execA E C (fg 88) B 156 E0 N ZW1 s = some (.ret, s) := Z06 (by rfl) s
theorem ZZo : XQ 88 156 ZhY Zt6 ZW1 := Z4 (by rfl) _
def Z00g := kE Zj8
theorem ZVX : execA E C (fg 88) B 156 E0 N Z00g s = some (.normal, s) := ZV (by rfl) s
theorem Z02B : XC 88 156 Zj8 152 ZhY Z00g := ZN (by rfl) _
theorem Z05S : XQ 88 156 Ziv Zud Zj8 := Z4 (by rfl) _
theorem ZYf : XQ 88 156 ZhB Zww Ziv := Z4 (by rfl) _
theorem Z05g : execA E C (fg 88) B 156 E0 N ZsV s = blockX 12 (fun s => (forget s.1 [152], s.2)) (execA E C (fg 88) B 156 E0 N ZhB s) := ZK (by rfl) (by rfl) s
def ZuR := kR Zhk
def Zc0 := kO ZuR
def ZAB := opN Zc0 0
def ZU8 := opN Zc0 1
theorem Z0ln : XG 88 156 ZuR Zc0 [154] := Zb (by rfl) (by rfl) _
theorem Z0en : Zc0.toList = [ZAB, ZU8] := nf
theorem Z0dH : stepA E C B 156 Zc0 ZAB (φ, H) = stp (some 154) φ H (just (aBin E.T .add 3 (fget φ 143) (.int .i64 1))) := nf
theorem Z0gD : stepA E C B 156 Zc0 ZU8 (φ, H) = some (fput φ 143 (fget φ 154), H) := nf
theorem ZY0 : XQ 88 156 Zhk ZsV ZuR := Z4 (by rfl) _
theorem Zth : XQ 88 156 Ziu Zir Zhk := Z4 (by rfl) _
theorem Zwr : XQ 88 156 Z3e ZvQ Ziu := Z4 (by rfl) _
theorem Zje : execA E C (fg 88) B 156 E0 N ZuC s = iterA (execA E C (fg 88) B 156 E0 N Z3e) (headA E0) N s := Z0H (by rfl) s
theorem ZiR : execA E C (fg 88) B 156 E0 N ZvR s = blockX 11 (fun s => (forget s.1 [141, 142, 143, 144], s.2)) (execA E C (fg 88) B 156 E0 N ZuC s) := ZK (by rfl) (by rfl) s
theorem Zi6 : XQ 88 156 ZhT ZtA ZvR := Z4 (by rfl) _
def Zj7 := kR ZhV
def ZsT := kL Zj7
def Z9q := kO ZsT
def ZPH := opN Z9q 0
def ZLH := opN Z9q 1
def ZAl := opN Z9q 2
theorem Z02e : XG 88 156 ZsT Z9q [5, 155] := Zb (by rfl) (by rfl) _
theorem ZBR : Z9q.toList = [ZPH, ZLH, ZAl] := nf
theorem ZUD : stepA E C B 156 Z9q ZPH (φ, H) = stp (some 155) φ H (just (aLoad E.T 109 (fget φ 5))) := nf
theorem ZUV : stepA E C B 156 Z9q ZLH (φ, H) = stp none φ H (opStore E.T 109 (fget φ 2) (fget φ 155)) := nf
theorem ZCv : stepA E C B 156 Z9q ZAl (φ, H) = some (fput φ 3 (.int .i64 0), H) := nf
def Z02h := kR Zj7
theorem Z02P : execA E C (fg 88) B 156 E0 N Z02h s = some (.ret, s) := Z06 (by rfl) s
theorem ZXJ : XQ 88 156 Zj7 ZsT Z02h := Z4 (by rfl) _
theorem Zha : XQ 88 156 ZhV ZhT Zj7 := Z4 (by rfl) _
theorem Zp6 : XQ 88 156 ZoJ ZpA ZhV := Z4 (by rfl) _
theorem Zh3 : XQ 88 156 Zok Zr9 ZoJ := Z4 (by rfl) _
theorem ZaH : XQ 88 156 ZpK Zss Zok := Z4 (by rfl) _
theorem ZaB : XQ 88 156 Zp7 ZCa ZpK := Z4 (by rfl) _
theorem Z66 : XQ 88 156 Zzb Z07N Zp7 := Z4 (by rfl) _
theorem Z63 : XQ 88 156 Zzy Z05Z Zzb := Z4 (by rfl) _
theorem Z5Y : XQ 88 156 Znx Z065 Zzy := Z4 (by rfl) _
theorem Z0ss : fInfo E 88 = some ⟨156, #[.cell 2 109, .tmp 3], Znx⟩ := nf
theorem b_88 (args : List AV) : bodyA E C fg N 88 args H B = bodyX E [.cell 2 109, .tmp 3] (execA E C (fg 88) B 156 H N Znx (Zw args 0 [], H)) := Z0a Z0ss args H
def ZnM := kBody Proofs.Tryd.f68
def Z07E := kL ZnM
def Zj6 := kO Z07E
def Z00X := opN Zj6 0
def Z05F := opN Zj6 1
theorem Z0hv : XG 68 11 Z07E Zj6 [0, 2] := Zb (by rfl) (by rfl) _
theorem ZWM : Zj6.toList = [Z00X, Z05F] := nf
theorem ZVK : stepA E C B 11 Zj6 Z00X (φ, H) = stp (some 1) φ H (opBox (B + 1) (acells (fget φ 0))) := nf
theorem Z03E : stepA E C B 11 Zj6 Z05F (φ, H) = some (fput φ 2 (.int .i64 0), H) := nf
def ZzN := kR ZnM
def Z06g := kL ZzN
def Z2k := kO Z06g
def Z01M := opN Z2k 0
def Z04s := opN Z2k 1
def ZZf := opN Z2k 2
def Z00r := opN Z2k 3
def ZVW := opN Z2k 4
def Z00t := opN Z2k 5
def Z01H := opN Z2k 6
def Z03G := opN Z2k 7
theorem Z0ht : XG 68 11 Z06g Z2k [1, 3, 5, 6, 7, 8, 9] := Zb (by rfl) (by rfl) _
theorem Z029 : Z2k.toList = [Z01M, Z04s, ZZf, Z00r, ZVW, Z00t, Z01H, Z03G] := nf
theorem Z00D : stepA E C B 11 Z2k Z01M (φ, H) = stp (some 6) φ H (just (aLoad E.T 25 (fget φ 1))) := nf
theorem ZVE : stepA E C B 11 Z2k Z04s (φ, H) = stp (some 7) φ H (aCall C (fun j => B + j * 11 + 7) true 88 [(fget φ 6)]) := nf
theorem ZZh : stepA E C B 11 Z2k ZZf (φ, H) = some (fput φ 5 (fget φ 7), H) := nf
theorem Z04V : stepA E C B 11 Z2k Z00r (φ, H) = stp (some 8) φ H (Zy (fget φ 5) 0) := nf
theorem Z042 : stepA E C B 11 Z2k ZVW (φ, H) = stp (some 9) φ H (Zy (fget φ 5) 1) := nf
theorem ZYk : stepA E C B 11 Z2k Z00t (φ, H) = stp (some 3) φ H (opBox (B + 3) (zeroCells E.T 109)) := nf
theorem Z01x : stepA E C B 11 Z2k Z01H (φ, H) = stp none φ H (opStore E.T 109 (fget φ 3) (fget φ 8)) := nf
theorem ZVN : stepA E C B 11 Z2k Z03G (φ, H) = some (fput φ 4 (fget φ 9), H) := nf
def ZzI := kR ZzN
def Z06J := kL ZzI
def Zij := kO Z06J
def ZX6 := opN Zij 0
def Z00E := opN Zij 1
theorem Z0hm : XG 68 11 Z06J Zij [4, 10] := Zb (by rfl) (by rfl) _
theorem ZZp : Zij.toList = [ZX6, Z00E] := nf
theorem Z05L : stepA E C B 11 Zij ZX6 (φ, H) = some (fput φ 10 (fget φ 4), H) := nf
theorem ZXf : stepA E C B 11 Zij Z00E (φ, H) = some (fput φ 2 (fget φ 10), H) := nf
def Z0hi := kR ZzI
theorem Z0hu : execA E C (fg 68) B 11 E0 N Z0hi s = some (.ret, s) := Z06 (by rfl) s
theorem Z0hn : XQ 68 11 ZzI Z06J Z0hi := Z4 (by rfl) _
theorem Z0hg : XQ 68 11 ZzN Z06g ZzI := Z4 (by rfl) _
theorem Z0hs : XQ 68 11 ZnM Z07E ZzN := Z4 (by rfl) _
theorem Z0rX : fInfo E 68 = some ⟨11, #[.tmp 2], ZnM⟩ := nf
theorem b_68 (args : List AV) : bodyA E C fg N 68 args H B = bodyX E [.tmp 2] (execA E C (fg 68) B 11 H N ZnM (Zw args 0 [], H)) := Z0a Z0rX args H
def ZnX := kBody Proofs.Tryd.f95
def Z071 := kL ZnX
def ZiN := kO Z071
def Z051 := opN ZiN 0
def Z03Z := opN ZiN 1
theorem Z0rc : XG 95 8 Z071 ZiN [0, 2] := Zb (by rfl) (by rfl) _
theorem Z0mt : ZiN.toList = [Z051, Z03Z] := nf
theorem Z0mE : stepA E C B 8 ZiN Z051 (φ, H) = stp (some 1) φ H (opBox (B + 1) (acells (fget φ 0))) := nf
theorem Z0m1 : stepA E C B 8 ZiN Z03Z (φ, H) = some (fput φ 2 (.int .u64 0), H) := nf
def Zz6 := kR ZnX
def Z06b := kL Zz6
def Z47 := kO Z06b
def ZYc := opN Z47 0
def Z03W := opN Z47 1
def ZVJ := opN Z47 2
def Z04B := opN Z47 3
def ZWO := opN Z47 4
def Z01r := opN Z47 5
theorem Z0qT : XG 95 8 Z06b Z47 [1, 3, 4, 5, 6, 7] := Zb (by rfl) (by rfl) _
theorem Z0mG : Z47.toList = [ZYc, Z03W, ZVJ, Z04B, ZWO, Z01r] := nf
theorem Z0lU : stepA E C B 8 Z47 ZYc (φ, H) = stp (some 3) φ H (just (Ze E.T 109 (fget φ 1) 0)) := nf
theorem Z0ic : stepA E C B 8 Z47 Z03W (φ, H) = stp (some 4) φ H (just (aLoad E.T 106 (fget φ 3))) := nf
theorem Z0kZ : stepA E C B 8 Z47 ZVJ (φ, H) = stp (some 5) φ H (Zh E.T (B + 5) .len #[106] [(fget φ 4)]) := nf
theorem Z0ml : stepA E C B 8 Z47 Z04B (φ, H) = stp (some 6) φ H (just (aBin E.T .shl 121 (.int .u64 1) (fget φ 5))) := nf
theorem Z0lF : stepA E C B 8 Z47 ZWO (φ, H) = stp (some 7) φ H (just (aBin E.T .sub 121 (fget φ 6) (.int .u64 1))) := nf
theorem Z0lK : stepA E C B 8 Z47 Z01r (φ, H) = some (fput φ 2 (fget φ 7), H) := nf
def Z0ho := kR Zz6
theorem Z0rF : execA E C (fg 95) B 8 E0 N Z0ho s = some (.ret, s) := Z06 (by rfl) s
theorem Z0t6 : XQ 95 8 Zz6 Z06b Z0ho := Z4 (by rfl) _
theorem Z0sT : XQ 95 8 ZnX Z071 Zz6 := Z4 (by rfl) _
theorem Z0rm : fInfo E 95 = some ⟨8, #[.tmp 2], ZnX⟩ := nf
theorem b_95 (args : List AV) : bodyA E C fg N 95 args H B = bodyX E [.tmp 2] (execA E C (fg 95) B 8 H N ZnX (Zw args 0 [], H)) := Z0a Z0rm args H
def Zgp := kBody Proofs.Tryd.f128
def ZFh := kL Zgp
def Z9r := kO ZFh
def ZCq := opN Z9r 0
def ZJN := opN Z9r 1
def ZLu := opN Z9r 2
theorem Z0pD : XG 128 9 ZFh Z9r [0, 1, 4] := Zb (by rfl) (by rfl) _
theorem Z0gt : Z9r.toList = [ZCq, ZJN, ZLu] := nf
theorem Z0fb : stepA E C B 9 Z9r ZCq (φ, H) = stp (some 2) φ H (opBox (B + 2) (acells (fget φ 0))) := nf
theorem Z0gL : stepA E C B 9 Z9r ZJN (φ, H) = stp (some 3) φ H (opBox (B + 3) (acells (fget φ 1))) := nf
theorem Z0f9 : stepA E C B 9 Z9r ZLu (φ, H) = some (fput φ 4 (.nilsl), H) := nf
def ZqU := kR Zgp
def ZOn := kL ZqU
def Z3P := kO ZOn
def ZIE := opN Z3P 0
def ZAU := opN Z3P 1
def ZEN := opN Z3P 2
def ZOO := opN Z3P 3
def ZNM := opN Z3P 4
theorem Z0oY : XG 128 9 ZOn Z3P [2, 3, 5, 6, 7, 8] := Zb (by rfl) (by rfl) _
theorem Z0fH : Z3P.toList = [ZIE, ZAU, ZEN, ZOO, ZNM] := nf
theorem Z0e5 : stepA E C B 9 Z3P ZIE (φ, H) = stp (some 5) φ H (just (aLoad E.T 121 (fget φ 3))) := nf
theorem Z0gl : stepA E C B 9 Z3P ZAU (φ, H) = stp (some 6) φ H (aCall C (fun j => B + j * 9 + 6) true 97 [(fget φ 5)]) := nf
theorem Z0cY : stepA E C B 9 Z3P ZEN (φ, H) = stp (some 7) φ H (.pure (.clo 141 [(fget φ 2), (fget φ 3)], [])) := nf
theorem Z0eO : stepA E C B 9 Z3P ZOO (φ, H) = mutX (some 8) φ (C 140 [(fget φ 6), (fget φ 7)] H (B + 9 * 8)) := nf
theorem Z0gU : stepA E C B 9 Z3P ZNM (φ, H) = some (fput φ 4 (fget φ 8), H) := nf
def Z09C := kR ZqU
theorem Z0qe : execA E C (fg 128) B 9 E0 N Z09C s = some (.ret, s) := Z06 (by rfl) s
theorem Z0oq : XQ 128 9 ZqU ZOn Z09C := Z4 (by rfl) _
theorem Z0o6 : XQ 128 9 Zgp ZFh ZqU := Z4 (by rfl) _
theorem Z0qi : fInfo E 128 = some ⟨9, #[.tmp 4], Zgp⟩ := nf
theorem Z0t7 (args : List AV) : bodyA E C fg N 128 args H B = bodyX E [.tmp 4] (execA E C (fg 128) B 9 H N Zgp (Zw args 0 [], H)) := Z0a Z0qi args H
def ZfT := kBody Proofs.Tryd.f141
def ZMD := kL ZfT
def Zpr := kO ZMD
def ZCz := opN Zpr 0
theorem Z0pz : XG 141 13 ZMD Zpr [4] := Zb (by rfl) (by rfl) _
theorem Z0dY : Zpr.toList = [ZCz] := nf
theorem Z0fB : stepA E C B 13 Zpr ZCz (φ, H) = some (fput φ 4 (.bool false), H) := nf
def ZpT := kR ZfT
def ZDt := kL ZpT
def Z0D := kO ZDt
def ZU1 := opN Z0D 0
def ZKr := opN Z0D 1
def ZQ8 := opN Z0D 2
def ZBh := opN Z0D 3
def ZHL := opN Z0D 4
def ZM6 := opN Z0D 5
def ZKC := opN Z0D 6
def ZHV := opN Z0D 7
def ZPi := opN Z0D 8
theorem Z0ox : XD 141 13 ZDt Z0D [0, 1, 2, 5, 6, 7, 8, 9, 10, 11, 12] := Z0Z (by rfl) (by rfl) _
theorem Z0dW : Z0D.toList = [ZU1, ZKr, ZQ8, ZBh, ZHL, ZM6, ZKC, ZHV, ZPi] := nf
theorem Z0bV : statOk Z0D = true := by kernel_rfl
theorem Z0ck : drawA E C B 13 Z0D s = if neat 13 s = true then drX Z0D (runT E C B 13 Z0D Z0D.toList 0 s) else none := Z0J Z0bV s
theorem Z0ce (l : List (Nat × Tr)) : dynOk Z0D l = (!writing l || Zs [[], [0], [], [0, 1, 2], [0, 1, 2, 3], [], [0, 1, 2, 3, 4, 5], [0, 1, 2, 3, 4, 5, 6], [0, 1, 2, 3, 4, 5, 6, 7]] (Zq l)) := Z0t (by kernel_rfl) l
theorem Z0eI : stepT E C B 13 Z0D ZU1 (φ, H) = stpT (some 5) φ H (just (Ze E.T 109 (fget φ 1) 1)) := Z9 rfl (Zj rfl rfl)
theorem Z0fZ : stepT E C B 13 Z0D ZKr (φ, H) = stpT (some 6) φ H (just (aLoad E.T 107 (fget φ 5))) := Z9 rfl (Zj rfl rfl)
theorem Z0dV : stepT E C B 13 Z0D ZQ8 (φ, H) = some ((fput φ 7 (fget φ 0), H), ⟨false, [], []⟩) := Z9 rfl (ZS rfl rfl)
theorem Z0gP : stepT E C B 13 Z0D ZBh (φ, H) = stpT (some 8) φ H (just (Z5 E.T 107 (fget φ 6) (fget φ 7))) := Z9 rfl (Zj rfl rfl)
theorem Z0dM : stepT E C B 13 Z0D ZHL (φ, H) = stpT (some 9) φ H (just (aLoad E.T 121 (fget φ 8))) := Z9 rfl (Zj rfl rfl)
theorem Z0hd : stepT E C B 13 Z0D ZM6 (φ, H) = stpT (some 10) φ H (just (aLoad E.T 121 (fget φ 2))) := Z9 rfl (Zj rfl rfl)
theorem Z0e3 : stepT E C B 13 Z0D ZKC (φ, H) = stpT (some 11) φ H (just (aBin E.T .and 121 (fget φ 9) (fget φ 10))) := Z9 rfl (Zj rfl rfl)
theorem Z0dA : stepT E C B 13 Z0D ZHV (φ, H) = stpT (some 12) φ H (just (aBin E.T .neq 121 (fget φ 11) (.int .u64 0))) := Z9 rfl (Zj rfl rfl)
theorem Z0dz : stepT E C B 13 Z0D ZPi (φ, H) = some ((fput φ 4 (fget φ 12), H), ⟨false, [], []⟩) := Z9 rfl (ZS rfl rfl)
def Z0ao := kR ZpT
theorem Z0o1 : execA E C (fg 141) B 13 E0 N Z0ao s = some (.ret, s) := Z06 (by rfl) s
theorem Z0pu : XQ 141 13 ZpT ZDt Z0ao := Z4 (by rfl) _
theorem Z0o8 : XQ 141 13 ZfT ZMD ZpT := Z4 (by rfl) _
theorem ZrX : fInfo E 141 = some ⟨13, #[.tmp 4], ZfT⟩ := nf
theorem Z0sr (args : List AV) : bodyA E C fg N 141 args H B = bodyX E [.tmp 4] (execA E C (fg 141) B 13 H N ZfT (Zw args 0 [], H)) := Z0a ZrX args H
def ZfX := kBody Proofs.Tryd.f100
def ZJu := kL ZfX
def ZcG := kO ZJu
def ZU5 := opN ZcG 0
def ZKz := opN ZcG 1
theorem Z0aA : XG 100 25 ZJu ZcG [0, 4] := Zb (by rfl) (by rfl) _
theorem ZNe : ZcG.toList = [ZU5, ZKz] := nf
theorem ZLw : stepA E C B 25 ZcG ZU5 (φ, H) = stp (some 2) φ H (opBox (B + 2) (acells (fget φ 0))) := nf
theorem ZG8 : stepA E C B 25 ZcG ZKz (φ, H) = some (fput φ 4 (.int .i64 0), H) := nf
def Zpn := kR ZfX
def ZRz := kL Zpn
def Zny := kO ZRz
def ZM5 := opN Zny 0
theorem Z0a0 : XG 100 25 ZRz Zny [] := Zb (by rfl) (by rfl) _
theorem ZAD : Zny.toList = [ZM5] := nf
theorem ZKh : stepA E C B 25 Zny ZM5 (φ, H) = some (fput φ 5 (.int .i64 0), H) := nf
def Zpf := kR Zpn
def Zoa := kL Zpf
def ZMG := kL Zoa
def Z5l := kO ZMG
def ZK7 := opN Z5l 0
def ZBy := opN Z5l 1
def ZUS := opN Z5l 2
def ZOs := opN Z5l 3
theorem Z08B : XG 100 25 ZMG Z5l [1, 8] := Zb (by rfl) (by rfl) _
theorem ZEr : Z5l.toList = [ZK7, ZBy, ZUS, ZOs] := nf
theorem ZKX : stepA E C B 25 Z5l ZK7 (φ, H) = some (fput φ 8 (fget φ 1), H) := nf
theorem ZT2 : stepA E C B 25 Z5l ZBy (φ, H) = stp (some 9) φ H (aCall C (fun j => B + j * 25 + 9) true 97 [(fget φ 8)]) := nf
theorem ZHo : stepA E C B 25 Z5l ZUS (φ, H) = stp (some 10) φ H (Zh E.T (B + 10) .len #[36] [(fget φ 9)]) := nf
theorem ZK5 : stepA E C B 25 Z5l ZOs (φ, H) = some (fput φ 11 (.int .i64 0), H) := nf
def ZUa := kR Zoa
def ZQV := kB ZUa
def Zao := kB ZQV
def Zue := kL Zao
def Zr5 := kO Zue
def ZBb := opN Zr5 0
theorem Zwa : XG 100 25 Zue Zr5 [] := Zb (by rfl) (by rfl) _
theorem ZmF : Zr5.toList = [ZBb] := nf
theorem ZjB : stepA E C B 25 Zr5 ZBb (φ, H) = stp (some 12) φ H (just (aBin E.T .lss 3 (fget φ 11) (fget φ 10))) := nf
def Zhy := kR Zao
def Zhw := kL Zhy
def ZWo := kT Zhw
theorem ZuI : execA E C (fg 100) B 25 E0 N ZWo s = some (.normal, s) := ZV (by rfl) s
def Z02d := kE Zhw
theorem Zw6 : execA E C (fg 100) B 25 E0 N Z02d s = some (.exit 0, s) := Z0I (by rfl) s
theorem Zwy : XC 100 25 Zhw 12 ZWo Z02d := ZN (by rfl) _
def ZhN := kR Zhy
def Zvj := kL ZhN
def Zj0 := kB Zvj
def ZuF := kL Zj0
def Z98 := kO ZuF
def ZT0 := opN Z98 0
def ZAw := opN Z98 1
def ZCj := opN Z98 2
theorem Z0mJ : XG 100 25 ZuF Z98 [12, 13, 14] := Zb (by rfl) (by rfl) _
theorem Z0gx : Z98.toList = [ZT0, ZAw, ZCj] := nf
theorem Z0eh : stepA E C B 25 Z98 ZT0 (φ, H) = stp (some 13) φ H (just (Z5 E.T 36 (fget φ 9) (fget φ 11))) := nf
theorem Z0em : stepA E C B 25 Z98 ZAw (φ, H) = stp (some 14) φ H (just (aLoad E.T 3 (fget φ 13))) := nf
theorem Z0g1 : stepA E C B 25 Z98 ZCj (φ, H) = some (fput φ 7 (fget φ 14), H) := nf
def Zwp := kR Zj0
def Z0X := kO Zwp
def ZUp := opN Z0X 0
def ZId := opN Z0X 1
def ZAS := opN Z0X 2
def ZOH := opN Z0X 3
def ZPA := opN Z0X 4
def ZR8 := opN Z0X 5
def ZP9 := opN Z0X 6
def ZB5 := opN Z0X 7
def ZGf := opN Z0X 8
theorem Z0jx : XG 100 25 Zwp Z0X [7, 15, 16, 17, 18, 19, 20, 21, 22] := Zb (by rfl) (by rfl) _
theorem Z0eF : Z0X.toList = [ZUp, ZId, ZAS, ZOH, ZPA, ZR8, ZP9, ZB5, ZGf] := nf
theorem Z0dU : stepA E C B 25 Z0X ZUp (φ, H) = some (fput φ 15 (fget φ 5), H) := nf
theorem Z0fa : stepA E C B 25 Z0X ZId (φ, H) = stp (some 16) φ H (just (Ze E.T 109 (fget φ 2) 0)) := nf
theorem Z0ge : stepA E C B 25 Z0X ZAS (φ, H) = stp (some 17) φ H (just (aLoad E.T 106 (fget φ 16))) := nf
theorem Z0fg : stepA E C B 25 Z0X ZOH (φ, H) = some (fput φ 18 (fget φ 7), H) := nf
theorem Z0eP : stepA E C B 25 Z0X ZPA (φ, H) = stp (some 19) φ H (just (Z5 E.T 106 (fget φ 17) (fget φ 18))) := nf
theorem Z0eo : stepA E C B 25 Z0X ZR8 (φ, H) = stp (some 20) φ H (just (Z5 E.T 126 (fget φ 19) (.int .i64 1))) := nf
theorem Z0ew : stepA E C B 25 Z0X ZP9 (φ, H) = stp (some 21) φ H (just (aLoad E.T 3 (fget φ 20))) := nf
theorem Z0f8 : stepA E C B 25 Z0X ZB5 (φ, H) = stp (some 22) φ H (just (aBin E.T .add 3 (fget φ 15) (fget φ 21))) := nf
theorem Z0fV : stepA E C B 25 Z0X ZGf (φ, H) = some (fput φ 5 (fget φ 22), H) := nf
theorem Z0iR : XQ 100 25 Zj0 ZuF Zwp := Z4 (by rfl) _
theorem Z0kn : execA E C (fg 100) B 25 E0 N Zvj s = blockX 1 (fun s => (forget s.1 [], s.2)) (execA E C (fg 100) B 25 E0 N Zj0 s) := ZK (by rfl) (by rfl) s
def Zwg := kR ZhN
def Zd0 := kO Zwg
def ZBG := opN Zd0 0
def ZCX := opN Zd0 1
theorem Z0kX : XG 100 25 Zwg Zd0 [23] := Zb (by rfl) (by rfl) _
theorem Z0fA : Zd0.toList = [ZBG, ZCX] := nf
theorem Z0ek : stepA E C B 25 Zd0 ZBG (φ, H) = stp (some 23) φ H (just (aBin E.T .add 3 (fget φ 11) (.int .i64 1))) := nf
theorem Z0gZ : stepA E C B 25 Zd0 ZCX (φ, H) = some (fput φ 11 (fget φ 23), H) := nf
theorem Z0np : XQ 100 25 ZhN Zvj Zwg := Z4 (by rfl) _
theorem Ztg : XQ 100 25 Zhy Zhw ZhN := Z4 (by rfl) _
theorem ZEF : XQ 100 25 Zao Zue Zhy := Z4 (by rfl) _
theorem Z0aC : execA E C (fg 100) B 25 E0 N ZQV s = iterA (execA E C (fg 100) B 25 E0 N Zao) (headA E0) N s := Z0H (by rfl) s
theorem Z09D : execA E C (fg 100) B 25 E0 N ZUa s = blockX 0 (fun s => (forget s.1 [2, 9, 10, 11, 12], s.2)) (execA E C (fg 100) B 25 E0 N ZQV s) := ZK (by rfl) (by rfl) s
theorem Z09A : XQ 100 25 Zoa ZMG ZUa := Z4 (by rfl) _
def ZiA := kR Zpf
def ZuL := kL ZiA
def Zcg := kO ZuL
def ZQN := opN Zcg 0
def ZQb := opN Zcg 1
theorem Z04x : XG 100 25 ZuL Zcg [5, 24] := Zb (by rfl) (by rfl) _
theorem ZDK : Zcg.toList = [ZQN, ZQb] := nf
theorem ZSE : stepA E C B 25 Zcg ZQN (φ, H) = some (fput φ 24 (fget φ 5), H) := nf
theorem ZR9 : stepA E C B 25 Zcg ZQb (φ, H) = some (fput φ 4 (fget φ 24), H) := nf
def ZW2 := kR ZiA
theorem Z02D : execA E C (fg 100) B 25 E0 N ZW2 s = some (.ret, s) := Z06 (by rfl) s
theorem ZY7 : XQ 100 25 ZiA ZuL ZW2 := Z4 (by rfl) _
theorem Z0bl : XQ 100 25 Zpf Zoa ZiA := Z4 (by rfl) _
theorem Z08Z : XQ 100 25 Zpn ZRz Zpf := Z4 (by rfl) _
theorem Z0cM : XQ 100 25 ZfX ZJu Zpn := Z4 (by rfl) _
theorem Z0pB : fInfo E 100 = some ⟨25, #[.tmp 4], ZfX⟩ := nf
theorem Z0hB (args : List AV) : bodyA E C fg N 100 args H B = bodyX E [.tmp 4] (execA E C (fg 100) B 25 H N ZfX (Zw args 0 [], H)) := Z0a Z0pB args H
def ZfF := kBody Proofs.Tryd.f140
def ZE2 := kL ZfF
def Zs0 := kO ZE2
def ZKU := opN Zs0 0
theorem Z0au : XG 140 42 ZE2 Zs0 [4] := Zb (by rfl) (by rfl) _
theorem ZIa : Zs0.toList = [ZKU] := nf
theorem ZIJ : stepA E C B 42 Zs0 ZKU (φ, H) = some (fput φ 4 (.nilsl), H) := nf
def ZqM := kR ZfF
def ZL1 := kL ZqM
def Z5f := kO ZL1
def ZAY := opN Z5f 0
def ZJx := opN Z5f 1
def ZPn := opN Z5f 2
def ZOw := opN Z5f 3
theorem Z0b7 : XG 140 42 ZL1 Z5f [8, 9, 10] := Zb (by rfl) (by rfl) _
theorem ZJt : Z5f.toList = [ZAY, ZJx, ZPn, ZOw] := nf
theorem ZRF : stepA E C B 42 Z5f ZAY (φ, H) = some (fput φ 8 (fget φ 0), H) := nf
theorem ZDf : stepA E C B 42 Z5f ZJx (φ, H) = some (fput φ 9 (fget φ 1), H) := nf
theorem ZK3 : stepA E C B 42 Z5f ZPn (φ, H) = stp (some 10) φ H (aCall C (fun j => B + j * 42 + 10) true 54 [(fget φ 8), (fget φ 9)]) := nf
theorem ZBE : stepA E C B 42 Z5f ZOw (φ, H) = some (fput φ 5 (fget φ 10), H) := nf
def Zpl := kR ZqM
def Zsp := kL Zpl
def ZSX := kL Zsp
def ZdF := kO ZSX
def ZRn := opN ZdF 0
def ZQt := opN ZdF 1
theorem Z0by : XG 140 42 ZSX ZdF [11] := Zb (by rfl) (by rfl) _
theorem ZGR : ZdF.toList = [ZRn, ZQt] := nf
theorem ZKn : stepA E C B 42 ZdF ZRn (φ, H) = some (fput φ 11 (fget φ 5), H) := nf
theorem ZL0 : stepA E C B 42 ZdF ZQt (φ, H) = stp (some 12) φ H (just (aBin E.T .eql 3 (fget φ 11) (.int .i64 (-1)))) := nf
def Zpd := kR Zsp
def ZrN := kT Zpd
def ZRG := kL ZrN
def Zdw := kO ZRG
def ZF7 := opN Zdw 0
def ZC2 := opN Zdw 1
theorem Z0bk : XG 140 42 ZRG Zdw [0, 1, 5, 12, 13] := Zb (by rfl) (by rfl) _
theorem ZNL : Zdw.toList = [ZF7, ZC2] := nf
theorem ZIp : stepA E C B 42 Zdw ZF7 (φ, H) = some (fput φ 13 (fget φ 0), H) := nf
theorem ZLL : stepA E C B 42 Zdw ZC2 (φ, H) = some (fput φ 4 (fget φ 13), H) := nf
def Z04c := kR ZrN
theorem Z02N : execA E C (fg 140) B 42 E0 N Z04c s = some (.ret, s) := Z06 (by rfl) s
theorem Z09c : XQ 140 42 ZrN ZRG Z04c := Z4 (by rfl) _
def Z044 := kE Zpd
theorem Z030 : execA E C (fg 140) B 42 E0 N Z044 s = some (.normal, s) := ZV (by rfl) s
theorem Z0co : XC 140 42 Zpd 12 ZrN Z044 := ZN (by rfl) _
theorem Z0ag : XQ 140 42 Zsp ZSX Zpd := Z4 (by rfl) _
def ZiT := kR Zpl
def Zid := kL ZiT
def Zu3 := kL Zid
def Z93 := kO Zu3
def ZIK := opN Z93 0
def ZCh := opN Z93 1
def ZOJ := opN Z93 2
theorem Z0i7 : XG 140 42 Zu3 Z93 [12, 14, 15] := Zb (by rfl) (by rfl) _
theorem Z0eV : Z93.toList = [ZIK, ZCh, ZOJ] := nf
theorem Z0ha : stepA E C B 42 Z93 ZIK (φ, H) = some (fput φ 14 (fget φ 5), H) := nf
theorem Z0eG : stepA E C B 42 Z93 ZCh (φ, H) = stp (some 15) φ H (just (aBin E.T .add 3 (fget φ 14) (.int .i64 1))) := nf
theorem Z0gk : stepA E C B 42 Z93 ZOJ (φ, H) = some (fput φ 6 (fget φ 15), H) := nf
def Ztt := kR Zid
def Zw8 := kB Ztt
def Z9S := kB Zw8
def Zho := kL Z9S
def Ztc := kL Zho
def Z54 := kO Ztc
def ZQC := opN Z54 0
def ZJz := opN Z54 1
def ZSe := opN Z54 2
def ZAE := opN Z54 3
theorem ZtL : XG 140 42 Ztc Z54 [16, 17, 18] := Zb (by rfl) (by rfl) _
theorem Zl1 : Z54.toList = [ZQC, ZJz, ZSe, ZAE] := nf
theorem Zll : stepA E C B 42 Z54 ZQC (φ, H) = some (fput φ 16 (fget φ 6), H) := nf
theorem ZmN : stepA E C B 42 Z54 ZJz (φ, H) = some (fput φ 17 (fget φ 0), H) := nf
theorem ZmJ : stepA E C B 42 Z54 ZSe (φ, H) = stp (some 18) φ H (Zh E.T (B + 18) .len #[36] [(fget φ 17)]) := nf
theorem ZlO : stepA E C B 42 Z54 ZAE (φ, H) = stp (some 19) φ H (just (aBin E.T .lss 3 (fget φ 16) (fget φ 18))) := nf
def Zit := kR Zho
def Z05U := kT Zit
theorem Ztx : execA E C (fg 140) B 42 E0 N Z05U s = some (.normal, s) := ZV (by rfl) s
def ZWs := kE Zit
theorem Zt4 : execA E C (fg 140) B 42 E0 N ZWs s = some (.exit 0, s) := Z0I (by rfl) s
theorem Zwd : XC 140 42 Zit 19 Z05U ZWs := ZN (by rfl) _
theorem Zu5 : XQ 140 42 Zho Ztc Zit := Z4 (by rfl) _
def Zjg := kR Z9S
def Zun := kL Zjg
def ZiH := kB Zun
def Zwh := kL ZiH
def Z3v := kO Zwh
def ZPq := opN Z3v 0
def ZAH := opN Z3v 1
def ZLW := opN Z3v 2
def ZTE := opN Z3v 3
def ZNc := opN Z3v 4
theorem ZVQ : XG 140 42 Zwh Z3v [19, 22, 23, 24, 25] := Zb (by rfl) (by rfl) _
theorem ZPp : Z3v.toList = [ZPq, ZAH, ZLW, ZTE, ZNc] := nf
theorem ZH2 : stepA E C B 42 Z3v ZPq (φ, H) = some (fput φ 22 (fget φ 0), H) := nf
theorem ZB7 : stepA E C B 42 Z3v ZAH (φ, H) = some (fput φ 23 (fget φ 6), H) := nf
theorem ZQG : stepA E C B 42 Z3v ZLW (φ, H) = stp (some 24) φ H (just (Z5 E.T 36 (fget φ 22) (fget φ 23))) := nf
theorem ZI4 : stepA E C B 42 Z3v ZTE (φ, H) = stp (some 25) φ H (just (aLoad E.T 3 (fget φ 24))) := nf
theorem ZCd : stepA E C B 42 Z3v ZNc (φ, H) = some (fput φ 7 (fget φ 25), H) := nf
def Zhj := kR ZiH
def ZvJ := kL Zhj
def Z57 := kO ZvJ
def ZKK := opN Z57 0
def ZFt := opN Z57 1
def ZQq := opN Z57 2
def ZPb := opN Z57 3
theorem Z02Y : XG 140 42 ZvJ Z57 [26, 27, 28] := Zb (by rfl) (by rfl) _
theorem ZGO : Z57.toList = [ZKK, ZFt, ZQq, ZPb] := nf
theorem ZAo : stepA E C B 42 Z57 ZKK (φ, H) = some (fput φ 26 (fget φ 1), H) := nf
theorem ZNg : stepA E C B 42 Z57 ZFt (φ, H) = some (fput φ 27 (fget φ 7), H) := nf
theorem ZOl : stepA E C B 42 Z57 ZQq (φ, H) = callV E C (B + 42 * 8) (some 28) (fun j => B + j * 42 + 28) φ H (fget φ 26) [(fget φ 27)] true := nf
theorem ZQM : stepA E C B 42 Z57 ZPb (φ, H) = stp (some 29) φ H (justO (aUn .not (fget φ 28))) := nf
def Zh6 := kR Zhj
def Zhq := kT Zh6
def Zum := kL Zhq
def Z3F := kO Zum
def ZBn := opN Z3F 0
def ZLd := opN Z3F 1
def ZCu := opN Z3F 2
def ZPE := opN Z3F 3
def ZAj := opN Z3F 4
theorem Z04P : XG 140 42 Zum Z3F [7, 29, 30, 31, 32, 33] := Zb (by rfl) (by rfl) _
theorem ZEU : Z3F.toList = [ZBn, ZLd, ZCu, ZPE, ZAj] := nf
theorem ZPW : stepA E C B 42 Z3F ZBn (φ, H) = some (fput φ 30 (fget φ 0), H) := nf
theorem ZHF : stepA E C B 42 Z3F ZLd (φ, H) = some (fput φ 31 (fget φ 5), H) := nf
theorem ZTi : stepA E C B 42 Z3F ZCu (φ, H) = some (fput φ 32 (fget φ 7), H) := nf
theorem ZMm : stepA E C B 42 Z3F ZPE (φ, H) = stp (some 33) φ H (just (Z5 E.T 36 (fget φ 30) (fget φ 31))) := nf
theorem ZAc : stepA E C B 42 Z3F ZAj (φ, H) = stp none φ H (opStore E.T 3 (fget φ 33) (fget φ 32)) := nf
def Zwx := kR Zhq
def Z5L := kO Zwx
def Zxq := opN Z5L 0
def Zyt := opN Z5L 1
def ZwD := opN Z5L 2
theorem ZXh : XG 140 42 Zwx Z5L [34, 35] := Zb (by rfl) (by rfl) _
theorem Zyk : Z5L.toList = [Zxq, Zyt, ZwD] := nf
theorem Zyx : stepA E C B 42 Z5L Zxq (φ, H) = some (fput φ 34 (fget φ 5), H) := nf
theorem ZwT : stepA E C B 42 Z5L Zyt (φ, H) = stp (some 35) φ H (just (aBin E.T .add 3 (fget φ 34) (.int .i64 1))) := nf
theorem ZxT : stepA E C B 42 Z5L ZwD (φ, H) = some (fput φ 5 (fget φ 35), H) := nf
theorem Z01Q : XQ 140 42 Zhq Zum Zwx := Z4 (by rfl) _
def Z03Q := kE Zh6
theorem ZYb : execA E C (fg 140) B 42 E0 N Z03Q s = some (.normal, s) := ZV (by rfl) s
theorem ZZs : XC 140 42 Zh6 29 Zhq Z03Q := ZN (by rfl) _
theorem ZWU : XQ 140 42 Zhj ZvJ Zh6 := Z4 (by rfl) _
theorem Z026 : XQ 140 42 ZiH Zwh Zhj := Z4 (by rfl) _
theorem ZWt : execA E C (fg 140) B 42 E0 N Zun s = blockX 1 (fun s => (forget s.1 [7, 29], s.2)) (execA E C (fg 140) B 42 E0 N ZiH s) := ZK (by rfl) (by rfl) s
def Zw0 := kR Zjg
def Z94 := kO Zw0
def ZI1 := opN Z94 0
def ZFF := opN Z94 1
def ZMe := opN Z94 2
theorem ZVj : XG 140 42 Zw0 Z94 [20, 21] := Zb (by rfl) (by rfl) _
theorem ZPr : Z94.toList = [ZI1, ZFF, ZMe] := nf
theorem ZDp : stepA E C B 42 Z94 ZI1 (φ, H) = some (fput φ 20 (fget φ 6), H) := nf
theorem ZBw : stepA E C B 42 Z94 ZFF (φ, H) = stp (some 21) φ H (just (aBin E.T .add 3 (fget φ 20) (.int .i64 1))) := nf
theorem ZTR : stepA E C B 42 Z94 ZMe (φ, H) = some (fput φ 6 (fget φ 21), H) := nf
theorem Z01m : XQ 140 42 Zjg Zun Zw0 := Z4 (by rfl) _
theorem ZuQ : XQ 140 42 Z9S Zho Zjg := Z4 (by rfl) _
theorem Z0jh : execA E C (fg 140) B 42 E0 N Zw8 s = iterA (execA E C (fg 140) B 42 E0 N Z9S) (headA E0) N s := Z0H (by rfl) s
theorem Z0lZ : execA E C (fg 140) B 42 E0 N Ztt s = blockX 0 (fun s => (forget s.1 [1, 6, 19], s.2)) (execA E C (fg 140) B 42 E0 N Zw8 s) := ZK (by rfl) (by rfl) s
theorem Z0lJ : XQ 140 42 Zid Zu3 Ztt := Z4 (by rfl) _
def ZiK := kR ZiT
def Zu2 := kL ZiK
def Z40 := kO Zu2
def ZxX := opN Z40 0
def Zxn := opN Z40 1
def Zxt := opN Z40 2
def ZxP := opN Z40 3
theorem Z0lX : XG 140 42 Zu2 Z40 [36, 37, 38] := Zb (by rfl) (by rfl) _
theorem Z0br : Z40.toList = [ZxX, Zxn, Zxt, ZxP] := nf
theorem Z0c0 : stepA E C B 42 Z40 ZxX (φ, H) = some (fput φ 36 (fget φ 0), H) := nf
theorem Z09a : stepA E C B 42 Z40 Zxn (φ, H) = some (fput φ 37 (fget φ 5), H) := nf
theorem Z08T : stepA E C B 42 Z40 Zxt (φ, H) = stp (some 38) φ H (just (aSlice E.T 36 (fget φ 36) (some (fget φ 37)) none none)) := nf
theorem Z0aK : stepA E C B 42 Z40 ZxP (φ, H) = stp none φ H (Zh E.T (B + 0) .clear #[36] [(fget φ 38)]) := nf
def Zhl := kR ZiK
def ZtV := kL Zhl
def Z3Z := kO ZtV
def ZwK := opN Z3Z 0
def Zxs := opN Z3Z 1
def Zyo := opN Z3Z 2
def Zyu := opN Z3Z 3
theorem Z0mS : XG 140 42 ZtV Z3Z [0, 5, 39, 40, 41] := Zb (by rfl) (by rfl) _
theorem Z091 : Z3Z.toList = [ZwK, Zxs, Zyo, Zyu] := nf
theorem Z088 : stepA E C B 42 Z3Z ZwK (φ, H) = some (fput φ 39 (fget φ 0), H) := nf
theorem Z0cc : stepA E C B 42 Z3Z Zxs (φ, H) = some (fput φ 40 (fget φ 5), H) := nf
theorem Z099 : stepA E C B 42 Z3Z Zyo (φ, H) = stp (some 41) φ H (just (aSlice E.T 36 (fget φ 39) none (some (fget φ 40)) none)) := nf
theorem Z0ak : stepA E C B 42 Z3Z Zyu (φ, H) = some (fput φ 4 (fget φ 41), H) := nf
def ZWq := kR Zhl
theorem Z0mL : execA E C (fg 140) B 42 E0 N ZWq s = some (.ret, s) := Z06 (by rfl) s
theorem Z0mf : XQ 140 42 Zhl ZtV ZWq := Z4 (by rfl) _
theorem Z0kF : XQ 140 42 ZiK Zu2 Zhl := Z4 (by rfl) _
theorem Z0mD : XQ 140 42 ZiT Zid ZiK := Z4 (by rfl) _
theorem Z0cx : XQ 140 42 Zpl Zsp ZiT := Z4 (by rfl) _
theorem Z0bo : XQ 140 42 ZqM ZL1 Zpl := Z4 (by rfl) _
theorem Z08F : XQ 140 42 ZfF ZE2 ZqM := Z4 (by rfl) _
theorem Z0qJ : fInfo E 140 = some ⟨42, #[.tmp 4], ZfF⟩ := nf
theorem Z0hp (args : List AV) : bodyA E C fg N 140 args H B = bodyX E [.tmp 4] (execA E C (fg 140) B 42 H N ZfF (Zw args 0 [], H)) := Z0a Z0qJ args H
def Zq5 := kBody Proofs.Tryd.f54
def Z06F := kL Zq5
def ZyW := kO Z06F
def Z04r := opN ZyW 0
theorem Z06m : XG 54 19 Z06F ZyW [4] := Zb (by rfl) (by rfl) _
theorem Zvk : ZyW.toList = [Z04r] := nf
theorem ZtO : stepA E C B 19 ZyW Z04r (φ, H) = some (fput φ 4 (.int .i64 0), H) := nf
def Zz8 := kR Zq5
def Zz5 := kL Zz8
def Z06y := kL Zz5
def Zbt := kO Z06y
def ZZ4 := opN Zbt 0
def Z03R := opN Zbt 1
def ZXT := opN Zbt 2
theorem Z06s : XG 54 19 Z06y Zbt [6] := Zb (by rfl) (by rfl) _
theorem Ztz : Zbt.toList = [ZZ4, Z03R, ZXT] := nf
theorem Zuu : stepA E C B 19 Zbt ZZ4 (φ, H) = some (fput φ 6 (fget φ 0), H) := nf
theorem Zts : stepA E C B 19 Zbt Z03R (φ, H) = stp (some 7) φ H (Zh E.T (B + 7) .len #[36] [(fget φ 6)]) := nf
theorem Zv7 : stepA E C B 19 Zbt ZXT (φ, H) = some (fput φ 8 (.int .i64 0), H) := nf
def Z067 := kR Zz5
def Z064 := kB Z067
def Zj9 := kB Z064
def Z07H := kL Zj9
def Zz7 := kO Z07H
def ZVi := opN Zz7 0
theorem Zz9 : XG 54 19 Z07H Zz7 [] := Zb (by rfl) (by rfl) _
theorem Zii : Zz7.toList = [ZVi] := nf
theorem Zi8 : stepA E C B 19 Zz7 ZVi (φ, H) = stp (some 9) φ H (just (aBin E.T .lss 3 (fget φ 8) (fget φ 7))) := nf
def ZyY := kR Zj9
def Zsj := kL ZyY
def Z08O := kT Zsj
theorem Zqm : execA E C (fg 54) B 19 E0 N Z08O s = some (.normal, s) := ZV (by rfl) s
def Z0aN := kE Zsj
theorem Zo5 : execA E C (fg 54) B 19 E0 N Z0aN s = some (.exit 0, s) := Z0I (by rfl) s
theorem ZqC : XC 54 19 Zsj 9 Z08O Z0aN := ZN (by rfl) _
def Zop := kR ZyY
def ZN9 := kL Zop
def Zq6 := kB ZN9
def ZJw := kL Zq6
def Zhn := kO ZJw
def Z021 := opN Zhn 0
def Z04z := opN Zhn 1
theorem Z0b2 : XG 54 19 ZJw Zhn [9, 10] := Zb (by rfl) (by rfl) _
theorem ZYM : Zhn.toList = [Z021, Z04z] := nf
theorem Z02j : stepA E C B 19 Zhn Z021 (φ, H) = some (fput φ 10 (fget φ 8), H) := nf
theorem Z02r : stepA E C B 19 Zhn Z04z (φ, H) = some (fput φ 5 (fget φ 10), H) := nf
def Zsv := kR Zq6
def ZTt := kL Zsv
def Z44 := kO ZTt
def Z05t := opN Z44 0
def ZXQ := opN Z44 1
def Z00s := opN Z44 2
def ZYC := opN Z44 3
def ZY6 := opN Z44 4
def Z02Q := opN Z44 5
theorem Z09V : XG 54 19 ZTt Z44 [11, 12, 13, 14, 15] := Zb (by rfl) (by rfl) _
theorem ZZx : Z44.toList = [Z05t, ZXQ, Z00s, ZYC, ZY6, Z02Q] := nf
theorem ZWJ : stepA E C B 19 Z44 Z05t (φ, H) = some (fput φ 11 (fget φ 1), H) := nf
theorem Z03e : stepA E C B 19 Z44 ZXQ (φ, H) = some (fput φ 12 (fget φ 0), H) := nf
theorem ZWu : stepA E C B 19 Z44 Z00s (φ, H) = some (fput φ 13 (fget φ 5), H) := nf
theorem Z03A : stepA E C B 19 Z44 ZYC (φ, H) = stp (some 14) φ H (just (Z5 E.T 36 (fget φ 12) (fget φ 13))) := nf
theorem Z05v : stepA E C B 19 Z44 ZY6 (φ, H) = stp (some 15) φ H (just (aLoad E.T 3 (fget φ 14))) := nf
theorem ZXj : stepA E C B 19 Z44 Z02Q (φ, H) = callV E C (B + 19 * 8) (some 16) (fun j => B + j * 19 + 16) φ H (fget φ 11) [(fget φ 15)] true := nf
def Zns := kR Zsv
def ZpZ := kT Zns
def ZBi := kL ZpZ
def Ziy := kO ZBi
def ZVD := opN Ziy 0
def Z003 := opN Ziy 1
theorem Z0aO : XG 54 19 ZBi Ziy [0, 1, 5, 7, 8, 16, 17] := Zb (by rfl) (by rfl) _
theorem Z01f : Ziy.toList = [ZVD, Z003] := nf
theorem Z01p : stepA E C B 19 Ziy ZVD (φ, H) = some (fput φ 17 (fget φ 5), H) := nf
theorem Z00P : stepA E C B 19 Ziy Z003 (φ, H) = some (fput φ 4 (fget φ 17), H) := nf
def Z0a8 := kR ZpZ
theorem Z09m : execA E C (fg 54) B 19 E0 N Z0a8 s = some (.ret, s) := Z06 (by rfl) s
theorem Z0aX : XQ 54 19 ZpZ ZBi Z0a8 := Z4 (by rfl) _
def Z0cf := kE Zns
theorem Z09y : execA E C (fg 54) B 19 E0 N Z0cf s = some (.normal, s) := ZV (by rfl) s
theorem Z0c1 : XC 54 19 Zns 16 ZpZ Z0cf := ZN (by rfl) _
theorem Z0a9 : XQ 54 19 Zsv ZTt Zns := Z4 (by rfl) _
theorem Z0c9 : XQ 54 19 Zq6 ZJw Zsv := Z4 (by rfl) _
theorem Z0ax : execA E C (fg 54) B 19 E0 N ZN9 s = blockX 1 (fun s => (forget s.1 [5, 16], s.2)) (execA E C (fg 54) B 19 E0 N Zq6 s) := ZK (by rfl) (by rfl) s
def ZHW := kR Zop
def Zhe := kO ZHW
def Z04U := opN Zhe 0
def ZZM := opN Zhe 1
theorem Z0oK : XG 54 19 ZHW Zhe [18] := Zb (by rfl) (by rfl) _
theorem Z0kC : Zhe.toList = [Z04U, ZZM] := nf
theorem Z0i9 : stepA E C B 19 Zhe Z04U (φ, H) = stp (some 18) φ H (just (aBin E.T .add 3 (fget φ 8) (.int .i64 1))) := nf
theorem Z0mY : stepA E C B 19 Zhe ZZM (φ, H) = some (fput φ 8 (fget φ 18), H) := nf
theorem Z0cJ : XQ 54 19 Zop ZN9 ZHW := Z4 (by rfl) _
theorem ZyZ : XQ 54 19 ZyY Zsj Zop := Z4 (by rfl) _
theorem ZyP : XQ 54 19 Zj9 Z07H ZyY := Z4 (by rfl) _
theorem Z06D : execA E C (fg 54) B 19 E0 N Z064 s = iterA (execA E C (fg 54) B 19 E0 N Zj9) (headA E0) N s := Z0H (by rfl) s
theorem Z07d : execA E C (fg 54) B 19 E0 N Z067 s = blockX 0 (fun s => (forget s.1 [0, 1, 7, 8, 9], s.2)) (execA E C (fg 54) B 19 E0 N Z064 s) := ZK (by rfl) (by rfl) s
theorem Z06O : XQ 54 19 Zz5 Z06y Z067 := Z4 (by rfl) _
def Zqt := kR Zz8
def ZOi := kL Zqt
def ZzW := kO ZOi
def ZWG := opN ZzW 0
theorem Z0cF : XG 54 19 ZOi ZzW [] := Zb (by rfl) (by rfl) _
theorem ZZI : ZzW.toList = [ZWG] := nf
theorem ZY4 : stepA E C B 19 ZzW ZWG (φ, H) = some (fput φ 4 (.int .i64 (-1)), H) := nf
def Z0cy := kR Zqt
theorem Z098 : execA E C (fg 54) B 19 E0 N Z0cy s = some (.ret, s) := Z06 (by rfl) s
theorem Z0ba : XQ 54 19 Zqt ZOi Z0cy := Z4 (by rfl) _
theorem Z06N : XQ 54 19 Zz8 Zz5 Zqt := Z4 (by rfl) _
theorem Z06f : XQ 54 19 Zq5 Z06F Zz8 := Z4 (by rfl) _
theorem Z0rn : fInfo E 54 = some ⟨19, #[.tmp 4], Zq5⟩ := nf
theorem b_54 (args : List AV) : bodyA E C fg N 54 args H B = bodyX E [.tmp 4] (execA E C (fg 54) B 19 H N Zq5 (Zw args 0 [], H)) := Z0a Z0rn args H
def Zot := kBody Proofs.Tryd.f56
def Z07u := kL Zot
def Zzd := kO Z07u
def ZXF := opN Zzd 0
theorem Z0r7 : XG 56 9 Z07u Zzd [4] := Zb (by rfl) (by rfl) _
theorem Z0i6 : Zzd.toList = [ZXF] := nf
theorem Z0iI : stepA E C B 9 Zzd ZXF (φ, H) = some (fput φ 4 (.bool false), H) := nf
def Zzp := kR Zot
def Z078 := kL Zzp
def Z5s := kO Z078
def ZYU := opN Z5s 0
def ZXv := opN Z5s 1
def Z006 := opN Z5s 2
def Z00T := opN Z5s 3
def Z04i := opN Z5s 4
theorem Z0r3 : XG 56 9 Z078 Z5s [0, 1, 5, 6, 7, 8] := Zb (by rfl) (by rfl) _
theorem Z0lo : Z5s.toList = [ZYU, ZXv, Z006, Z00T, Z04i] := nf
theorem Z0kg : stepA E C B 9 Z5s ZYU (φ, H) = some (fput φ 5 (fget φ 0), H) := nf
theorem Z0jo : stepA E C B 9 Z5s ZXv (φ, H) = some (fput φ 6 (fget φ 1), H) := nf
theorem Z0i1 : stepA E C B 9 Z5s Z006 (φ, H) = stp (some 7) φ H (aCall C (fun j => B + j * 9 + 7) true 54 [(fget φ 5), (fget φ 6)]) := nf
theorem Z0jz : stepA E C B 9 Z5s Z00T (φ, H) = stp (some 8) φ H (just (aBin E.T .geq 3 (fget φ 7) (.int .i64 0))) := nf
theorem Z0nr : stepA E C B 9 Z5s Z04i (φ, H) = some (fput φ 4 (fget φ 8), H) := nf
def Z0hz := kR Zzp
theorem Z0sN : execA E C (fg 56) B 9 E0 N Z0hz s = some (.ret, s) := Z06 (by rfl) s
theorem Z0s5 : XQ 56 9 Zzp Z078 Z0hz := Z4 (by rfl) _
theorem Z0t2 : XQ 56 9 Zot Z07u Zzp := Z4 (by rfl) _
theorem Z0rq : fInfo E 56 = some ⟨9, #[.tmp 4], Zot⟩ := nf
theorem b_56 (args : List AV) : bodyA E C fg N 56 args H B = bodyX E [.tmp 4] (execA E C (fg 56) B 9 H N Zot (Zw args 0 [], H)) := Z0a Z0rq args H
def Zpe := kBody Proofs.Tryd.f79
def Z07P := kL Zpe
def Zi1 := kO Z07P
def ZWN := opN Zi1 0
def Z024 := opN Zi1 1
theorem Z0rp : XG 79 9 Z07P Zi1 [1, 4] := Zb (by rfl) (by rfl) _
theorem Z0iG : Zi1.toList = [ZWN, Z024] := nf
theorem Z0jO : stepA E C B 9 Zi1 ZWN (φ, H) = stp (some 3) φ H (opBox (B + 3) (acells (fget φ 1))) := nf
theorem Z0nb : stepA E C B 9 Zi1 Z024 (φ, H) = some (fput φ 4 (.bool false), H) := nf
def ZyT := kR Zpe
def Z06T := kL ZyT
def Z5p := kO Z06T
def ZZj := opN Z5p 0
def Z00I := opN Z5p 1
def ZYW := opN Z5p 2
def Z04A := opN Z5p 3
def Z002 := opN Z5p 4
theorem Z0rj : XG 79 9 Z06T Z5p [0, 3, 5, 6, 7, 8] := Zb (by rfl) (by rfl) _
theorem Z0if : Z5p.toList = [ZZj, Z00I, ZYW, Z04A, Z002] := nf
theorem Z0jw : stepA E C B 9 Z5p ZZj (φ, H) = some (fput φ 5 (fget φ 0), H) := nf
theorem Z0kc : stepA E C B 9 Z5p Z00I (φ, H) = stp (some 6) φ H (just (aLoad E.T 64 (fget φ 3))) := nf
theorem Z0lI : stepA E C B 9 Z5p ZYW (φ, H) = stp (some 7) φ H (aCall C (fun j => B + j * 9 + 7) true 123 [(fget φ 5), (fget φ 6)]) := nf
theorem Z0n3 : stepA E C B 9 Z5p Z04A (φ, H) = stp (some 8) φ H (just (aBin E.T .geq 3 (fget φ 7) (.int .i64 0))) := nf
theorem Z0jY : stepA E C B 9 Z5p Z002 (φ, H) = some (fput φ 4 (fget φ 8), H) := nf
def Z0hh := kR ZyT
theorem Z0rr : execA E C (fg 79) B 9 E0 N Z0hh s = some (.ret, s) := Z06 (by rfl) s
theorem Z0sl : XQ 79 9 ZyT Z06T Z0hh := Z4 (by rfl) _
theorem Z0sU : XQ 79 9 Zpe Z07P ZyT := Z4 (by rfl) _
theorem Z0sj : fInfo E 79 = some ⟨9, #[.tmp 4], Zpe⟩ := nf
theorem b_79 (args : List AV) : bodyA E C fg N 79 args H B = bodyX E [.tmp 4] (execA E C (fg 79) B 9 H N Zpe (Zw args 0 [], H)) := Z0a Z0sj args H
def Zgk := kBody Proofs.Tryd.f123
def ZMM := kL Zgk
def Zcs := kO ZMM
def ZAu := opN Zcs 0
def ZOP := opN Zcs 1
theorem Z0b3 : XG 123 19 ZMM Zcs [1, 4] := Zb (by rfl) (by rfl) _
theorem ZFP : Zcs.toList = [ZAu, ZOP] := nf
theorem ZRA : stepA E C B 19 Zcs ZAu (φ, H) = stp (some 3) φ H (opBox (B + 3) (acells (fget φ 1))) := nf
theorem ZBT : stepA E C B 19 Zcs ZOP (φ, H) = some (fput φ 4 (.int .i64 0), H) := nf
def Zsl := kR Zgk
def Zq9 := kL Zsl
def ZE0 := kL Zq9
def Z9D := kO ZE0
def ZAe := opN Z9D 0
def ZGa := opN Z9D 1
def ZFr := opN Z9D 2
theorem Z09T : XG 123 19 ZE0 Z9D [6] := Zb (by rfl) (by rfl) _
theorem ZTl : Z9D.toList = [ZAe, ZGa, ZFr] := nf
theorem ZP5 : stepA E C B 19 Z9D ZAe (φ, H) = some (fput φ 6 (fget φ 0), H) := nf
theorem ZHN : stepA E C B 19 Z9D ZGa (φ, H) = stp (some 7) φ H (Zh E.T (B + 7) .len #[23] [(fget φ 6)]) := nf
theorem ZBB : stepA E C B 19 Z9D ZFr (φ, H) = some (fput φ 8 (.int .i64 0), H) := nf
def ZDA := kR Zq9
def ZHB := kB ZDA
def ZaC := kB ZHB
def ZIQ := kL ZaC
def Zp0 := kO ZIQ
def ZTF := opN Zp0 0
theorem ZRE : XG 123 19 ZIQ Zp0 [] := Zb (by rfl) (by rfl) _
theorem ZlK : Zp0.toList = [ZTF] := nf
theorem Zlr : stepA E C B 19 Zp0 ZTF (φ, H) = stp (some 9) φ H (just (aBin E.T .lss 3 (fget φ 8) (fget φ 7))) := nf
def Zon := kR ZaC
def ZhD := kL Zon
def Z05E := kT ZhD
theorem ZtR : execA E C (fg 123) B 19 E0 N Z05E s = some (.normal, s) := ZV (by rfl) s
def Z00q := kE ZhD
theorem ZvL : execA E C (fg 123) B 19 E0 N Z00q s = some (.exit 0, s) := Z0I (by rfl) s
theorem ZtI : XC 123 19 ZhD 9 Z05E Z00q := ZN (by rfl) _
def ZiD := kR Zon
def ZvS := kL ZiD
def Zhr := kB ZvS
def Zwk := kL Zhr
def ZdC := kO Zwk
def ZCn := opN ZdC 0
def ZTQ := opN ZdC 1
theorem ZVI : XG 123 19 Zwk ZdC [9, 10] := Zb (by rfl) (by rfl) _
theorem ZML : ZdC.toList = [ZCn, ZTQ] := nf
theorem ZEv : stepA E C B 19 ZdC ZCn (φ, H) = some (fput φ 10 (fget φ 8), H) := nf
theorem ZFd : stepA E C B 19 ZdC ZTQ (φ, H) = some (fput φ 5 (fget φ 10), H) := nf
def ZhO := kR Zhr
def Zw2 := kL ZhO
def Z11 := kO Zw2
def ZMs := opN Z11 0
def ZHG := opN Z11 1
def ZUO := opN Z11 2
def ZHj := opN Z11 3
def ZJ6 := opN Z11 4
def ZAs := opN Z11 5
theorem Z01P : XD 123 19 Zw2 Z11 [11, 12, 13, 14, 15] := Z0Z (by rfl) (by rfl) _
theorem ZSi : Z11.toList = [ZMs, ZHG, ZUO, ZHj, ZJ6, ZAs] := nf
theorem Z0a7 : statOk Z11 = true := by kernel_rfl
theorem ZwJ : drawA E C B 19 Z11 s = if neat 19 s = true then drX Z11 (runT E C B 19 Z11 Z11.toList 0 s) else none := Z0J Z0a7 s
theorem ZwC (l : List (Nat × Tr)) : dynOk Z11 l = (!writing l || Zs [[], [], [], [1, 2], [1, 2, 3], [0, 1, 2, 3, 4]] (Zq l)) := Z0t (by kernel_rfl) l
theorem ZLG : stepT E C B 19 Z11 ZMs (φ, H) = stpT (some 11) φ H (just (aLoad E.T 64 (fget φ 3))) := Z9 rfl (Zj rfl rfl)
theorem ZDJ : stepT E C B 19 Z11 ZHG (φ, H) = some ((fput φ 12 (fget φ 0), H), ⟨false, [], []⟩) := Z9 rfl (ZS rfl rfl)
theorem ZGz : stepT E C B 19 Z11 ZUO (φ, H) = some ((fput φ 13 (fget φ 5), H), ⟨false, [], []⟩) := Z9 rfl (ZS rfl rfl)
theorem ZHv : stepT E C B 19 Z11 ZHj (φ, H) = stpT (some 14) φ H (just (Z5 E.T 23 (fget φ 12) (fget φ 13))) := Z9 rfl (Zj rfl rfl)
theorem ZCH : stepT E C B 19 Z11 ZJ6 (φ, H) = stpT (some 15) φ H (just (aLoad E.T 64 (fget φ 14))) := Z9 rfl (Zj rfl rfl)
theorem ZR4 : stepT E C B 19 Z11 ZAs (φ, H) = stpT (some 16) φ H (just (aBin E.T .eql 64 (fget φ 11) (fget φ 15))) := Z9 rfl (Zj rfl rfl)
def Zie := kR ZhO
def Ziq := kT Zie
def ZtH := kL Ziq
def ZcB := kO ZtH
def ZOa := opN ZcB 0
def ZRP := opN ZcB 1
theorem Z00z : XG 123 19 ZtH ZcB [0, 3, 5, 7, 8, 16, 17] := Zb (by rfl) (by rfl) _
theorem ZPg : ZcB.toList = [ZOa, ZRP] := nf
theorem ZIw : stepA E C B 19 ZcB ZOa (φ, H) = some (fput φ 17 (fget φ 5), H) := nf
theorem ZTj : stepA E C B 19 ZcB ZRP (φ, H) = some (fput φ 4 (fget φ 17), H) := nf
def Z014 := kR Ziq
theorem ZXs : execA E C (fg 123) B 19 E0 N Z014 s = some (.ret, s) := Z06 (by rfl) s
theorem Z02W : XQ 123 19 Ziq ZtH Z014 := Z4 (by rfl) _
def Z04g := kE Zie
theorem Z00Q : execA E C (fg 123) B 19 E0 N Z04g s = some (.normal, s) := ZV (by rfl) s
theorem ZZr : XC 123 19 Zie 16 Ziq Z04g := ZN (by rfl) _
theorem Z00e : XQ 123 19 ZhO Zw2 Zie := Z4 (by rfl) _
theorem Z05N : XQ 123 19 Zhr Zwk ZhO := Z4 (by rfl) _
theorem ZW7 : execA E C (fg 123) B 19 E0 N ZvS s = blockX 1 (fun s => (forget s.1 [5, 16], s.2)) (execA E C (fg 123) B 19 E0 N Zhr s) := ZK (by rfl) (by rfl) s
def ZvI := kR ZiD
def Zdo := kO ZvI
def ZJ3 := opN Zdo 0
def ZLS := opN Zdo 1
theorem Z0jm : XG 123 19 ZvI Zdo [18] := Zb (by rfl) (by rfl) _
theorem Z0gs : Zdo.toList = [ZJ3, ZLS] := nf
theorem Z0fF : stepA E C B 19 Zdo ZJ3 (φ, H) = stp (some 18) φ H (just (aBin E.T .add 3 (fget φ 8) (.int .i64 1))) := nf
theorem Z0f3 : stepA E C B 19 Zdo ZLS (φ, H) = some (fput φ 8 (fget φ 18), H) := nf
theorem Z05j : XQ 123 19 ZiD ZvS ZvI := Z4 (by rfl) _
theorem ZS8 : XQ 123 19 Zon ZhD ZiD := Z4 (by rfl) _
theorem ZC7 : XQ 123 19 ZaC ZIQ Zon := Z4 (by rfl) _
theorem Z08b : execA E C (fg 123) B 19 E0 N ZHB s = iterA (execA E C (fg 123) B 19 E0 N ZaC) (headA E0) N s := Z0H (by rfl) s
theorem Z08i : execA E C (fg 123) B 19 E0 N ZDA s = blockX 0 (fun s => (forget s.1 [0, 3, 7, 8, 9], s.2)) (execA E C (fg 123) B 19 E0 N ZHB s) := ZK (by rfl) (by rfl) s
theorem Z0aM : XQ 123 19 Zq9 ZE0 ZDA := Z4 (by rfl) _
def ZiL := kR Zsl
def ZvW := kL ZiL
def ZsB := kO ZvW
def ZKM := opN ZsB 0
theorem Z0kR : XG 123 19 ZvW ZsB [] := Zb (by rfl) (by rfl) _
theorem Z0h8 : ZsB.toList = [ZKM] := nf
theorem Z0dr : stepA E C B 19 ZsB ZKM (φ, H) = some (fput φ 4 (.int .i64 (-1)), H) := nf
def ZZ3 := kR ZiL
theorem Z0mn : execA E C (fg 123) B 19 E0 N ZZ3 s = some (.ret, s) := Z06 (by rfl) s
theorem Z0j6 : XQ 123 19 ZiL ZvW ZZ3 := Z4 (by rfl) _
theorem Z0bK : XQ 123 19 Zsl Zq9 ZiL := Z4 (by rfl) _
theorem Z08P : XQ 123 19 Zgk ZMM Zsl := Z4 (by rfl) _
theorem Z0px : fInfo E 123 = some ⟨19, #[.tmp 4], Zgk⟩ := nf
theorem Z0hl (args : List AV) : bodyA E C fg N 123 args H B = bodyX E [.tmp 4] (execA E C (fg 123) B 19 H N Zgk (Zw args 0 [], H)) := Z0a Z0px args H
def ZgF := kBody Proofs.Tryd.f130
def ZHC := kL ZgF
def Zs9 := kO ZHC
def ZSJ := opN Zs9 0
theorem Z0pL : XG 130 33 ZHC Zs9 [4] := Zb (by rfl) (by rfl) _
theorem Z0gF : Zs9.toList = [ZSJ] := nf
theorem Z0h1 : stepA E C B 33 Zs9 ZSJ (φ, H) = some (fput φ 4 (.int .i64 0), H) := nf
def Zrx := kR ZgF
def Zp4 := kL Zrx
def ZJ8 := kL Zp4
def Z9v := kO ZJ8
def ZKj := opN Z9v 0
def ZJa := opN Z9v 1
def ZRB := opN Z9v 2
theorem Z0p1 : XG 130 33 ZJ8 Z9v [7, 8] := Zb (by rfl) (by rfl) _
theorem Z0e1 : Z9v.toList = [ZKj, ZJa, ZRB] := nf
theorem Z0f1 : stepA E C B 33 Z9v ZKj (φ, H) = some (fput φ 7 (fget φ 0), H) := nf
theorem Z0eC : stepA E C B 33 Z9v ZJa (φ, H) = stp (some 8) φ H (Zh E.T (B + 8) .len #[36] [(fget φ 7)]) := nf
theorem Z0dg : stepA E C B 33 Z9v ZRB (φ, H) = stp (some 9) φ H (just (aBin E.T .lss 3 (fget φ 8) (.int .i64 1))) := nf
def ZoV := kR Zp4
def Z0qz := kT ZoV
def Z0cL := kE ZoV
theorem Z0oo : execA E C (fg 130) B 33 E0 N Z0cL s = some (.normal, s) := ZV (by rfl) s
theorem Z0p2 : XC 130 33 ZoV 9 Z0qz Z0cL := ZN (by rfl) _
theorem Z0qt : XQ 130 33 Zp4 ZJ8 ZoV := Z4 (by rfl) _
def ZrL := kR Zrx
def ZKw := kL ZrL
def Z56 := kO ZKw
def ZHf := opN Z56 0
def ZTK := opN Z56 1
def ZJS := opN Z56 2
def ZRC := opN Z56 3
theorem Z0qn : XG 130 33 ZKw Z56 [9, 11, 12, 13] := Zb (by rfl) (by rfl) _
theorem Z0g4 : Z56.toList = [ZHf, ZTK, ZJS, ZRC] := nf
theorem Z0gp : stepA E C B 33 Z56 ZHf (φ, H) = some (fput φ 11 (fget φ 0), H) := nf
theorem Z0gQ : stepA E C B 33 Z56 ZTK (φ, H) = stp (some 12) φ H (just (Z5 E.T 36 (fget φ 11) (.int .i64 0))) := nf
theorem Z0dN : stepA E C B 33 Z56 ZJS (φ, H) = stp (some 13) φ H (just (aLoad E.T 3 (fget φ 12))) := nf
theorem Z0cZ : stepA E C B 33 Z56 ZRC (φ, H) = some (fput φ 5 (fget φ 13), H) := nf
def ZiQ := kR ZrL
def Zj1 := kL ZiQ
def Zta := kL Zj1
def Zor := kO Zta
def ZFL := opN Zor 0
theorem Z0iU : XG 130 33 Zta Zor [] := Zb (by rfl) (by rfl) _
theorem Z0dS : Zor.toList = [ZFL] := nf
theorem Z0eE : stepA E C B 33 Zor ZFL (φ, H) = some (fput φ 6 (.int .i64 1), H) := nf
def Zur := kR Zj1
def Zug := kB Zur
def ZcK := kB Zug
def Zia := kL ZcK
def Zt1 := kL Zia
def Z5c := kO Zt1
def ZR1 := opN Z5c 0
def ZSu := opN Z5c 1
def ZF4 := opN Z5c 2
def ZTM := opN Z5c 3
theorem ZuT : XG 130 33 Zt1 Z5c [14, 15, 16] := Zb (by rfl) (by rfl) _
theorem Zln : Z5c.toList = [ZR1, ZSu, ZF4, ZTM] := nf
theorem Zn6 : stepA E C B 33 Z5c ZR1 (φ, H) = some (fput φ 14 (fget φ 6), H) := nf
theorem ZkH : stepA E C B 33 Z5c ZSu (φ, H) = some (fput φ 15 (fget φ 0), H) := nf
theorem Zlc : stepA E C B 33 Z5c ZF4 (φ, H) = stp (some 16) φ H (Zh E.T (B + 16) .len #[36] [(fget φ 15)]) := nf
theorem Zkg : stepA E C B 33 Z5c ZTM (φ, H) = stp (some 17) φ H (just (aBin E.T .lss 3 (fget φ 14) (fget φ 16))) := nf
def ZhX := kR Zia
def Z02S := kT ZhX
theorem ZvX : execA E C (fg 130) B 33 E0 N Z02S s = some (.normal, s) := ZV (by rfl) s
def Z00f := kE ZhX
theorem Zvp : execA E C (fg 130) B 33 E0 N Z00f s = some (.exit 0, s) := Z0I (by rfl) s
theorem ZtP : XC 130 33 ZhX 17 Z02S Z00f := ZN (by rfl) _
theorem ZvY : XQ 130 33 Zia Zt1 ZhX := Z4 (by rfl) _
def Zi0 := kR ZcK
def Zt7 := kL Zi0
def Zhu := kB Zt7
def Ztd := kL Zhu
def Z1d := kO Ztd
def ZIb := opN Z1d 0
def ZMU := opN Z1d 1
def ZNs := opN Z1d 2
def ZMV := opN Z1d 3
def ZKx := opN Z1d 4
def ZGY := opN Z1d 5
def ZKB := opN Z1d 6
def ZQY := opN Z1d 7
theorem ZZu : XG 130 33 Ztd Z1d [17, 20, 21, 22, 23, 24, 25, 26] := Zb (by rfl) (by rfl) _
theorem ZB6 : Z1d.toList = [ZIb, ZMU, ZNs, ZMV, ZKx, ZGY, ZKB, ZQY] := nf
theorem ZHP : stepA E C B 33 Z1d ZIb (φ, H) = some (fput φ 20 (fget φ 1), H) := nf
theorem ZTZ : stepA E C B 33 Z1d ZMU (φ, H) = some (fput φ 21 (fget φ 0), H) := nf
theorem ZIr : stepA E C B 33 Z1d ZNs (φ, H) = some (fput φ 22 (fget φ 6), H) := nf
theorem ZSr : stepA E C B 33 Z1d ZMV (φ, H) = stp (some 23) φ H (just (Z5 E.T 36 (fget φ 21) (fget φ 22))) := nf
theorem ZGJ : stepA E C B 33 Z1d ZKx (φ, H) = stp (some 24) φ H (just (aLoad E.T 3 (fget φ 23))) := nf
theorem ZCp : stepA E C B 33 Z1d ZGY (φ, H) = some (fput φ 25 (fget φ 5), H) := nf
theorem ZSc : stepA E C B 33 Z1d ZKB (φ, H) = callV E C (B + 33 * 8) (some 26) (fun j => B + j * 33 + 26) φ H (fget φ 20) [(fget φ 24), (fget φ 25)] true := nf
theorem ZKF : stepA E C B 33 Z1d ZQY (φ, H) = stp (some 27) φ H (just (aBin E.T .lss 3 (fget φ 26) (.int .i64 0))) := nf
def Zja := kR Zhu
def Ztq := kT Zja
def Z3Y := kO Ztq
def ZFv := opN Z3Y 0
def ZJZ := opN Z3Y 1
def ZMW := opN Z3Y 2
def ZDb := opN Z3Y 3
def ZQc := opN Z3Y 4
theorem Z02H : XG 130 33 Ztq Z3Y [27, 28, 29, 30, 31] := Zb (by rfl) (by rfl) _
theorem ZDX : Z3Y.toList = [ZFv, ZJZ, ZMW, ZDb, ZQc] := nf
theorem ZT5 : stepA E C B 33 Z3Y ZFv (φ, H) = some (fput φ 28 (fget φ 0), H) := nf
theorem ZP8 : stepA E C B 33 Z3Y ZJZ (φ, H) = some (fput φ 29 (fget φ 6), H) := nf
theorem ZTW : stepA E C B 33 Z3Y ZMW (φ, H) = stp (some 30) φ H (just (Z5 E.T 36 (fget φ 28) (fget φ 29))) := nf
theorem ZA8 : stepA E C B 33 Z3Y ZDb (φ, H) = stp (some 31) φ H (just (aLoad E.T 3 (fget φ 30))) := nf
theorem ZCL : stepA E C B 33 Z3Y ZQc (φ, H) = some (fput φ 5 (fget φ 31), H) := nf
def ZXz := kE Zja
theorem Z05r : execA E C (fg 130) B 33 E0 N ZXz s = some (.normal, s) := ZV (by rfl) s
theorem Z00j : XC 130 33 Zja 27 Ztq ZXz := ZN (by rfl) _
theorem Z03t : XQ 130 33 Zhu Ztd Zja := Z4 (by rfl) _
theorem Z008 : execA E C (fg 130) B 33 E0 N Zt7 s = blockX 1 (fun s => (forget s.1 [27], s.2)) (execA E C (fg 130) B 33 E0 N Zhu s) := ZK (by rfl) (by rfl) s
def ZuW := kR Zi0
def Z9e := kO ZuW
def ZLR := opN Z9e 0
def ZR0 := opN Z9e 1
def ZDQ := opN Z9e 2
theorem ZWc : XG 130 33 ZuW Z9e [18, 19] := Zb (by rfl) (by rfl) _
theorem ZPZ : Z9e.toList = [ZLR, ZR0, ZDQ] := nf
theorem ZTa : stepA E C B 33 Z9e ZLR (φ, H) = some (fput φ 18 (fget φ 6), H) := nf
theorem ZQ2 : stepA E C B 33 Z9e ZR0 (φ, H) = stp (some 19) φ H (just (aBin E.T .add 3 (fget φ 18) (.int .i64 1))) := nf
theorem ZF8 : stepA E C B 33 Z9e ZDQ (φ, H) = some (fput φ 6 (fget φ 19), H) := nf
theorem ZXg : XQ 130 33 Zi0 Zt7 ZuW := Z4 (by rfl) _
theorem Zv1 : XQ 130 33 ZcK Zia Zi0 := Z4 (by rfl) _
theorem Z0i8 : execA E C (fg 130) B 33 E0 N Zug s = iterA (execA E C (fg 130) B 33 E0 N ZcK) (headA E0) N s := Z0H (by rfl) s
theorem Z0mA : execA E C (fg 130) B 33 E0 N Zur s = blockX 0 (fun s => (forget s.1 [0, 1, 6, 17], s.2)) (execA E C (fg 130) B 33 E0 N Zug s) := ZK (by rfl) (by rfl) s
theorem Z0ie : XQ 130 33 Zj1 Zta Zur := Z4 (by rfl) _
def ZiX := kR ZiQ
def Zwu := kL ZiX
def ZcT := kO Zwu
def ZUx := opN ZcT 0
def ZFK := opN ZcT 1
theorem Z0n4 : XG 130 33 Zwu ZcT [5, 32] := Zb (by rfl) (by rfl) _
theorem Z0dZ : ZcT.toList = [ZUx, ZFK] := nf
theorem Z0dR : stepA E C B 33 ZcT ZUx (φ, H) = some (fput φ 32 (fget φ 5), H) := nf
theorem Z0e2 : stepA E C B 33 ZcT ZFK (φ, H) = some (fput φ 4 (fget φ 32), H) := nf
def ZYw := kR ZiX
theorem Z0kK : execA E C (fg 130) B 33 E0 N ZYw s = some (.ret, s) := Z06 (by rfl) s
theorem Z0mU : XQ 130 33 ZiX Zwu ZYw := Z4 (by rfl) _
theorem Z0jd : XQ 130 33 ZiQ Zj1 ZiX := Z4 (by rfl) _
theorem Z0oZ : XQ 130 33 ZrL ZKw ZiQ := Z4 (by rfl) _
theorem Z0qy : XQ 130 33 Zrx Zp4 ZrL := Z4 (by rfl) _
theorem Z0ot : XQ 130 33 ZgF ZHC Zrx := Z4 (by rfl) _
theorem Z0op : fInfo E 130 = some ⟨33, #[.tmp 4], ZgF⟩ := nf
theorem Z0sO (args : List AV) : bodyA E C fg N 130 args H B = bodyX E [.tmp 4] (execA E C (fg 130) B 33 H N ZgF (Zw args 0 [], H)) := Z0a Z0op args H
def Zh2 := kBody Proofs.Tryd.f129
def ZUU := kL Zh2
def Z3y := kO ZUU
def ZMR := opN Z3y 0
def ZQa := opN Z3y 1
def ZMr := opN Z3y 2
def ZHD := opN Z3y 3
def ZV0 := opN Z3y 4
theorem Z0qu : XG 129 28 ZUU Z3y [4, 5, 6] := Zb (by rfl) (by rfl) _
theorem Z0gq : Z3y.toList = [ZMR, ZQa, ZMr, ZHD, ZV0] := nf
theorem Z0fz : stepA E C B 28 Z3y ZMR (φ, H) = some (fput φ 4 (fget φ 0), H) := nf
theorem Z0et : stepA E C B 28 Z3y ZQa (φ, H) = stp (some 5) φ H (Zh E.T (B + 5) .len #[36] [(fget φ 4)]) := nf
theorem Z0dk : stepA E C B 28 Z3y ZMr (φ, H) = stp (some 6) φ H (just (aBin E.T .sub 3 (fget φ 5) (.int .i64 1))) := nf
theorem Z0eU : stepA E C B 28 Z3y ZHD (φ, H) = some (fput φ 2 (.int .i64 0), H) := nf
theorem Z0fp : stepA E C B 28 Z3y ZV0 (φ, H) = some (fput φ 3 (fget φ 6), H) := nf
def ZUh := kR Zh2
def ZTb := kB ZUh
def ZbX := kB ZTb
def ZqP := kL ZbX
def ZMZ := kL ZqP
def Z9a := kO ZMZ
def ZRr := opN Z9a 0
def ZLM := opN Z9a 1
def ZUt := opN Z9a 2
theorem Z094 : XG 129 28 ZMZ Z9a [7, 8] := Zb (by rfl) (by rfl) _
theorem ZS5 : Z9a.toList = [ZRr, ZLM, ZUt] := nf
theorem ZBt : stepA E C B 28 Z9a ZRr (φ, H) = some (fput φ 7 (fget φ 2), H) := nf
theorem ZG4 : stepA E C B 28 Z9a ZLM (φ, H) = some (fput φ 8 (fget φ 3), H) := nf
theorem ZIv : stepA E C B 28 Z9a ZUt (φ, H) = stp (some 9) φ H (just (aBin E.T .lss 3 (fget φ 7) (fget φ 8))) := nf
def Znv := kR ZqP
def Z0cb := kT Znv
theorem Z08D : execA E C (fg 129) B 28 E0 N Z0cb s = some (.normal, s) := ZV (by rfl) s
def Z0cm := kE Znv
theorem Z09W : execA E C (fg 129) B 28 E0 N Z0cm s = some (.exit 0, s) := Z0I (by rfl) s
theorem Z0bq : XC 129 28 Znv 9 Z0cb Z0cm := ZN (by rfl) _
theorem Z09F : XQ 129 28 ZqP ZMZ Znv := Z4 (by rfl) _
def Zhi := kR ZbX
def ZvZ := kL Zhi
def Zws := kB ZvZ
def Z04 := kO Zws
def ZIX := opN Z04 0
def ZJc := opN Z04 1
def ZGt := opN Z04 2
def ZAA := opN Z04 3
def ZNf := opN Z04 4
def ZOx := opN Z04 5
def ZDl := opN Z04 6
def ZHr := opN Z04 7
def ZA6 := opN Z04 8
def ZRQ := opN Z04 9
def Zxm := opN Z04 10
def Zyj := opN Z04 11
def Zxf := opN Z04 12
def Zxp := opN Z04 13
def Zyc := opN Z04 14
def Zxe := opN Z04 15
theorem Z0hW : XD 129 28 Zws Z04 [9, 14, 15, 16, 17, 18, 19, 20, 21, 22, 23, 24, 25, 26, 27] := Z0Z (by rfl) (by rfl) _
theorem Z0dm : Z04.toList = [ZIX, ZJc, ZGt, ZAA, ZNf, ZOx, ZDl, ZHr, ZA6, ZRQ, Zxm, Zyj, Zxf, Zxp, Zyc, Zxe] := nf
theorem Z0cs : statOk Z04 = true := by kernel_rfl
theorem Z09P : drawA E C B 28 Z04 s = if neat 28 s = true then drX Z04 (runT E C B 28 Z04 Z04.toList 0 s) else none := Z0J Z0cs s
theorem Z08p (l : List (Nat × Tr)) : dynOk Z04 l = (!writing l || Zs [[], [], [], [], [], [], [4, 5], [4, 5, 6], [], [], [8, 9], [8, 9, 10], [0, 1, 4, 5, 6, 7, 8, 9, 10, 11], [0, 1, 4, 5, 6, 7, 8, 9, 10, 11, 12], [0, 1, 2, 3, 4, 5, 6, 7, 8, 9, 10, 11, 12, 13], [0, 1, 2, 3, 4, 5, 6, 7, 8, 9, 10, 11, 12, 13, 14]] (Zq l)) := Z0t (by kernel_rfl) l
theorem Z0g3 : stepT E C B 28 Z04 ZIX (φ, H) = some ((fput φ 14 (fget φ 0), H), ⟨false, [], []⟩) := Z9 rfl (ZS rfl rfl)
theorem Z0ev : stepT E C B 28 Z04 ZJc (φ, H) = some ((fput φ 15 (fget φ 2), H), ⟨false, [], []⟩) := Z9 rfl (ZS rfl rfl)
theorem Z0gm : stepT E C B 28 Z04 ZGt (φ, H) = some ((fput φ 16 (fget φ 0), H), ⟨false, [], []⟩) := Z9 rfl (ZS rfl rfl)
theorem Z0df : stepT E C B 28 Z04 ZAA (φ, H) = some ((fput φ 17 (fget φ 3), H), ⟨false, [], []⟩) := Z9 rfl (ZS rfl rfl)
theorem Z0f6 : stepT E C B 28 Z04 ZNf (φ, H) = some ((fput φ 18 (fget φ 0), H), ⟨false, [], []⟩) := Z9 rfl (ZS rfl rfl)
theorem Z0dD : stepT E C B 28 Z04 ZOx (φ, H) = some ((fput φ 19 (fget φ 3), H), ⟨false, [], []⟩) := Z9 rfl (ZS rfl rfl)
theorem Z0es : stepT E C B 28 Z04 ZDl (φ, H) = stpT (some 20) φ H (just (Z5 E.T 36 (fget φ 18) (fget φ 19))) := Z9 rfl (Zj rfl rfl)
theorem Z0gn : stepT E C B 28 Z04 ZHr (φ, H) = stpT (some 21) φ H (just (aLoad E.T 3 (fget φ 20))) := Z9 rfl (Zj rfl rfl)
theorem Z0e6 : stepT E C B 28 Z04 ZA6 (φ, H) = some ((fput φ 22 (fget φ 0), H), ⟨false, [], []⟩) := Z9 rfl (ZS rfl rfl)
theorem Z0gy : stepT E C B 28 Z04 ZRQ (φ, H) = some ((fput φ 23 (fget φ 2), H), ⟨false, [], []⟩) := Z9 rfl (ZS rfl rfl)
theorem Z08E : stepT E C B 28 Z04 Zxm (φ, H) = stpT (some 24) φ H (just (Z5 E.T 36 (fget φ 22) (fget φ 23))) := Z9 rfl (Zj rfl rfl)
theorem Z0aw : stepT E C B 28 Z04 Zyj (φ, H) = stpT (some 25) φ H (just (aLoad E.T 3 (fget φ 24))) := Z9 rfl (Zj rfl rfl)
theorem Z09k : stepT E C B 28 Z04 Zxf (φ, H) = stpT (some 26) φ H (just (Z5 E.T 36 (fget φ 14) (fget φ 15))) := Z9 rfl (Zj rfl rfl)
theorem Z081 : stepT E C B 28 Z04 Zxp (φ, H) = stpT none φ H (opStore E.T 3 (fget φ 26) (fget φ 21)) := Z9 rfl (Zj rfl rfl)
theorem Z09J : stepT E C B 28 Z04 Zyc (φ, H) = stpT (some 27) φ H (just (Z5 E.T 36 (fget φ 16) (fget φ 17))) := Z9 rfl (Zj rfl rfl)
theorem Z0ab : stepT E C B 28 Z04 Zxe (φ, H) = stpT none φ H (opStore E.T 3 (fget φ 27) (fget φ 25)) := Z9 rfl (Zj rfl rfl)
theorem Z0ix : execA E C (fg 129) B 28 E0 N ZvZ s = blockX 1 (fun s => (forget s.1 [], s.2)) (execA E C (fg 129) B 28 E0 N Zws s) := ZK (by rfl) (by rfl) s
def Zwe := kR Zhi
def Z2F := kO Zwe
def ZTS := opN Z2F 0
def ZE4 := opN Z2F 1
def ZSn := opN Z2F 2
def ZCJ := opN Z2F 3
def ZRH := opN Z2F 4
def ZKW := opN Z2F 5
theorem Z0hY : XG 129 28 Zwe Z2F [10, 11, 12, 13] := Zb (by rfl) (by rfl) _
theorem Z0d3 : Z2F.toList = [ZTS, ZE4, ZSn, ZCJ, ZRH, ZKW] := nf
theorem Z0gJ : stepA E C B 28 Z2F ZTS (φ, H) = some (fput φ 10 (fget φ 2), H) := nf
theorem Z0fE : stepA E C B 28 Z2F ZE4 (φ, H) = stp (some 11) φ H (just (aBin E.T .add 3 (fget φ 10) (.int .i64 1))) := nf
theorem Z0h9 : stepA E C B 28 Z2F ZSn (φ, H) = some (fput φ 12 (fget φ 3), H) := nf
theorem Z0gN : stepA E C B 28 Z2F ZCJ (φ, H) = stp (some 13) φ H (just (aBin E.T .sub 3 (fget φ 12) (.int .i64 1))) := nf
theorem Z0fX : stepA E C B 28 Z2F ZRH (φ, H) = some (fput φ 2 (fget φ 11), H) := nf
theorem Z0fy : stepA E C B 28 Z2F ZKW (φ, H) = some (fput φ 3 (fget φ 13), H) := nf
theorem Z0iC : XQ 129 28 Zhi ZvZ Zwe := Z4 (by rfl) _
theorem Z0bx : XQ 129 28 ZbX ZqP Zhi := Z4 (by rfl) _
theorem Z0qC : execA E C (fg 129) B 28 E0 N ZTb s = iterA (execA E C (fg 129) B 28 E0 N ZbX) (headA E0) N s := Z0H (by rfl) s
theorem Z0pP : execA E C (fg 129) B 28 E0 N ZUh s = blockX 0 (fun s => (forget s.1 [0, 2, 3, 9], s.2)) (execA E C (fg 129) B 28 E0 N ZTb s) := ZK (by rfl) (by rfl) s
theorem Z0qL : XQ 129 28 Zh2 ZUU ZUh := Z4 (by rfl) _
theorem Z0ob : fInfo E 129 = some ⟨28, #[], Zh2⟩ := nf
theorem Z0sB (args : List AV) : bodyA E C fg N 129 args H B = bodyX E [] (execA E C (fg 129) B 28 H N Zh2 (Zw args 0 [], H)) := Z0a Z0ob args H
end Go.AM.YtgfnbmfjbjopkaaDoor
end
noncomputable section
namespace Go.AM
def Z15 (k : Nat) (seen : List Nat) (r : Nat → AV) (b : Blk) : Rd (AV × Ups) :=
 (freeOff [k] 6 0).bind fun off => (freeAll [k + off]).bind fun _ => (frz seen).bind fun us => .pure (r (k + off), us ++ [(k + off, b)])
theorem ZBL (k : Nat) (seen : List Nat) (r : Nat → AV) (b : Blk) : ∃ no : Blk → Rd (AV × Ups), Z15 k seen r b = .get k fun
   | none => .get k fun
     | none => (frz seen).bind fun us => .pure (r k, us ++ [(k, b)])
     | some _ => .fail
   | some b => no b := by
 refine ⟨fun _ => (freeOff [k] 5 1048576).bind fun off => (freeAll [k + off]).bind fun _ => (frz seen).bind fun us => .pure (r (k + off), us ++ [(k + off, b)]), ?_⟩
 simp only [Z15, freeOff, List.map_cons, List.map_nil, allFree, Rd.bind, Nat.add_zero]
 congr 1
 funext x
 cases x with
 | none =>
   simp only [Rd.bind, freeAll, Nat.add_zero]
   congr 1
   funext y
   cases y <;> rfl
 | some _ => rfl
theorem Z096 {k : Nat} {seen : List Nat} {r : Nat → AV} {b : Blk} {H : AHeap} (h : hget H k = none) : (Z15 k seen r b).run H = ((frz seen).bind fun us => .pure (r k, us ++ [(k, b)])).run H := by
 obtain ⟨no, e⟩ := ZBL k seen r b
 rw [e]; simp only [Rd.run, h]
theorem Z07B {k : Nat} {seen : List Nat} {r : Nat → AV} {b : Blk} {H : AHeap} (h : hget H k = none) : (Z15 k seen r b).foot H = k :: k :: ((frz seen).bind fun us => .pure (r k, us ++ [(k, b)])).foot H := by
 obtain ⟨no, e⟩ := ZBL k seen r b
 rw [e]; simp only [Rd.foot, h]
def Z09h (k : Nat) (seen : List Nat) (r : Nat → AV) (b : Blk) : Rd (AV × Ups) := Z15 k seen r b
theorem Z1o {k : Nat} {seen : List Nat} {r : Nat → AV} {b : Blk} {H : AHeap} : (Z15 k seen r b).run H = match hget H k with
   | none => ((frz seen).bind fun us => .pure (r k, us ++ [(k, b)])).run H
   | some _ => (Z09h k seen r b).run H := by
 cases h : hget H k with
 | none => exact Z096 h
 | some _ => rfl
theorem Ztn {k : Nat} {seen : List Nat} {r : Nat → AV} {b : Blk} {H : AHeap} : (Z15 k seen r b).foot H = match hget H k with
   | none => k :: k :: ((frz seen).bind fun us => .pure (r k, us ++ [(k, b)])).foot H
   | some _ => (Z09h k seen r b).foot H := by
 cases h : hget H k with
 | none => exact Z07B h
 | some _ => rfl
def Z91 (k0 k1 : Nat) (seen : List Nat) (r : Nat → Nat → AV) (b0 b1 : Blk) : Rd (AV × Ups) :=
 (freeOff [k1, k0] 6 0).bind fun off => (freeAll [k1 + off, k0 + off]).bind fun _ => (frz seen).bind fun us => .pure (r (k0 + off) (k1 + off), us ++ [(k1 + off, b1), (k0 + off, b0)])
def Z0bc (k0 k1 : Nat) (seen : List Nat) (r : Nat → Nat → AV) (b0 b1 : Blk) : Rd (AV × Ups) := Z91 k0 k1 seen r b0 b1
theorem Z0d8 (k0 k1 : Nat) (seen : List Nat) (r : Nat → Nat → AV) (b0 b1 : Blk) : ∃ no no' : Blk → Rd (AV × Ups), Z91 k0 k1 seen r b0 b1 = .get k1 fun
   | none => .get k0 fun
     | none => .get k1 fun
       | none => .get k0 fun
         | none => (frz seen).bind fun us => .pure (r k0 k1, us ++ [(k1, b1), (k0, b0)])
         | some _ => .fail
       | some _ => .fail
     | some b => no b
   | some b => no' b := by
 refine ⟨fun _ => (freeOff [k1, k0] 5 1048576).bind fun off => (freeAll [k1 + off, k0 + off]).bind fun _ => (frz seen).bind fun us => .pure (r (k0 + off) (k1 + off), us ++ [(k1 + off, b1), (k0 + off, b0)]),
   fun _ => (freeOff [k1, k0] 5 1048576).bind fun off => (freeAll [k1 + off, k0 + off]).bind fun _ => (frz seen).bind fun us => .pure (r (k0 + off) (k1 + off), us ++ [(k1 + off, b1), (k0 + off, b0)]), ?_⟩
 simp only [Z91, freeOff, List.map_cons, List.map_nil, allFree, Rd.bind, Nat.add_zero]
 congr 1
 funext x
 cases x with
 | some _ => rfl
 | none =>
   simp only [Rd.bind]
   congr 1
   funext y
   cases y with
   | some _ => rfl
   | none =>
     simp only [Rd.bind, freeAll, Nat.add_zero]
     congr 1
     funext x
     cases x with
     | some _ => rfl
     | none =>
       simp only [Rd.bind]
       congr 1
       funext y
       cases y <;> rfl
theorem Z5K {k0 k1 : Nat} {seen : List Nat} {r : Nat → Nat → AV} {b0 b1 : Blk} {H : AHeap} : (Z91 k0 k1 seen r b0 b1).run H = match hget H k1 with
   | none => match hget H k0 with
     | none => ((frz seen).bind fun us => .pure (r k0 k1, us ++ [(k1, b1), (k0, b0)])).run H
     | some _ => (Z0bc k0 k1 seen r b0 b1).run H
   | some _ => (Z0bc k0 k1 seen r b0 b1).run H := by
 cases h : hget H k1 with
 | some _ => rfl
 | none =>
   cases h2 : hget H k0 with
   | some _ => rfl
   | none =>
     obtain ⟨no, no', e⟩ := Z0d8 k0 k1 seen r b0 b1
     rw [e]; simp only [Rd.run, h, h2]
theorem Z0aU {C : Callee} {site : Nat → Nat} {seen : List Nat} {f : FuncId} {args : List AV} {id n sz : Nat} {cells : List AV} {H' : AHeap} (h : C f args [] 0 = some (.ref id 0 n n cells.length sz false, H')) (hg : hget H' id = some ⟨.row, cells⟩) :
   aBack site true seen (thaw C f args [] 0) = Z15 (site 0) seen (fun k => .ref k 0 n n cells.length sz false) ⟨.row, cells⟩ := by
 simp only [thaw, h, frzRet, aBack, sitesB, aBackAt, imp, hg, List.length_nil, List.not_mem_nil, not_false_eq_true, and_true, if_true, List.map_cons, List.map_nil, AM.apart, List.elem_nil, Bool.not_false, Bool.and_true, AV.leads, Z15]
theorem ZgI {C : Callee} {site : Nat → Nat} {seen : List Nat} {f : FuncId} {args : List AV} {id n sz : Nat} {k : IntKind} {z : Int} {cells : List AV} {H' : AHeap} (h : C f args [] 0 = some (.tup [.ref id 0 n n cells.length sz false, .int k z], H')) (hg : hget H' id = some ⟨.row, cells⟩) :
   aBack site true seen (thaw C f args [] 0) = Z15 (site 0) seen (fun j => .tup [.ref j 0 n n cells.length sz false, .int k z]) ⟨.row, cells⟩ := by
 simp only [thaw, h, frzRet, aBack, sitesB, aBackAt, imp, imps, hg, List.length_nil, List.not_mem_nil, not_false_eq_true, and_true, if_true, List.map_cons, List.map_nil, AM.apart, List.elem_nil, Bool.not_false, Bool.and_true, AV.leads, AV.leads.leadsL, Bool.or_false, Z15]
theorem Z0al {C : Callee} {site : Nat → Nat} {seen : List Nat} {f : FuncId} {args : List AV} (h : ∃ H', C f args [] 0 = some (.nilsl, H')) : aBack site true seen (thaw C f args [] 0) = .pure (.nilsl, []) := by
 obtain ⟨H', h⟩ := h; exact Z2L h rfl (fun _ => rfl) rfl
end Go.AM
end
noncomputable section
namespace Go.AM
theorem seqN (s : St) (k) : seqX (some (.normal, s)) k = k s := nf
theorem bindN (s : St) (k) : bindR (some s) k = k s := nf
theorem regN (s : St) (k) : regX (some s) k = some (.normal, k s) := nf
theorem Zr (d : Nat) (k : IntKind) (z : Int) : snap (d + 1) (.int k z) = .pure (.int k z, []) := rfl
theorem ZU (d : Nat) : snap (d + 1) .nilsl = .pure (.nilsl, []) := rfl
theorem Z0n (d : Nat) (c : List AV) (n : Nat) (ex : Bool) : snap (d + 1) (.imm c n ex) = .pure (.imm c n ex, []) := rfl
theorem ZM (d id off len cap gl sz : Nat) (ex : Bool) : snap (d + 1) (.ref id off len cap gl sz ex) = (Rd.liveBlk id gl).bind fun b =>
     if off + len * sz ≤ b.cells.length then
       match b.st with
       | .box => (snaps d ((b.cells.drop off).take (len * sz))).bind fun x =>
         .pure (.imm x.1 len (ex && decide (cap = len)), id :: x.2)
       | _ => .pure (.imm ((b.cells.drop off).take (len * sz)) len (ex && decide (cap = len)), [id])
     else .fail := rfl
theorem Z0q (d id off gl : Nat) : snap (d + 1) (.ptr id off gl) = (Rd.liveBlk id gl).bind fun b =>
     match b.st with
     | .box => (snaps d b.cells).bind fun x => .pure (.iptr x.1 off, id :: x.2)
     | _ => .pure (.iptr b.cells off, [id]) := rfl
theorem ZQ (d : Nat) (vs : List AV) : snap (d + 1) (.agg vs) = (snaps d vs).bind fun x => .pure (.agg x.1, x.2) := rfl
theorem Z2K (d : Nat) (f : FuncId) (vs : List AV) : snap (d + 1) (.clo f vs) = (snaps d vs).bind fun x => .pure (.clo f x.1, x.2) := rfl
def frzB (s : BS) (cs : List AV) (i : Nat) (r : Rd Ups) : Rd Ups :=
 match s, cs.all AV.flat with
 | .box, false => .fail
 | .mp, _ => .fail
 | .froz, _ => r
 | _, _ => r.bind fun us => .pure ((i, ⟨.froz, cs⟩) :: us)
theorem Zp : frz [] = .pure [] := rfl
theorem Zct (i : Nat) (is : List Nat) : frz (i :: is) = .get i fun
   | some b => frzB b.st b.cells i (frz is)
   | none => .fail := rfl
theorem Z73 (cs : List AV) (i : Nat) (r : Rd Ups) : frzB .row cs i r = r.bind fun us => .pure ((i, ⟨.froz, cs⟩) :: us) := rfl
theorem Z08y (cs : List AV) (i : Nat) (r : Rd Ups) : frzB .froz cs i r = r := by unfold frzB; cases cs.all AV.flat <;> rfl
theorem Zs4 : ∀ (l : List AV) (d : Nat), (∀ a ∈ l, ∃ k z, a = AV.int k z) → l.length + 2 ≤ d → snaps d l = .pure (l, [])
 | [], d + 1, _, _ => by simp only [snaps]
 | a :: l, d + 1, h, hd => by
   obtain ⟨k, z, rfl⟩ := h a (List.mem_cons_self ..)
   have hd2 : l.length + 2 ≤ d := by simp only [List.length_cons] at hd; omega
   have ih := Zs4 l d (fun a ha => h a (List.mem_cons_of_mem _ ha)) hd2
   obtain ⟨e, rfl⟩ : ∃ e, d = e + 1 := ⟨d - 1, by omega⟩
   simp only [snaps, snap, ih, Rd.bind, List.nil_append]
end Go.AM
namespace Go.AM.YtgfnbmfjbjopkaaDoor
open Go Go.AM
theorem cl0 : ((0 : Nat) : Int) = 0 := rfl
theorem cl1 : ((1 : Nat) : Int) = 1 := rfl
end Go.AM.YtgfnbmfjbjopkaaDoor
end
noncomputable section
namespace Go.AM
def cls {α : Type} (f : α → List AV) (l : List α) : List AV := l.flatMap f
noncomputable section
variable {α : Type} {f : α → List AV} {sz : Nat}
theorem ZhK : cls f [] = [] := rfl
theorem Z4k (a : α) (l : List α) : cls f (a :: l) = f a ++ cls f l := by simp [cls]
theorem ZA (h : ∀ a, (f a).length = sz) : ∀ l : List α, (cls f l).length = l.length * sz
 | [] => by simp [cls]
 | a :: l => by rw [Z4k, List.length_append, h, ZA h l, List.length_cons, Nat.succ_mul]; omega
theorem Z1l (h : ∀ a, (f a).length = sz) : ∀ {l : List α} {k : Nat} {s : α}, l[k]? = some s → ((cls f l).drop (k * sz)).take sz = f s
 | [], k, s, e => by simp at e
 | a :: l, 0, s, e => by simp at e; subst e; rw [Z4k, Nat.zero_mul, List.drop_zero, List.take_append_of_le_length (by rw [h]; exact Nat.le_refl _), List.take_of_length_le (by rw [h]; exact Nat.le_refl _)]
 | a :: l, k + 1, s, e => by
   simp at e
   rw [Z4k, Nat.succ_mul, Nat.add_comm, ← List.drop_drop, List.drop_left' (h a)]
   exact Z1l h e
theorem Z0bW (h : ∀ a, (f a).length = sz) {l : List α} {k j : Nat} {s : α} (e : l[k]? = some s) (hj : j < sz) : (cls f l)[k * sz + j]? = (f s)[j]? := by
 rw [← Z1l h e, List.getElem?_take, if_pos hj, List.getElem?_drop]
theorem Zfl (l : List α) (a : α) : cls f l ++ f a = cls f (l ++ [a]) := by simp [cls]
theorem Z7n (h : ∀ a, (f a).length = sz) (l : List α) : List.take (l.length * sz) (cls f l) = cls f l := List.take_of_length_le (by rw [ZA h]; exact Nat.le_refl _)
theorem Zg4 (h : ∀ a, (f a).length = sz) : ∀ (l : List α) (n : Nat), List.take (n * sz) (cls f l) = cls f (l.take n)
 | [], n => by simp [cls]
 | a :: l, 0 => by simp [cls]
 | a :: l, n + 1 => by
   rw [Z4k, List.take_succ_cons, Z4k, ← Zg4 h l n, Nat.succ_mul, Nat.add_comm, List.take_add, List.take_left' (h a), List.drop_left' (h a)]
end
def ics (l : List Int) : List AV := l.map (AV.int .i64)
theorem Z0r (l : List Int) : (ics l).length = l.length := by simp [ics]
theorem ZnA {l : List Int} {k : Nat} {z : Int} (h : l[k]? = some z) : (ics l)[k]? = some (.int .i64 z) := by simp [ics, h]
theorem Z0eS (l : List Int) (z : Int) : ics l ++ [.int .i64 z] = ics (l ++ [z]) := by simp [ics]
theorem Z0n5 (l : List Int) (k : Nat) (z : Int) : (ics l).set k (.int .i64 z) = ics (l.set k z) := by simp [ics]
def ins (l : List Nat) : List AV := l.map fun (i : Nat) => AV.int .i64 (i : Int)
theorem Zu (l : List Nat) : (ins l).length = l.length := by simp [ins]
theorem Z10 {l : List Nat} {k i : Nat} (h : l[k]? = some i) : (ins l)[k]? = some (.int .i64 (i : Int)) := by simp [ins, h]
theorem Z0gV (l : List Nat) (i : Nat) : ins l ++ [.int .i64 (i : Int)] = ins (l ++ [i]) := by simp [ins]
theorem ZgZ (l : List Nat) : (ins l).take l.length = ins l := List.take_of_length_le (by rw [Zu]; exact Nat.le_refl _)
theorem Z9N (l : List Nat) (k i : Nat) : (ins l).set k (.int .i64 (i : Int)) = ins (l.set k i) := by simp [ins]
theorem Z0iM (l : List Nat) : ins l = ics (l.map fun (i : Nat) => (i : Int)) := by simp [ins, ics, Function.comp_def]
def ucs (l : List Nat) : List AV := l.map fun (i : Nat) => AV.int .u64 (i : Int)
theorem Z0g (l : List Nat) : (ucs l).length = l.length := by simp [ucs]
theorem ZaJ {l : List Nat} {k i : Nat} (h : l[k]? = some i) : (ucs l)[k]? = some (.int .u64 (i : Int)) := by simp [ucs, h]
theorem Z04o (l : List Nat) (k i : Nat) : (ucs l).set k (.int .u64 (i : Int)) = ucs (l.set k i) := by simp [ucs]
def oV (k sz n : Nat) : AV := match n with
 | 0 => .nilsl
 | n + 1 => .ref k 0 (n + 1) (n + 1) ((n + 1) * sz) sz false
def oH (k : Nat) (cells : List AV) : AHeap := match cells with
 | [] => []
 | c :: cs => [(k, ⟨.row, c :: cs⟩)]
theorem Z06v {C : Callee} {site : Nat → Nat} {seen : List Nat} {f : FuncId} {args : List AV} {id m c sz gl : Nat} {cells : List AV} {H' : AHeap} (h : C f args [] 0 = some (.ref id 0 m c gl sz false, H')) (hg : hget H' id = some ⟨.row, cells⟩) (hl : cells.length = gl) :
   aBack site true seen (thaw C f args [] 0) = Z15 (site 0) seen (fun k => .ref k 0 m c gl sz false) ⟨.row, cells⟩ := by
 subst hl
 simp only [thaw, h, frzRet, aBack, sitesB, aBackAt, imp, hg, List.length_nil, List.not_mem_nil, not_false_eq_true, and_true, if_true, List.map_cons, List.map_nil, AM.apart, List.elem_nil, Bool.not_false, Bool.and_true, AV.leads, Z15]
theorem Z08S {k j : Nat} (h : k ≠ j) (c : List AV) : hget (oH k c) j = none := by
 cases c with
 | nil => rfl
 | cons a c => simp only [oH, Zd, if_neg h, Zl]
theorem Zzk (k : Nat) {c : List AV} (h : 0 < c.length) : oH k c = [(k, ⟨.row, c⟩)] := by
 cases c with
 | nil => simp at h
 | cons a c => rfl
theorem loopN {f : St → XR} (st : Nat → St) (n : Nat) (h : ∀ i, i < n → ∃ s', f (st i) = some (.normal, s') ∧ headA [] s' = st (i + 1)) (h0 : headA [] (st 0) = st 0) (hn : n < 1000) {e : Ex} {se : St} (he : f (st n) = some (e, se)) (hne : e ≠ .normal) :
   iterA f (headA []) 1000 (st 0) = some (e, se) :=
 Z2M st n 1000 0 (st 0) h0 hn (fun i _ hi => h i (by omega)) (by rw [Nat.zero_add]; exact he) hne
theorem Z06C {f : St → XR} {s0 : St} (h0 : headA [] s0 = s0) {e : Ex} {se : St} (he : f s0 = some (e, se)) (hne : e ≠ .normal) : iterA f (headA []) 1000 s0 = some (e, se) :=
 loopN (fun _ => s0) 0 (fun i hi => by omega) h0 (by omega) he hne
theorem wrpU {n : Nat} (h : n < 18446744073709551616) : wrp .u64 (n : Int) = n := ZCe (by simp only [kLo]; omega) (by simp only [kHi]; omega)
theorem Zcb {n : Nat} : bt .u64 (n : Int) = BitVec.ofNat 64 n := by
 simp only [bt, IntKind.bits, BitVec.ofInt_natCast]
theorem ZRw (x : BitVec 64) : bk .u64 x = .int .u64 (x.toNat : Int) := by
 show AV.int .u64 (wrp .u64 (x.toNat : Int)) = _
 rw [wrpU x.isLt]
theorem ZLi {a b : Nat} (ha : a < 18446744073709551616) (hb : b < 18446744073709551616) : bk .u64 (bt .u64 (a : Int) &&& bt .u64 (b : Int)) = .int .u64 ((a &&& b : Nat) : Int) := by
 rw [Zcb, Zcb]
 refine (ZRw _).trans (congrArg (fun x : Nat => AV.int .u64 (x : Int)) ?_)
 exact (show (BitVec.ofNat 64 a &&& BitVec.ofNat 64 b).toNat = a &&& b by rw [BitVec.toNat_and, BitVec.toNat_ofNat, BitVec.toNat_ofNat, Nat.mod_eq_of_lt ha, Nat.mod_eq_of_lt hb])
theorem Z0hj {a b : Nat} (ha : a < 18446744073709551616) (hb : b < 18446744073709551616) : bk .u64 (bt .u64 (a : Int) ||| bt .u64 (b : Int)) = .int .u64 ((a ||| b : Nat) : Int) := by
 rw [Zcb, Zcb]
 refine (ZRw _).trans (congrArg (fun x : Nat => AV.int .u64 (x : Int)) ?_)
 exact (show (BitVec.ofNat 64 a ||| BitVec.ofNat 64 b).toNat = a ||| b by rw [BitVec.toNat_or, BitVec.toNat_ofNat, BitVec.toNat_ofNat, Nat.mod_eq_of_lt ha, Nat.mod_eq_of_lt hb])
theorem ZuM {a : Nat} (ha : a < 18446744073709551616) : bk .u64 (bt .u64 (a : Int) &&& bt .u64 1) = .int .u64 ((a &&& 1 : Nat) : Int) := ZLi (b := 1) ha (by omega)
theorem Z0ei : ∀ s, s < 64 → ∀ t, t < 64 → (BitVec.ofNat 64 s &&& ~~~(BitVec.ofNat 64 t)).toNat = s &&& (63 - t) := by decide +kernel
theorem ZfH {s t : Nat} (hs : s < 64) (ht : t < 64) : bk .u64 (bt .u64 (s : Int) &&& ~~~(bt .u64 (t : Int))) = .int .u64 ((s &&& (63 - t) : Nat) : Int) := by
 rw [Zcb, Zcb]
 exact (ZRw _).trans (congrArg (fun x : Nat => AV.int .u64 (x : Int)) (Z0ei s hs t ht))
theorem Zzn {i : Nat} (h : i < 7) : aShift .shl .u64 1 (i : Int) = some (.int .u64 ((1 <<< i : Nat) : Int)) := by
 have : i = 0 ∨ i = 1 ∨ i = 2 ∨ i = 3 ∨ i = 4 ∨ i = 5 ∨ i = 6 := by omega
 rcases this with rfl | rfl | rfl | rfl | rfl | rfl | rfl <;> rfl
theorem Z06x {b i : Nat} (hi : i < 64) : aShift .shr .u64 (b : Int) (i : Int) = some (.int .u64 ((b >>> i : Nat) : Int)) := by
 have h1 : ¬ (i : Int) < 0 := by omega
 simp only [aShift, if_neg h1, pw2, IntKind.bits, Int.toNat_natCast]
 rw [Nat.min_eq_left (by omega), Nat.shiftRight_eq_div_pow]
 congr 2
 exact (Int.fdiv_eq_ediv_of_nonneg _ (Int.natCast_nonneg _)).trans (Int.natCast_ediv _ _).symm
theorem ZTX {b i : Nat} (h : b < 18446744073709551616) : b >>> i < 18446744073709551616 := by
 rw [Nat.shiftRight_eq_div_pow]; exact Nat.lt_of_le_of_lt (Nat.div_le_self ..) h
theorem Z0ks (b i : Nat) : ((((b >>> i) &&& 1 : Nat) : Int) == 1) = b.testBit i := by
 rw [Nat.testBit, Nat.and_comm 1]
 have h : b >>> i &&& 1 < 2 := Nat.lt_of_le_of_lt Nat.and_le_right (by omega)
 generalize b >>> i &&& 1 = x at *
 match x, h with
 | 0, _ => rfl
 | 1, _ => rfl
theorem Zsq (b i : Nat) : ((((b >>> i) &&& 1 : Nat) : Int) = 1) = (b.testBit i = true) := by
 rw [← Z0ks, beq_iff_eq]
theorem ZLs (x : Nat) : ((x : Int) != 0) = (x != 0) := by
 cases x <;> rfl
end Go.AM
end
end
