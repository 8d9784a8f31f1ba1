/- From what a row lays to the machine's state; from a run to a row's end. Own work of this project. -/
import Derived.Test.YteojpbflpgnloaaDoorOk
import Derived.Test.YteojpbflpgnloaaDoorRows
import Derived.Test.YteojpbflpgnloaaDoorChecked
import Derived.ProofKit
import Derived.OpenShut
import Derived.LaidLaws
import Derived.Handed
namespace Go.AM.YteojpbflpgnloaaDoor
open Go Go.AM Go.RowKit Go.Proofs Go.Proofs.YteojpbflpgnloaaDoor Go.ChangeShapes Go.WideShapes
set_option maxRecDepth 1000000

theorem own : ownKnob Tryd.prog.godebug = none := by kernel_rfl
theorem laidOut : laidOutB Tryd.prog = true := by kernel_rfl

/-- An array of integers, read back out of what is laid. -/
theorem ints_of_trod {H : Type} {enc : TypeId × Value → H} {P : Program} {w : World} {base : Nat} {spare : Nat → Bool} {hld : Bool} {fuel : Nat} {t e : TypeId} {cs : List Value} {n : Nat} {k : IntKind} {l : List Int} {p : List MemPlace}
    (ht : P.underlying t = some (.array n e)) (he : P.underlying e = some (.int k)) (hc : P.cellsOf e = 1) (h : DataW.trod enc P w base spare hld fuel t cs = some (.agg (l.map fun z => .lit (.int k z)), p)) :
    ∀ (i : Nat) (z : Int), l[i]? = some z → cs[i]? = some (.int k z) := by
  obtain ⟨xs, m, _, hx, _, hl, hi⟩ := DataW.trod_array ht h
  simp only [Prod.mk.injEq, DataW.agg.injEq] at hx
  intro i z hz
  have hlen : l.length = xs.length := by have := congrArg List.length hx.1; simpa using this
  have hlt : i < n := by rw [← hl, ← hlen]; exact (List.getElem?_eq_some_iff.1 hz).1
  have h1 := hi i hlt
  have hxi : xs[i]? = some xs[i] := List.getElem?_eq_getElem (by omega)
  rw [hxi, hc, Nat.mul_one] at h1
  obtain ⟨s, q1, q2, _⟩ := DataW.trod_int he h1
  have h2 := congrArg (fun y => y[i]?) hx.1
  simp only [List.getElem?_map, hz, hxi, Option.map_some, q2, Option.some.injEq, DataW.lit.injEq, Lit.int.injEq, true_and] at h2
  subst h2
  have h3 := congrArg (fun y => y[0]?) q1
  simp only [List.getElem?_take, List.getElem?_drop, Nat.add_zero] at h3
  simpa using h3

def intsOf : DataW Unit → List Int
  | .agg ds => ds.map fun
    | .lit (.int _ z) => z
    | _ => 0
  | _ => []
noncomputable def tab0 : List Int := intsOf Rows.laid_math_bits_deBruijn32tab
noncomputable def tab1 : List Int := intsOf Rows.laid_math_bits_deBruijn64tab
theorem laid0 : (Rows.laid_math_bits_deBruijn32tab : DataW Unit) = .agg (tab0.map fun z => .lit (.int .u8 z)) := rfl
theorem laid1 : (Rows.laid_math_bits_deBruijn64tab : DataW Unit) = .agg (tab1.map fun z => .lit (.int .u8 z)) := rfl

/-- What is laid. -/
abbrev laid : List (String × DataW Unit) := [("math/bits.deBruijn32tab", Rows.laid_math_bits_deBruijn32tab), ("math/bits.deBruijn64tab", Rows.laid_math_bits_deBruijn64tab)]

theorem globN0 : Tryd.prog.globalNamed "math/bits.deBruijn32tab" = some 0 := by kernel_rfl
theorem globN1 : Tryd.prog.globalNamed "math/bits.deBruijn64tab" = some 1 := by kernel_rfl
theorem globT0 : (Tryd.prog.globals[0]?).map (·.type) = some 118 := by kernel_rfl
theorem globT1 : (Tryd.prog.globals[1]?).map (·.type) = some 119 := by kernel_rfl
theorem cells5 : Tryd.prog.cellsOf 5 = 1 := by kernel_rfl

theorem cells_of_laid {W : World} (h : laidMet Tryd.prog laid W) :
    (∀ (i : Nat) (z : Int), tab0[i]? = some z → W.cell? ⟨0, i, none⟩ = some (.int .u8 z)) ∧ (∀ (i : Nat) (z : Int), tab1[i]? = some z → W.cell? ⟨1, i, none⟩ = some (.int .u8 z)) := by
  obtain ⟨ps, ⟨g, t, cs, fuel, p, q, hg, ht, hvar, hd, ⟨g', t', cs', fuel', p', q', hg', ht', hvar', hd', _, _⟩, _⟩, _⟩ := h
  obtain rfl := Option.some.inj (globN0.symm.trans hg)
  obtain rfl := Option.some.inj (globT0.symm.trans ht)
  obtain rfl := Option.some.inj (globN1.symm.trans hg')
  obtain rfl := Option.some.inj (globT1.symm.trans ht')
  rw [laid0] at hd
  rw [laid1] at hd'
  refine ⟨fun i z hz => ?_, fun i z hz => ?_⟩
  · have := ints_of_trod Tryd.underlying118 Tryd.underlying5 cells5 hd i z hz
    rw [World.var?_cell hg hvar i]
    simpa using this
  · have := ints_of_trod Tryd.underlying119 Tryd.underlying5 cells5 hd' i z hz
    rw [World.var?_cell hg' hvar' i]
    simpa using this

/-- The state at a call's begin: the listed variables are there, and what else nobody writes. -/
def start (fz : Nat → Prop) (W : World) : Gh := ⟨fun _ => (0, 0), fun k => k = 0 ∨ k = 1 ∨ fz k, [], W⟩

theorem tabs0 : globs 0 = some (tab0.map (AV.int .u8)) := rfl
theorem tabs1 : globs 1 = some (tab1.map (AV.int .u8)) := rfl
theorem tabs2 (k : Nat) : globs (k + 2) = none := rfl

theorem lt_of_cell {W : World} {b o : Nat} {v : Value} (h : W.cell? ⟨b, o, none⟩ = some v) : b < W.heap.size := by
  simp only [World.cell?] at h
  split at h
  · rename_i hb; exact (Array.getElem?_eq_some_iff.1 hb).1
  · exact absurd h (by simp)

theorem glob_cells {fz : Nat → Prop} {W : World} {b : Nat} {l : List Int} (h : ∀ (i : Nat) (z : Int), l[i]? = some z → W.cell? ⟨b, i, none⟩ = some (.int .u8 z)) : VRc fz W (l.map (AV.int .u8)) noRef b 0 := by
  rw [VRc_iff]
  intro i a hi
  rw [List.getElem?_map] at hi
  cases hz : l[i]? with
  | none => rw [hz] at hi; simp at hi
  | some z =>
    rw [hz] at hi
    simp only [Option.map_some, Option.some.injEq] at hi
    subst hi
    exact ⟨_, by rw [Nat.zero_add]; exact h i z hz, rfl, by simp only [VR]⟩

theorem start_inv {fz : Nat → Prop} {W : World} (h : laidMet Tryd.prog laid W) (hfz : ∀ k, fz k → k < W.heap.size) : Inv E (start fz W) := by
  obtain ⟨h0, h1⟩ := cells_of_laid h
  refine ⟨fun _ _ h => by simp [start, hget_n, hget_c] at h, fun _ _ _ _ h => by simp [start, hget_n, hget_c] at h, fun _ _ h => by simp [start, hget_n, hget_c] at h, fun _ _ h => by simp [start, hget_n, hget_c] at h, ?_, ?_⟩
  · rintro k (rfl | rfl | hk)
    · exact lt_of_cell (h0 0 0 rfl)
    · exact lt_of_cell (h1 0 0 rfl)
    · exact hfz k hk
  · intro k cells hk
    change globs k = some cells at hk
    match k with
    | 0 => rw [tabs0] at hk; obtain rfl := Option.some.inj hk; exact ⟨.inl rfl, glob_cells h0⟩
    | 1 => rw [tabs1] at hk; obtain rfl := Option.some.inj hk; exact ⟨.inr (.inl rfl), glob_cells h1⟩
    | k + 2 => rw [tabs2] at hk; exact absurd hk (by simp)

/-- A law's run: it gives true, and nothing that was there has turned. -/
theorem law_run {C : Callee} (hC : CS Tryd.prog E C) {f : FuncId} {args : List AV} {H' : AHeap} (h : C f args [] 0 = some (.bool true, H')) {fz : Nat → Prop} {W : World} (hl : laidMet Tryd.prog laid W) (hfz : ∀ k, fz k → k < W.heap.size) {vs : List Value}
    (hs : (start fz W).Rs args vs) : Calls Tryd.prog f vs.toArray W fun e w' => e = .returned (.bool true) ∧ Below W.heap.size W w' := by
  refine (hC f args [] 0 _ _ h (start fz W) vs rfl (start_inv hl hfz) hs).mono ?_
  intro e w' he
  cases e with
  | returned v =>
    obtain ⟨g', rfl, _, _, hA, hv⟩ := he
    simp only [Gh.R, VR] at hv
    subst hv
    exact ⟨rfl, hA.os, hA.tape, hA.out, hA.size, fun k hk => hA.old k hk wr_empty⟩
  | panicked => exact he.elim
  | outgrown => exact he.elim

/-- The settled world, but the tables as they are laid. -/
noncomputable def laidWorld (os : Os) : World :=
  let w0 := World.holding Tryd.prog os ⟨#[], #[], []⟩
  { w0 with heap := (w0.heap.modify 0 fun
      | .cells _ t frozen => .cells (tab0.map (Value.int .u8)).toArray t frozen
      | o => o).modify 1 fun
      | .cells _ t frozen => .cells (tab1.map (Value.int .u8)).toArray t frozen
      | o => o }
theorem laid_met (os : Os) (args : Array Value) : laidMet Tryd.prog laid ((laidWorld os).forCall (fun _ _ => 0) ⟨#[], args, []⟩).memory :=
  laidMet_of_run (ps := MemPlace.row ⟨0, 0, none⟩ 32 ++ MemPlace.row ⟨1, 0, none⟩ 64) 8 (by kernel_rfl) (by kernel_rfl) (by kernel_rfl)

end Go.AM.YteojpbflpgnloaaDoor
