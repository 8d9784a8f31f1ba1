/- What a call is handed: integers, and arrays and structs of small integers, as the machine's values. Own work of this project. -/
import Derived.Test.YtikchlfbjdfioaaPBase
import Derived.Carry
namespace Go.AM
open Go Go.RowKit Go.ChangeShapes
section
variable {H : Type} {enc : TypeId × Value → H} {P : Program} {w : World} {base : Nat} {spare : Nat → Bool} {held : Bool}

theorem trod_below {t : TypeId} {v : Value} {d : DataW H} {ps : List MemPlace} (h : DataW.Trod enc P w base spare held t v d ps) : ∀ x ∈ ps, x.block < w.heap.size := by
  obtain ⟨n, h⟩ := h
  exact DataW.trod_lt n t _ _ h
theorem _root_.Go.RowKit.Below.trod' {t : TypeId} (hl : laidOutB P = true) (hr : P.readableRec t = true) (hrow : t < P.types.size) {W W' : World} {v : Value} {d : DataW H} {ps : List MemPlace} (hb : Below W.heap.size W W')
    (h : DataW.Trod enc P W 0 (fun _ => true) true t v d ps) : DataW.Trod enc P W' 0 (fun b => decide (b < W.heap.size)) true t v d ps :=
  Below.trod hl hr hrow h hb (trod_below h)

theorem cell_u8 {t : TypeId} {v : Value} {b : Nat} {r : Reach} (ht : P.underlying t = some (.int .u8)) (hv : Cell.okWide P w r b t v) : ∃ z, v = .int .u8 z ∧ 0 ≤ z ∧ z ≤ 255 := by
  simp only [Cell.okWide, ht] at hv
  unfold Cell.ok at hv
  rw [ht] at hv
  cases v <;> simp only at hv <;> try exact hv.elim
  rename_i k z
  obtain ⟨rfl, h1, h2⟩ := hv
  exact ⟨z, rfl, h1, h2⟩
theorem hand_u8 {t : TypeId} {v : Value} {b : Nat} {r : Reach} (ht : P.underlying t = some (.int .u8)) (hv : Value.okWide P w r b t v) : ∃ z, v = .int .u8 z ∧ 0 ≤ z ∧ z ≤ 255 := by
  unfold Value.okWide at hv
  rw [ht] at hv
  exact cell_u8 ht hv
theorem row_u8 {t u : TypeId} {n : Nat} {b : Nat} {r : Reach} (hu : P.underlying u = some (.int .u8)) (hc : P.cellTypes P.depth t = some (List.replicate n u)) (hn : P.cellsOf t = n) (h0 : 0 < n) {cs : Array Value} (hs : cs.size = P.cellsOf t) (hr : Row.okWide P w r b t cs) :
    ∃ zs : List Int, cs.toList = zs.map (Value.int .u8) ∧ zs.length = n ∧ ∀ (i : Nat) (z : Int), zs[i]? = some z → 0 ≤ z ∧ z ≤ 255 := by
  obtain ⟨ts, h1, _, h3⟩ := hr
  rw [hc] at h1
  obtain rfl := Option.some.inj h1
  have key : ∀ i, i < n → ∃ z, cs[i]? = some (.int .u8 z) ∧ 0 ≤ z ∧ z ≤ 255 := by
    intro i hi
    have hv : cs[i]? = some cs[i] := Array.getElem?_eq_getElem (by omega)
    obtain ⟨u', hu', hcell⟩ := h3 i _ hv
    rw [List.length_replicate, Nat.mod_eq_of_lt hi, List.getElem?_replicate, if_pos hi] at hu'
    obtain rfl := Option.some.inj hu'
    obtain ⟨z, hz, hb⟩ := cell_u8 hu hcell
    exact ⟨z, by rw [hv, hz], hb⟩
  refine ⟨(List.range n).map fun i => match (cs[i]? : Option Value) with | some (Value.int _ z) => z | _ => 0, ?_, by simp, ?_⟩
  · apply List.ext_getElem?
    intro i
    by_cases hi : i < n
    · obtain ⟨z, hz, _⟩ := key i hi
      simp [hi, hz]
    · rw [List.getElem?_eq_none (by simp; omega)]
      simp [hi]
  · intro i z hz
    have hi : i < n := by have := (List.getElem?_eq_some_iff.1 hz).1; simpa using this
    obtain ⟨y, hy, hb⟩ := key i hi
    simp [hi, hy] at hz
    omega
theorem vr_u8 {fz : Nat → Prop} {rf : RFt} (zs : List Int) {cs : Array Value} (h : cs.toList = zs.map (Value.int .u8)) : VR fz w (.agg (zs.map (AV.int .u8))) rf (.agg cs) := by
  simp only [VR]
  refine ⟨cs, rfl, ?_⟩
  rw [VRo_iff, h]
  refine ⟨by simp, fun i a v h1 h2 => ?_⟩
  rw [List.getElem?_map] at h1 h2
  cases hz : zs[i]? with
  | none => rw [hz] at h1; simp at h1
  | some z =>
    rw [hz] at h1 h2
    simp only [Option.map_some, Option.some.injEq] at h1 h2
    subst h1; subst h2
    exact ⟨rfl, by simp only [VR]⟩
/-- A struct, or an array, of small integers. -/
theorem hand_struct {t u : TypeId} {n : Nat} {v : Value} {b : Nat} {r : Reach} {fs : Array Field} (ht : P.underlying t = some (.struct fs)) (hu : P.underlying u = some (.int .u8)) (hc : P.cellTypes P.depth t = some (List.replicate n u)) (hn : P.cellsOf t = n) (h0 : 0 < n) (hv : Value.okWide P w r b t v) :
    ∃ (zs : List Int) (cs : Array Value), v = .agg cs ∧ cs.toList = zs.map (Value.int .u8) ∧ zs.length = n ∧ ∀ (i : Nat) (z : Int), zs[i]? = some z → 0 ≤ z ∧ z ≤ 255 := by
  unfold Value.okWide at hv
  rw [ht] at hv
  obtain ⟨cs, h1, h2, h3⟩ := hv
  obtain ⟨zs, a, b, c⟩ := row_u8 hu hc hn h0 h2 h3
  exact ⟨zs, cs, h1, a, b, c⟩
theorem hand_array {t e u : TypeId} {n m : Nat} {v : Value} {b : Nat} {r : Reach} (ht : P.underlying t = some (.array m e)) (hu : P.underlying u = some (.int .u8)) (hc : P.cellTypes P.depth t = some (List.replicate n u)) (hn : P.cellsOf t = n) (h0 : 0 < n) (hv : Value.okWide P w r b t v) :
    ∃ (zs : List Int) (cs : Array Value), v = .agg cs ∧ cs.toList = zs.map (Value.int .u8) ∧ zs.length = n ∧ ∀ (i : Nat) (z : Int), zs[i]? = some z → 0 ≤ z ∧ z ≤ 255 := by
  unfold Value.okWide at hv
  rw [ht] at hv
  obtain ⟨cs, h1, h2, h3⟩ := hv
  obtain ⟨zs, a, b, c⟩ := row_u8 hu hc hn h0 h2 h3
  exact ⟨zs, cs, h1, a, b, c⟩
end
end Go.AM
