/- What a call is handed: integers, and slices of things that are integers, as the machine's values. Own work of this project. -/
import Derived.Test.YteellnlcligpfaaPBase
import Derived.Carry
namespace Go.AM
open Go Go.RowKit Go.ChangeShapes
section
variable {H : Type} {enc : TypeId × Value → H} {P : Program} {w : World} {base : Nat} {spare : Nat → Bool} {held : Bool}

theorem trod_below {t : TypeId} {v : Value} {d : DataW H} {ps : List MemPlace} (h : DataW.Trod enc P w base spare held t v d ps) : ∀ x ∈ ps, x.block < w.heap.size := by
  obtain ⟨n, h⟩ := h
  exact DataW.trod_lt n t _ _ h

theorem _root_.Go.RowKit.Below.trod' {t : TypeId} (hl : laidOutB P = true) (hr : P.readableRec t = true) (hrow : t < P.types.size) {W W' : World} {v : Value} {d : DataW H} {ps : List MemPlace} (hb : Below W.heap.size W W')
    (h : DataW.Trod enc P W 0 (fun _ => true) true t v d ps) : DataW.Trod enc P W' 0 (fun b => decide (b < W.heap.size)) true t v d ps :=
  Below.trod hl hr hrow h hb (trod_below h)
theorem hand_int {t : TypeId} {k : IntKind} {v : Value} {b : Nat} {r : Reach} (ht : P.underlying t = some (.int k)) (hv : Value.okWide P w r b t v) : ∃ z, v = .int k z := by
  unfold Value.okWide at hv
  rw [ht] at hv
  simp only [Cell.okWide, ht] at hv
  unfold Cell.ok at hv
  rw [ht] at hv
  cases v <;> simp only at hv <;> try exact hv.elim
  exact ⟨_, by rw [hv.1]⟩

theorem hand_add (b o n : Nat) : (⟨b, o, none⟩ : Addr).add n = ⟨b, o + n, none⟩ := by
  unfold Addr.add
  split
  · rename_i h; subst h; rfl
  · rfl

theorem cells_get {n : Nat} {a : Addr} {cs : List Value} (h : w.cells? base a n = some cs) : cs.length = n ∧ ∀ j, j < n → w.cell? (a.add j) = cs[j]? := by
  unfold World.cells? at h
  split at h
  · have hl := mapM_some_length h
    refine ⟨by simpa using hl, fun j hj => ?_⟩
    exact mapM_some_get h j j (by simp [hj])
  · exact absurd h (by simp)

/-- A slice of things that are integers of 64 bits, sz each. -/
theorem hand_slice {t e : TypeId} {sz : Nat} {v : Value} {d : DataW H} {ps : List MemPlace} {b0 : Nat} {r : Reach} (ht : P.underlying t = some (.slice e)) (hsz : P.cellsOf e = sz)
    (hel : ∀ (n : Nat) (cs : List Value) (x : DataW H × List MemPlace), cs.length = sz → DataW.trod enc P w base spare held n e cs = some x → ∃ zs : List Int, cs = zs.map (Value.int .i64))
    (hv : Value.okWide P w r b0 t v) (h : DataW.Trod enc P w base spare held t v d ps) :
    v = .slice none 0 0 ∨ ∃ (b o len cap : Nat) (zs : List Int), v = .slice (some ⟨b, o, none⟩) len cap ∧ len ≤ cap ∧ b < w.heap.size ∧ zs.length = len * sz ∧ ∀ (i : Nat) (z : Int), zs[i]? = some z → w.cell? ⟨b, o + i, none⟩ = some (.int .i64 z) := by
  unfold Value.okWide at hv
  rw [ht] at hv
  simp only [Cell.okWide, ht] at hv
  unfold Cell.ok at hv
  rw [ht] at hv
  cases v <;> simp only at hv <;> try exact hv.elim
  rename_i a len cap
  cases a with
  | none =>
    left
    split at hv <;> first | rfl | (rename_i h1 h2; simp at h2; done) | exact hv.elim | simp_all
  | some a =>
    right
    obtain ⟨h1, _, _, hspot, row, cells, hshape, _⟩ := hv
    obtain ⟨b, o, sp⟩ := a
    simp only at hspot hshape
    subst hspot
    have hb : b < w.heap.size := by
      unfold World.shape? at hshape
      split at hshape
      · rename_i hh; exact (Array.getElem?_eq_some_iff.1 hh).1
      · exact absurd hshape (by simp)
    obtain ⟨fuel, h⟩ := h
    rcases DataW.trod_slice ht h with ⟨hc, _⟩ | ⟨a', len', cap', elems, rest, n, _, hc, _, _, hle, _, hlen, hget, _⟩
    · simp [Value.cells] at hc
    · simp only [Value.cells, List.cons.injEq, Value.slice.injEq, Option.some.injEq, and_true] at hc
      obtain ⟨rfl, rfl, rfl⟩ := hc
      rw [hsz] at hget
      have key : ∀ m, m ≤ len → ∃ zs : List Int, zs.length = m * sz ∧ ∀ (i : Nat) (z : Int), zs[i]? = some z → w.cell? ⟨b, o + i, none⟩ = some (.int .i64 z) := by
        intro m
        induction m with
        | zero => intro _; exact ⟨[], by simp, fun i z h => by simp at h⟩
        | succ m ih =>
          intro hm
          obtain ⟨zs, hz1, hz2⟩ := ih (by omega)
          have hg := hget m (by omega)
          rw [List.getElem?_eq_getElem (by omega)] at hg
          obtain ⟨cs, hc1, hc2⟩ := Option.bind_eq_some_iff.1 hg
          obtain ⟨hcl, hcg⟩ := cells_get hc1
          obtain ⟨ys, hys⟩ := hel n cs _ hcl hc2
          have hyl : ys.length = sz := by rw [← hcl, hys]; simp
          refine ⟨zs ++ ys, by rw [List.length_append, hz1, hyl, Nat.succ_mul], fun i z hi => ?_⟩
          by_cases hlt : i < zs.length
          · rw [List.getElem?_append_left hlt] at hi
            exact hz2 i z hi
          · rw [List.getElem?_append_right (by omega)] at hi
            have hj : i - zs.length < sz := by rw [← hyl]; exact (List.getElem?_eq_some_iff.1 hi).1
            have := hcg (i - zs.length) hj
            rw [hand_add, hand_add, hys, List.getElem?_map, hi] at this
            rw [show o + i = o + m * sz + (i - zs.length) by omega]
            simpa using this
      obtain ⟨zs, hz1, hz2⟩ := key len (Nat.le_refl _)
      exact ⟨b, o, len, cap, zs, rfl, h1, hb, hz1, hz2⟩

theorem trod_int_el {n : Nat} {e : TypeId} {cs : List Value} {x : DataW H × List MemPlace} (he : P.underlying e = some (.int .i64)) (h : DataW.trod enc P w base spare held n e cs = some x) : ∃ zs : List Int, cs = zs.map (Value.int .i64) := by
  obtain ⟨z, rfl, _⟩ := DataW.trod_int he h
  exact ⟨[z], rfl⟩

/-- A struct whose fields are integers of 64 bits, one cell each. -/
theorem trod_struct_el {n sz : Nat} {e : TypeId} {fs : Array Field} {cs : List Value} {x : DataW H × List MemPlace} (he : P.underlying e = some (.struct fs)) (hn : fs.size = sz) (hl : cs.length = sz)
    (hf : ∀ i, i < sz → ∃ f, fs[i]? = some f ∧ f.offset = i ∧ P.cellsOf f.type = 1 ∧ P.underlying f.type = some (.int .i64)) (h : DataW.trod enc P w base spare held n e cs = some x) : ∃ zs : List Int, cs = zs.map (Value.int .i64) := by
  obtain ⟨xs, m, _, _, _, hxl, hg⟩ := DataW.trod_struct he h
  have key : ∀ i, i < sz → ∃ z, cs[i]? = some (.int .i64 z) := by
    intro i hi
    obtain ⟨f, h1, h2, h3, h4⟩ := hf i hi
    have h5 := hg i f h1
    rw [h2, h3, List.getElem?_eq_getElem (by omega)] at h5
    obtain ⟨z, h6, _⟩ := DataW.trod_int h4 h5
    have h7 := congrArg (fun l => l[0]?) h6
    simp only [List.getElem?_take, List.getElem?_drop, Nat.add_zero, List.getElem?_cons_zero] at h7
    exact ⟨z, by simpa using h7⟩
  refine ⟨(List.range sz).map fun i => match (cs[i]? : Option Value) with | some (Value.int _ z) => z | _ => 0, ?_⟩
  apply List.ext_getElem?
  intro i
  by_cases hi : i < sz
  · obtain ⟨z, hz⟩ := key i hi
    simp [hi, hz]
  · rw [List.getElem?_eq_none (by omega)]
    simp [hi]

/-- .. as the machine's value. -/
theorem vr_slice {fz : Nat → Prop} {rf : RFt} {b o len cap : Nat} {zs : List Int} (h1 : len ≤ cap) (hb : fz b) (hz : ∀ (i : Nat) (z : Int), zs[i]? = some z → w.cell? ⟨b, o + i, none⟩ = some (.int .i64 z)) :
    VR fz w (.imm (zs.map (AV.int .i64)) len false) rf (.slice (some ⟨b, o, none⟩) len cap) := by
  simp only [VR]
  refine ⟨b, o, cap, rfl, h1, fun h => by simp at h, .inr ⟨hb, ?_⟩⟩
  rw [VRc_iff]
  intro i a hi
  rw [List.getElem?_map] at hi
  cases hz1 : zs[i]? with
  | none => rw [hz1] at hi; simp at hi
  | some z =>
    rw [hz1] at hi
    simp only [Option.map_some, Option.some.injEq] at hi
    subst hi
    exact ⟨_, hz i z hz1, rfl, by simp only [VR]⟩
end
end Go.AM
