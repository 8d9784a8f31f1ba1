/- Cells: reading and writing rows of them, in the machine and abstractly. Own work of this project. -/
import Derived.Test.YtikchlfbjdfioaaAmE
namespace Go.AM

theorem add_none (b o n : Nat) : (⟨b, o, none⟩ : Addr).add n = ⟨b, o + n, none⟩ := by
  unfold Addr.add
  split
  · subst_vars; rfl
  · rfl

section
variable {fz : Nat → Prop} {w : World} {rf : RFt}

theorem VRc_iff : ∀ (cells : List AV) (b o : Nat), VRc fz w cells rf b o ↔ ∀ (i : Nat) (a : AV), cells[i]? = some a → ∃ v, w.cell? ⟨b, o + i, none⟩ = some v ∧ v.oneCell' = true ∧ VR fz w a rf v
  | [], b, o => by simp [VRc]
  | x :: xs, b, o => by
    simp only [VRc, VRc_iff xs b (o + 1)]
    constructor
    · rintro ⟨h1, h2⟩ i a h
      cases i with
      | zero => simp at h; subst h; simpa using h1
      | succ i => simp at h; have := h2 i a h; rwa [show o + (i + 1) = o + 1 + i from by omega]
    · intro h
      refine ⟨by simpa using h 0 x (by simp), fun i a hi => ?_⟩
      have := h (i + 1) a (by simpa using hi)
      rwa [show o + 1 + i = o + (i + 1) from by omega]

theorem VRs_iff : ∀ (as : List AV) (vs : List Value), VRs fz w as rf vs ↔ as.length = vs.length ∧ ∀ (i : Nat) (a : AV) (v : Value), as[i]? = some a → vs[i]? = some v → VR fz w a rf v
  | [], vs => by simp [VRs]; constructor <;> intro h <;> simp_all [eq_comm]
  | x :: xs, vs => by
    simp only [VRs]
    constructor
    · rintro ⟨v, t, rfl, h1, h2⟩
      rw [VRs_iff] at h2
      refine ⟨by simp [h2.1], fun i a u h3 h4 => ?_⟩
      cases i with
      | zero => simp at h3 h4; subst h3; subst h4; exact h1
      | succ i => simp at h3 h4; exact h2.2 i a u h3 h4
    · rintro ⟨h1, h2⟩
      cases vs with
      | nil => simp at h1
      | cons v t =>
        refine ⟨v, t, rfl, h2 0 x v (by simp) (by simp), (VRs_iff xs t).2 ⟨by simpa using h1, fun i a u h3 h4 => h2 (i + 1) a u (by simpa using h3) (by simpa using h4)⟩⟩

theorem VRo_iff : ∀ (as : List AV) (vs : List Value), VRo fz w as rf vs ↔ as.length = vs.length ∧ ∀ (i : Nat) (a : AV) (v : Value), as[i]? = some a → vs[i]? = some v → v.oneCell' = true ∧ VR fz w a rf v
  | [], vs => by simp [VRo]; constructor <;> intro h <;> simp_all [eq_comm]
  | x :: xs, vs => by
    simp only [VRo]
    constructor
    · rintro ⟨v, t, rfl, h0, h1, h2⟩
      rw [VRo_iff] at h2
      refine ⟨by simp [h2.1], fun i a u h3 h4 => ?_⟩
      cases i with
      | zero => simp at h3 h4; subst h3; subst h4; exact ⟨h0, h1⟩
      | succ i => simp at h3 h4; exact h2.2 i a u h3 h4
    · rintro ⟨h1, h2⟩
      cases vs with
      | nil => simp at h1
      | cons v t =>
        obtain ⟨q1, q2⟩ := h2 0 x v (by simp) (by simp)
        refine ⟨v, t, rfl, q1, q2, (VRo_iff xs t).2 ⟨by simpa using h1, fun i a u h3 h4 => h2 (i + 1) a u (by simpa using h3) (by simpa using h4)⟩⟩

theorem VRs_length {as : List AV} {vs : List Value} (h : VRs fz w as rf vs) : as.length = vs.length := ((VRs_iff as vs).1 h).1
theorem VRo_length {as : List AV} {vs : List Value} (h : VRo fz w as rf vs) : as.length = vs.length := ((VRo_iff as vs).1 h).1
theorem VRs_get {as : List AV} {vs : List Value} (h : VRs fz w as rf vs) {i : Nat} {a : AV} (hi : as[i]? = some a) : ∃ v, vs[i]? = some v ∧ VR fz w a rf v := by
  obtain ⟨h1, h2⟩ := (VRs_iff as vs).1 h
  have hlt : i < vs.length := by rw [← h1]; exact (List.getElem?_eq_some_iff.1 hi).1
  exact ⟨vs[i], List.getElem?_eq_getElem hlt, h2 i a _ hi (List.getElem?_eq_getElem hlt)⟩
theorem VRo_get {as : List AV} {vs : List Value} (h : VRo fz w as rf vs) {i : Nat} {a : AV} (hi : as[i]? = some a) : ∃ v, vs[i]? = some v ∧ v.oneCell' = true ∧ VR fz w a rf v := by
  obtain ⟨h1, h2⟩ := (VRo_iff as vs).1 h
  have hlt : i < vs.length := by rw [← h1]; exact (List.getElem?_eq_some_iff.1 hi).1
  exact ⟨vs[i], List.getElem?_eq_getElem hlt, h2 i a _ hi (List.getElem?_eq_getElem hlt)⟩
theorem VRo_append {as bs : List AV} {vs us : List Value} (h : VRo fz w as rf vs) (k : VRo fz w bs rf us) : VRo fz w (as ++ bs) rf (vs ++ us) := by
  induction as generalizing vs with
  | nil => simp only [VRo] at h; subst h; exact k
  | cons a as ih =>
    simp only [VRo] at h
    obtain ⟨v, t, rfl, h0, h1, h2⟩ := h
    simp only [List.cons_append, VRo]
    exact ⟨v, _, rfl, h0, h1, ih h2⟩
theorem VRs_append {as bs : List AV} {vs us : List Value} (h : VRs fz w as rf vs) (k : VRs fz w bs rf us) : VRs fz w (as ++ bs) rf (vs ++ us) := by
  induction as generalizing vs with
  | nil => simp only [VRs] at h; subst h; exact k
  | cons a as ih =>
    simp only [VRs] at h
    obtain ⟨v, t, rfl, h1, h2⟩ := h
    simp only [List.cons_append, VRs]
    exact ⟨v, _, rfl, h1, ih h2⟩
theorem VRo_drop {as : List AV} {vs : List Value} (h : VRo fz w as rf vs) (n : Nat) : VRo fz w (as.drop n) rf (vs.drop n) := by
  rw [VRo_iff] at h ⊢
  exact ⟨by simp [h.1], fun i a v h1 h2 => h.2 (n + i) a v (by simpa [List.getElem?_drop] using h1) (by simpa [List.getElem?_drop] using h2)⟩
theorem VRo_take {as : List AV} {vs : List Value} (h : VRo fz w as rf vs) (n : Nat) : VRo fz w (as.take n) rf (vs.take n) := by
  rw [VRo_iff] at h ⊢
  refine ⟨by simp [h.1], fun i a v h1 h2 => ?_⟩
  rw [List.getElem?_take] at h1 h2
  split at h1
  · rename_i hlt; rw [if_pos hlt] at h2; exact h.2 i a v h1 h2
  · exact absurd h1 (by simp)

theorem VRc_get {cells : List AV} {b o : Nat} (h : VRc fz w cells rf b o) {i : Nat} {a : AV} (hi : cells[i]? = some a) :
    ∃ v, w.cell? ⟨b, o + i, none⟩ = some v ∧ v.oneCell' = true ∧ VR fz w a rf v := (VRc_iff cells b o).1 h i a hi

theorem window_get (cells : List AV) (off n i : Nat) : (window cells off n)[i]? = if i < n then cells[off + i]? else none := by
  unfold window
  rw [List.getElem?_take, List.getElem?_drop]
theorem window_length (cells : List AV) (off n : Nat) (h : off + n ≤ cells.length) : (window cells off n).length = n := by
  unfold window; simp; omega

theorem VRc_window {cells : List AV} {b o : Nat} (h : VRc fz w cells rf b o) (off n : Nat) : VRc fz w (window cells off n) rf b (o + off) := by
  rw [VRc_iff]
  intro i a hi
  rw [window_get] at hi
  split at hi
  · have := VRc_get h hi
    rwa [show o + off + i = o + (off + i) from by omega]
  · exact absurd hi (by simp)

theorem putC_length : ∀ (vs cs : List AV) (o : Nat), (putC cs o vs).length = cs.length
  | [], cs, o => rfl
  | v :: vs, cs, o => by simp only [putC, putC_length vs]; simp
theorem putC_get : ∀ (vs cs : List AV) (o i : Nat), o + vs.length ≤ cs.length → (putC cs o vs)[i]? = if o ≤ i ∧ i < o + vs.length then vs[i - o]? else cs[i]?
  | [], cs, o, i, _ => by simp only [putC]; rw [if_neg (by simp only [List.length_nil]; omega)]
  | v :: vs, cs, o, i, h => by
    simp only [putC]
    simp only [List.length_cons] at h ⊢
    rw [putC_get vs (cs.set o v) (o + 1) i (by simp; omega)]
    by_cases h1 : o + 1 ≤ i ∧ i < o + 1 + vs.length
    · rw [if_pos h1, if_pos (by omega), show i - o = (i - (o + 1)) + 1 from by omega, List.getElem?_cons_succ]
    · rw [if_neg h1]
      by_cases h2 : i = o
      · subst h2
        rw [if_pos (by omega), Nat.sub_self, List.getElem?_set_self (by omega)]
        rfl
      · rw [if_neg (by omega), List.getElem?_set_ne (by omega)]

/-! The machine's own reading and writing. -/
variable {P : Program}

theorem run_load_cell {b o : Nat} {v : Value} (h : w.cell? ⟨b, o, none⟩ = some v) (m : Mode) : (load ⟨b, o, none⟩ m).run P w = .ok v w := by
  simp [run_load, h]

theorem run_loadCellsFrom : ∀ (cells : List AV) (b o i : Nat) (acc : Array Value), VRc fz w cells rf b (o + i) →
    ∃ vs : List Value, (loadCellsFrom ⟨b, o, none⟩ i cells.length acc).run P w = .ok (acc ++ vs.toArray) w ∧ VRo fz w cells rf vs
  | [], b, o, i, acc, _ => ⟨[], by simp [loadCellsFrom], by simp [VRo]⟩
  | a :: as, b, o, i, acc, h => by
    simp only [VRc] at h
    obtain ⟨⟨v, h1, h2, h3⟩, h4⟩ := h
    obtain ⟨vs, h5, h6⟩ := run_loadCellsFrom as b o (i + 1) (acc.push v) (by rwa [show o + (i + 1) = o + i + 1 from by omega])
    refine ⟨v :: vs, ?_, by simp only [VRo]; exact ⟨v, vs, rfl, h2, h3, h6⟩⟩
    simp only [List.length_cons, loadCellsFrom, Sem.run_bind, add_none, run_load_cell h1, Result.andThen_ok, h5]
    congr 1
    simp

theorem run_loadCells {cells : List AV} {b o : Nat} (h : VRc fz w cells rf b o) :
    ∃ vs : List Value, (loadCells ⟨b, o, none⟩ cells.length).run P w = .ok vs.toArray w ∧ VRo fz w cells rf vs := by
  obtain ⟨vs, h1, h2⟩ := run_loadCellsFrom (P := P) cells b o 0 #[] (by simpa using h)
  exact ⟨vs, by simpa [loadCells] using h1, h2⟩

end

theorem heap_setCell (w : World) (b o k : Nat) (v : Value) : (w.setCell ⟨b, o, none⟩ v).heap[k]? = if k = b then (w.heap[b]?).map (fun
      | .cells c elem frozen => .cells (c.setIfInBounds o v) elem frozen
      | x => x) else w.heap[k]? := by
  simp only [World.setCell, Array.getElem?_modify]
  by_cases h : k = b
  · subst h
    simp
    cases w.heap[k]? <;> simp
    rename_i x
    cases x <;> rfl
  · rw [if_neg h, if_neg (Ne.symm h)]

/-- A row of cells is written: what the heap is then. -/
theorem run_storeCells {P : Program} : ∀ (vs : List Value) (w : World) (b o i : Nat) (cs : Array Value) (t : TypeId),
    w.heap[b]? = some (.cells cs t (0, 0)) → o + i + vs.length ≤ cs.size → (∀ v ∈ vs, v.oneCell' = true) →
    ∃ (w' : World) (cs' : Array Value), (storeCells ⟨b, o, none⟩ vs i).run P w = .ok () w' ∧ w'.heap[b]? = some (.cells cs' t (0, 0)) ∧ cs'.size = cs.size ∧
      (∀ j, cs'[j]? = if o + i ≤ j ∧ j < o + i + vs.length then vs[j - (o + i)]? else cs[j]?) ∧ (∀ k, k ≠ b → w'.heap[k]? = w.heap[k]?) ∧
      w'.heap.size = w.heap.size ∧ w'.os = w.os ∧ w'.tape = w.tape ∧ w'.output = w.output
  | [], w, b, o, i, cs, t, h, _, _ => ⟨w, cs, rfl, h, rfl, fun j => by rw [if_neg (by simp only [List.length_nil]; omega)], fun _ _ => rfl, rfl, rfl, rfl, rfl⟩
  | v :: vs, w, b, o, i, cs, t, h, hl, h1 => by
    simp only [List.length_cons] at hl ⊢
    have hv := h1 v (by simp)
    have hcell : w.cell? ⟨b, o + i, none⟩ = some (cs[o + i]'(by omega)) := by
      simp only [World.cell?, h]
      simp
    have hfr : w.frozen? ⟨b, o + i, none⟩ = false := by
      simp [World.frozen?, h]
    have hrun : (store ⟨b, o + i, none⟩ v).run P w = .ok () (w.setCell ⟨b, o + i, none⟩ v) := by
      rw [run_store P w _ v .plain hv, hcell]
      simp [hfr]
    have hh : (w.setCell ⟨b, o + i, none⟩ v).heap[b]? = some (.cells (cs.setIfInBounds (o + i) v) t (0, 0)) := by
      rw [heap_setCell, if_pos rfl, h]; rfl
    obtain ⟨w', cs', e1, e2, e3, e4, e5, e6, e7, e8, e9⟩ := run_storeCells (P := P) vs (w.setCell ⟨b, o + i, none⟩ v) b o (i + 1) _ t hh (by simp; omega) (fun u hu => h1 u (by simp [hu]))
    refine ⟨w', cs', ?_, e2, by simpa using e3, fun j => ?_, fun k hk => ?_, ?_, e7, e8, e9⟩
    · simp only [storeCells, add_none, Sem.run_bind, hrun, Result.andThen_ok, e1]
    · rw [e4 j]
      by_cases h2 : o + (i + 1) ≤ j ∧ j < o + (i + 1) + vs.length
      · rw [if_pos h2, if_pos (by omega), show j - (o + i) = (j - (o + (i + 1))) + 1 from by omega, List.getElem?_cons_succ]
      · rw [if_neg h2]
        by_cases h3 : j = o + i
        · subst h3
          rw [if_pos (by omega), Nat.sub_self, Array.getElem?_setIfInBounds_self_of_lt (by omega)]
          rfl
        · rw [if_neg (by omega)]
          rw [Array.getElem?_setIfInBounds_ne (by omega)]
    · rw [e5 k hk, heap_setCell, if_neg hk]
    · rw [e6]; simp [World.setCell]

end Go.AM
