/- States of a run: what holds in each, and how one goes on to another one. Own work of this project. -/
import Derived.Test.YtikchlfbjdfioaaAmD
namespace Go.AM

/-- A state: where the blocks lie, what nobody writes any more, the blocks, the world. -/
structure Gh where
  mu : Nat → Nat × Nat
  fz : Nat → Prop
  H : AHeap
  w : World

def RF (g : Gh) : RFt
  | .ref id off len cap gl sz ex, v => ∃ b, hget g.H id = some b ∧ gl ≤ b.cells.length ∧
      (gl = b.cells.length → ∃ o cap' : Nat, v = .slice (some ⟨(g.mu id).1, o, none⟩) len cap' ∧ len ≤ cap' ∧ cap ≤ cap' ∧ (ex = true → cap' = cap) ∧
        (cap' = 0 ∨ (o = (g.mu id).2 + off ∧ o + cap' * sz ≤ bsz g.w (g.mu id).1)))
  | .ptr id off gl, v => ∃ b, hget g.H id = some b ∧ gl ≤ b.cells.length ∧
      (gl = b.cells.length → v = .pointer (some ⟨(g.mu id).1, (g.mu id).2 + off, none⟩))
  | .mapv id, v => ∃ b, hget g.H id = some b ∧ b.st = .mp ∧ v = .map (some (g.mu id).1)
  | _, _ => False

abbrev Gh.R (g : Gh) (a : AV) (v : Value) : Prop := VR g.fz g.w a (RF g) v
abbrev Gh.Rs (g : Gh) (as : List AV) (vs : List Value) : Prop := VRs g.fz g.w as (RF g) vs

def rfOf (g : Gh) : BS → RFt
  | .box => RF g
  | _ => noRef

/-- A map's entries, by keys and what they hold; all of them plain; each was born at its place. -/
def MapR : Nat → List AV → List MapEntry → Prop
  | _, [], [] => True
  | i, k :: v :: cs, e :: es => (e.born = i ∧ k.leads = false ∧ v.leads = false ∧ v.oneCellA = true ∧ (∀ fz w rf, VR fz w k rf e.key) ∧ ∀ fz w rf, VR fz w v rf e.val) ∧ MapR (i + 1) cs es
  | _, _, _ => False
/-- How a block lies in the machine's memory. -/
def Lies (g : Gh) (id : Nat) (b : Blk) : Prop :=
  match b.st with
  | .mp => ∃ es, g.w.heap[(g.mu id).1]? = some (.map es es.size) ∧ MapR 0 b.cells es.toList
  | st => ∃ cs t, g.w.heap[(g.mu id).1]? = some (.cells cs t (0, 0)) ∧ VRc g.fz g.w b.cells (rfOf g st) (g.mu id).1 (g.mu id).2
theorem Lies.lt {g : Gh} {id : Nat} {b : Blk} (h : Lies g id b) : (g.mu id).1 < g.w.heap.size := by
  unfold Lies at h
  split at h
  · obtain ⟨_, h, _⟩ := h; exact (Array.getElem?_eq_some_iff.1 h).1
  · obtain ⟨_, _, h, _⟩ := h; exact (Array.getElem?_eq_some_iff.1 h).1
theorem Lies.cells {g : Gh} {id : Nat} {b : Blk} (h : Lies g id b) (hs : b.st ≠ .mp) : ∃ cs t, g.w.heap[(g.mu id).1]? = some (.cells cs t (0, 0)) ∧ VRc g.fz g.w b.cells (rfOf g b.st) (g.mu id).1 (g.mu id).2 := by
  unfold Lies at h
  split at h
  · rename_i hst; exact absurd hst hs
  · exact h
theorem lies_of {g : Gh} {id : Nat} {b : Blk} (hs : b.st ≠ .mp) (h : ∃ cs t, g.w.heap[(g.mu id).1]? = some (.cells cs t (0, 0)) ∧ VRc g.fz g.w b.cells (rfOf g b.st) (g.mu id).1 (g.mu id).2) : Lies g id b := by
  unfold Lies
  split
  · rename_i hst; exact absurd hst hs
  · exact h
theorem lies_map {g : Gh} {id : Nat} {b : Blk} (hs : b.st = .mp) (h : ∃ es, g.w.heap[(g.mu id).1]? = some (.map es es.size) ∧ MapR 0 b.cells es.toList) : Lies g id b := by
  unfold Lies; rw [hs]; exact h
theorem Lies.map {g : Gh} {id : Nat} {b : Blk} (h : Lies g id b) (hs : b.st = .mp) : ∃ es, g.w.heap[(g.mu id).1]? = some (.map es es.size) ∧ MapR 0 b.cells es.toList := by
  unfold Lies at h; rw [hs] at h; exact h
/-- From one state to another one: the block's place and what is there stay. -/
theorem Lies.mono {g g' : Gh} {id : Nat} {b : Blk} (h : Lies g id b) (hmu : g'.mu id = g.mu id) (hh : g'.w.heap[(g.mu id).1]? = g.w.heap[(g.mu id).1]?) (hf : ∀ k, g.fz k → g'.fz k ∧ g'.w.heap[k]? = g.w.heap[k]?) (hr : ∀ a v, RF g a v → RF g' a v) : Lies g' id b := by
  by_cases hs : b.st = .mp
  · obtain ⟨es, h1, h2⟩ := h.map hs
    exact lies_map hs ⟨es, by rw [hmu, hh]; exact h1, h2⟩
  · obtain ⟨cs, t, h1, h2⟩ := h.cells hs
    refine lies_of hs ⟨cs, t, by rw [hmu, hh]; exact h1, ?_⟩
    rw [hmu]
    refine VRc.mono (K := fun _ => True) hf (fun a v _ h => ?_) _ _ _ hh (fun _ _ => trivial) h2
    cases hb : b.st <;> rw [hb] at h <;> first | exact hr a v h | exact h

/-- The blocks of the machine that this call may write. -/
def wr (g : Gh) (k : Nat) : Prop := ∃ id b, hget g.H id = some b ∧ b.st.open_ = true ∧ (g.mu id).1 = k

structure Inv (E : Env) (g : Gh) : Prop where
  blk : ∀ id b, hget g.H id = some b → Lies g id b
  inj : ∀ id id' b b', hget g.H id = some b → hget g.H id' = some b' → id ≠ id' → (g.mu id).1 ≠ (g.mu id').1
  opn : ∀ id b, hget g.H id = some b → b.st.open_ = true → ¬ g.fz (g.mu id).1
  frz : ∀ id b, hget g.H id = some b → b.st.open_ = false → g.fz (g.mu id).1
  lt : ∀ k, g.fz k → k < g.w.heap.size
  glob : ∀ k cells, E.glob k = some cells → g.fz k ∧ VRc g.fz g.w cells noRef k 0

structure Adv (g g' : Gh) : Prop where
  vr : ∀ a v, g.R a v → g'.R a v
  os : g'.w.os = g.w.os
  tape : g'.w.tape = g.w.tape
  out : g'.w.output = g.w.output
  size : g.w.heap.size ≤ g'.w.heap.size
  old : ∀ k, k < g.w.heap.size → ¬ wr g k → g'.w.heap[k]? = g.w.heap[k]?
  wr' : ∀ k, wr g' k → wr g k ∨ g.w.heap.size ≤ k
  fz' : ∀ k, g.fz k → g'.fz k
  fz2 : ∀ k, g'.fz k → g.fz k ∨ wr g k ∨ g.w.heap.size ≤ k

theorem Adv.refl (g : Gh) : Adv g g :=
  ⟨fun _ _ h => h, rfl, rfl, rfl, Nat.le_refl _, fun _ _ _ => rfl, fun _ h => .inl h, fun _ h => h, fun _ h => .inl h⟩

theorem Adv.trans {a b c : Gh} (h : Adv a b) (k : Adv b c) : Adv a c where
  vr x v hx := k.vr x v (h.vr x v hx)
  os := k.os.trans h.os
  tape := k.tape.trans h.tape
  out := k.out.trans h.out
  size := Nat.le_trans h.size k.size
  old i hi hw := by
    rw [k.old i (Nat.lt_of_lt_of_le hi h.size) (fun hb => (h.wr' i hb).elim hw (fun h2 => by omega)), h.old i hi hw]
  wr' i hi := by
    rcases k.wr' i hi with h1 | h1
    · exact h.wr' i h1
    · exact .inr (Nat.le_trans h.size h1)
  fz' i hi := k.fz' i (h.fz' i hi)
  fz2 i hi := by
    rcases k.fz2 i hi with h1 | h1 | h1
    · exact h.fz2 i h1
    · rcases h.wr' i h1 with h2 | h2
      · exact .inr (.inl h2)
      · exact .inr (.inr h2)
    · exact .inr (.inr (Nat.le_trans h.size h1))

/-- A run that keeps the heap as it is, in a world that differs in draws alone. -/
theorem Adv.draw {g : Gh} (w' : World) (h1 : w'.heap = g.w.heap) (h2 : w'.os = g.w.os) (h3 : w'.tape = g.w.tape) (h4 : w'.output = g.w.output) :
    Adv g { g with w := w' } := by
  have hb : ∀ c, bsz w' c = bsz g.w c := fun c => by simp only [bsz, h1]
  have hr : ∀ a v, RF g a v → RF { g with w := w' } a v := by
    intro a v h
    cases a <;> simp only [RF] at h ⊢ <;> first | exact h | skip
    simpa only [hb] using h
  exact ⟨fun a v h => VR.mono (K := fun _ => True) (fun k hk => ⟨hk, by rw [h1]⟩) (fun a v _ => hr a v) a v (fun _ _ => trivial) h, h2, h3, h4, by simp only [h1]; exact Nat.le_refl _,
    fun k _ _ => by simp only [h1], fun k hk => .inl hk, fun k hk => hk, fun k hk => .inl hk⟩

theorem Inv.draw {E : Env} {g : Gh} (hI : Inv E g) (w' : World) (h1 : w'.heap = g.w.heap) : Inv E { g with w := w' } := by
  have hb : ∀ c, bsz w' c = bsz g.w c := fun c => by simp only [bsz, h1]
  have hr : ∀ a v, RF g a v → RF { g with w := w' } a v := by
    intro a v h
    cases a <;> simp only [RF] at h ⊢ <;> first | exact h | skip
    simpa only [hb] using h
  have hf : ∀ k, g.fz k → g.fz k ∧ w'.heap[k]? = g.w.heap[k]? := fun k hk => ⟨hk, by rw [h1]⟩
  refine ⟨fun id b h => ?_, hI.inj, hI.opn, hI.frz, fun k hk => by simp only [h1]; exact hI.lt k hk, fun k cells h => ?_⟩
  · exact (hI.blk id b h).mono rfl (by simp only [h1]) hf hr
  · obtain ⟨h2, h3⟩ := hI.glob k cells h
    exact ⟨h2, VRc.mono (K := fun _ => True) hf (fun a v _ h => h) _ _ _ (by simp only [h1]) (fun _ _ => trivial) h3⟩

/-- ONE BLOCK CHANGES: a new one, one that is written, grown, or frozen. c: where it lies then. -/
theorem step_block' {E : Env} {g g' : Gh} (hI : Inv E g) (id : Nat) (b' : Blk) (hH : g'.H = hset g.H id b')
    (hmu : ∀ j, j ≠ id → g'.mu j = g.mu j)
    (hfz : ∀ k, g'.fz k ↔ (g.fz k ∨ (b'.st.open_ = false ∧ k = (g'.mu id).1)))
    (hos : g'.w.os = g.w.os) (htape : g'.w.tape = g.w.tape) (hout : g'.w.output = g.w.output) (hsize : g.w.heap.size ≤ g'.w.heap.size)
    (hw : ∀ k, k < g.w.heap.size → k ≠ (g'.mu id).1 → g'.w.heap[k]? = g.w.heap[k]?)
    (hc : (∃ b, hget g.H id = some b ∧ b.st.open_ = true ∧ (g.mu id).1 = (g'.mu id).1) ∨ g.w.heap.size ≤ (g'.mu id).1)
    (hb : bsz g'.w (g'.mu id).1 = bsz g.w (g'.mu id).1 ∨ g.w.heap.size ≤ (g'.mu id).1)
    (hold : ∀ b, hget g.H id = some b → (b.st = .mp → b'.st = .mp ∧ (g'.mu id).1 = (g.mu id).1) ∧ b.st.open_ = true ∧ b.cells.length ≤ b'.cells.length ∧ (b.cells.length = b'.cells.length → g'.mu id = g.mu id ∧ bsz g'.w (g.mu id).1 = bsz g.w (g.mu id).1))
    (hlt : (g'.mu id).1 < g'.w.heap.size)
    (hcell : (∀ a v, g.R a v → g'.R a v) → (∀ a v, VR g.fz g.w a noRef v → VR g'.fz g'.w a noRef v) → Lies g' id b') :
    Inv E g' ∧ Adv g g' := by
  have hget' : ∀ j, hget g'.H j = if j = id then some b' else hget g.H j := fun j => by rw [hH]; exact hget_hset g.H id b' j
  -- the place isn't frozen yet
  have hnf : ¬ g.fz (g'.mu id).1 := by
    rcases hc with ⟨b, h1, h2, h3⟩ | h1
    · rw [← h3]; exact hI.opn id b h1 h2
    · intro h; have := hI.lt _ h; omega
  have hf : ∀ k, g.fz k → g'.fz k ∧ g'.w.heap[k]? = g.w.heap[k]? := fun k hk =>
    ⟨(hfz k).2 (.inl hk), hw k (hI.lt k hk) (fun e => hnf (e ▸ hk))⟩
  -- the other blocks lie elsewhere
  have hother : ∀ j b, j ≠ id → hget g.H j = some b → (g.mu j).1 ≠ (g'.mu id).1 := by
    intro j b hj h e
    rcases hc with ⟨b0, h1, h2, h3⟩ | h1
    · exact hI.inj j id b b0 h h1 hj (e.trans h3.symm)
    · have := (hI.blk j b h).lt
      omega
  have hblt : ∀ j b, hget g.H j = some b → (g.mu j).1 < g.w.heap.size := by
    intro j b h
    exact (hI.blk j b h).lt
  have hrf : ∀ a v, RF g a v → RF g' a v := by
    intro a v h
    cases a <;> simp only [RF] at h ⊢ <;> try exact h
    · rename_i i off len cap gl sz ex
      obtain ⟨b, h1, h2, h3⟩ := h
      by_cases hi : i = id
      · subst hi
        obtain ⟨_, q1, q2, q3⟩ := hold b h1
        refine ⟨b', by rw [hget', if_pos rfl], by omega, fun e => ?_⟩
        obtain ⟨e1, e2⟩ := q3 (by omega)
        rw [e1, e2]
        exact h3 (by omega)
      · refine ⟨b, by rw [hget', if_neg hi]; exact h1, h2, fun e => ?_⟩
        have hh := hw (g.mu i).1 (hblt i b h1) (hother i b hi h1)
        have e2 : bsz g'.w (g.mu i).1 = bsz g.w (g.mu i).1 := by simp only [bsz, hh]
        rw [hmu i hi, e2]
        exact h3 e
    · rename_i i off gl
      obtain ⟨b, h1, h2, h3⟩ := h
      by_cases hi : i = id
      · subst hi
        obtain ⟨_, q1, q2, q3⟩ := hold b h1
        refine ⟨b', by rw [hget', if_pos rfl], by omega, fun e => ?_⟩
        obtain ⟨e1, e2⟩ := q3 (by omega)
        rw [e1]
        exact h3 (by omega)
      · exact ⟨b, by rw [hget', if_neg hi]; exact h1, h2, fun e => by rw [hmu i hi]; exact h3 e⟩
    · rename_i i
      obtain ⟨b, h1, h2, h3⟩ := h
      by_cases hi : i = id
      · subst hi
        obtain ⟨q0, _⟩ := hold b h1
        obtain ⟨q1, q2⟩ := q0 h2
        exact ⟨b', by rw [hget', if_pos rfl], q1, by rw [q2]; exact h3⟩
      · exact ⟨b, by rw [hget', if_neg hi]; exact h1, h2, by rw [hmu i hi]; exact h3⟩
  have hvr : ∀ a v, g.R a v → g'.R a v := fun a v h => VR.mono (K := fun _ => True) hf (fun a v _ => hrf a v) a v (fun _ _ => trivial) h
  have hvn : ∀ a v, VR g.fz g.w a noRef v → VR g'.fz g'.w a noRef v := fun a v h => VR.mono (K := fun _ => True) hf (fun a v _ h => h) a v (fun _ _ => trivial) h
  have hcc := hcell hvr hvn
  refine ⟨⟨?_, ?_, ?_, ?_, ?_, ?_⟩, ⟨hvr, hos, htape, hout, hsize, ?_, ?_, fun k hk => (hf k hk).1, ?_⟩⟩
  · intro j b h
    rw [hget'] at h
    by_cases hj : j = id
    · subst hj
      rw [if_pos rfl] at h
      obtain rfl := Option.some.inj h
      exact hcc
    · rw [if_neg hj] at h
      exact (hI.blk j b h).mono (hmu j hj) (hw (g.mu j).1 (hblt j b h) (hother j b hj h)) hf hrf
  · intro j j' b1 b2 h1 h2 hne
    rw [hget'] at h1 h2
    by_cases hj : j = id
    · subst hj
      have hj' : j' ≠ j := Ne.symm hne
      rw [if_neg hj'] at h2
      rw [hmu j' hj']
      exact fun e => hother j' b2 hj' h2 e.symm
    · rw [if_neg hj] at h1
      by_cases hj' : j' = id
      · subst hj'
        rw [hmu j hj]
        exact hother j b1 hj h1
      · rw [if_neg hj'] at h2
        rw [hmu j hj, hmu j' hj']
        exact hI.inj j j' b1 b2 h1 h2 hne
  · intro j b h ho hz
    rw [hget'] at h
    by_cases hj : j = id
    · subst hj
      rw [if_pos rfl] at h
      obtain rfl := Option.some.inj h
      rcases (hfz _).1 hz with h1 | ⟨h1, _⟩
      · exact hnf h1
      · rw [ho] at h1; exact absurd h1 (by simp)
    · rw [if_neg hj] at h
      rw [hmu j hj] at hz
      rcases (hfz _).1 hz with h1 | ⟨_, h1⟩
      · exact hI.opn j b h ho h1
      · exact hother j b hj h h1
  · intro j b h ho
    rw [hget'] at h
    by_cases hj : j = id
    · subst hj
      rw [if_pos rfl] at h
      obtain rfl := Option.some.inj h
      exact (hfz _).2 (.inr ⟨ho, rfl⟩)
    · rw [if_neg hj] at h
      rw [hmu j hj]
      exact (hfz _).2 (.inl (hI.frz j b h ho))
  · intro k hk
    rcases (hfz k).1 hk with h1 | ⟨_, h1⟩
    · exact Nat.lt_of_lt_of_le (hI.lt k h1) hsize
    · rw [h1]; exact hlt
  · intro k cells h
    obtain ⟨h1, h2⟩ := hI.glob k cells h
    exact ⟨(hf k h1).1, VRc.mono (K := fun _ => True) hf (fun a v _ h => h) _ _ _ (hf k h1).2 (fun _ _ => trivial) h2⟩
  · intro k hk hnw
    by_cases hkc : k = (g'.mu id).1
    · subst hkc
      rcases hc with ⟨b, h1, h2, h3⟩ | h1
      · exact absurd ⟨id, b, h1, h2, h3⟩ hnw
      · omega
    · exact hw k hk hkc
  · rintro k ⟨j, b, h, ho, e⟩
    rw [hget'] at h
    by_cases hj : j = id
    · subst hj
      rcases hc with ⟨b0, h1, h2, h3⟩ | h1
      · exact .inl ⟨j, b0, h1, h2, h3.trans e⟩
      · exact .inr (by omega)
    · rw [if_neg hj] at h
      rw [hmu j hj] at e
      exact .inl ⟨j, b, h, ho, e⟩
  · intro k hk
    rcases (hfz k).1 hk with h1 | ⟨_, h1⟩
    · exact .inl h1
    · rcases hc with ⟨b0, h2, h3, h4⟩ | h2
      · exact .inr (.inl ⟨id, b0, h2, h3, by rw [h4, h1]⟩)
      · exact .inr (.inr (by omega))

theorem step_block {E : Env} {g g' : Gh} (hI : Inv E g) (id : Nat) (b' : Blk) (hH : g'.H = hset g.H id b')
    (hmu : ∀ j, j ≠ id → g'.mu j = g.mu j)
    (hfz : ∀ k, g'.fz k ↔ (g.fz k ∨ (b'.st.open_ = false ∧ k = (g'.mu id).1)))
    (hos : g'.w.os = g.w.os) (htape : g'.w.tape = g.w.tape) (hout : g'.w.output = g.w.output) (hsize : g.w.heap.size ≤ g'.w.heap.size)
    (hw : ∀ k, k < g.w.heap.size → k ≠ (g'.mu id).1 → g'.w.heap[k]? = g.w.heap[k]?)
    (hc : (∃ b, hget g.H id = some b ∧ b.st.open_ = true ∧ (g.mu id).1 = (g'.mu id).1) ∨ g.w.heap.size ≤ (g'.mu id).1)
    (hb : bsz g'.w (g'.mu id).1 = bsz g.w (g'.mu id).1 ∨ g.w.heap.size ≤ (g'.mu id).1)
    (hold : ∀ b, hget g.H id = some b → b.st.open_ = true ∧ b.cells.length ≤ b'.cells.length ∧ (b.cells.length = b'.cells.length → g'.mu id = g.mu id ∧ bsz g'.w (g.mu id).1 = bsz g.w (g.mu id).1))
    (hlt : (g'.mu id).1 < g'.w.heap.size)
    (hcell : (∀ a v, g.R a v → g'.R a v) → (∀ a v, VR g.fz g.w a noRef v → VR g'.fz g'.w a noRef v) → ∃ cs t, g'.w.heap[(g'.mu id).1]? = some (.cells cs t (0, 0)) ∧ VRc g'.fz g'.w b'.cells (rfOf g' b'.st) (g'.mu id).1 (g'.mu id).2)
    (hmp : b'.st ≠ .mp) (hno : ∀ b, hget g.H id = some b → b.st ≠ .mp) : Inv E g' ∧ Adv g g' :=
  step_block' hI id b' hH hmu hfz hos htape hout hsize hw hc hb (fun b h => ⟨fun e => absurd e (hno b h), hold b h⟩) hlt (fun h1 h2 => lies_of hmp (hcell h1 h2))

end Go.AM
