/- New blocks, written blocks, frozen blocks; snapshots. Own work of this project. -/
import Derived.Test.YtikchlfbjdfioaaAmJ
namespace Go.AM
section
variable {P : Program} {E : Env} {g : Gh}

/-- The heap's list may be another one, if it reads the same. -/
theorem step_same (hI : Inv E g) {H : AHeap} (hH : ∀ j, hget H j = hget g.H j) : Inv E { g with H := H } ∧ Adv g { g with H := H } := by
  have hr : ∀ a v, RF g a v → RF { g with H := H } a v := by
    intro a v h
    cases a <;> simp only [RF, hH] at h ⊢ <;> exact h
  have hr' : ∀ st, ∀ a v, rfOf g st a v → rfOf { g with H := H } st a v := by
    intro st a v h
    cases st
    · exact hr a v h
    · exact h
    · exact h
    · exact h
  have hf : ∀ k, g.fz k → g.fz k ∧ g.w.heap[k]? = g.w.heap[k]? := fun k hk => ⟨hk, rfl⟩
  have hwr : ∀ k, wr { g with H := H } k → wr g k := by
    rintro k ⟨id, b, h1, h2, h3⟩
    rw [hH] at h1
    exact ⟨id, b, h1, h2, h3⟩
  refine ⟨⟨fun id b h => ?_, fun id id' b b' h h' => ?_, fun id b h => ?_, fun id b h => ?_, hI.lt, hI.glob⟩, ⟨fun a v h => ?_, rfl, rfl, rfl, Nat.le_refl _, fun _ _ _ => rfl, fun k hk => .inl (hwr k hk), fun _ h => h, fun _ h => .inl h⟩⟩
  · rw [hH] at h
    exact (hI.blk id b h).mono rfl rfl hf hr
  · rw [hH] at h h'; exact hI.inj id id' b b' h h'
  · rw [hH] at h; exact hI.opn id b h
  · rw [hH] at h; exact hI.frz id b h
  · exact VR.mono (K := fun _ => True) hf (fun a v _ h => hr a v h) a v (fun _ _ => trivial) h

/-- Cells out of a list of values: what lies there. -/
theorem VRc_of_cells {fz : Nat → Prop} {w : World} {rf : RFt} {cells : List AV} {c o : Nat} {cs : Array Value} {t : TypeId} (hh : w.heap[c]? = some (.cells cs t (0, 0)))
    (h : ∀ (i : Nat) (a : AV), cells[i]? = some a → ∃ v, cs[o + i]? = some v ∧ v.oneCell' = true ∧ VR fz w a rf v) : VRc fz w cells rf c o := by
  rw [VRc_iff]
  intro i a hi
  obtain ⟨v, h1, h2, h3⟩ := h i a hi
  exact ⟨v, by simpa [World.cell?, hh] using h1, h2, h3⟩

theorem cells_of_VRc {fz : Nat → Prop} {w : World} {rf : RFt} {cells : List AV} {c o : Nat} {cs : Array Value} {t : TypeId} (hh : w.heap[c]? = some (.cells cs t (0, 0)))
    (h : VRc fz w cells rf c o) (i : Nat) (a : AV) (hi : cells[i]? = some a) : ∃ v, cs[o + i]? = some v ∧ v.oneCell' = true ∧ VR fz w a rf v := by
  obtain ⟨v, h1, h2, h3⟩ := VRc_get h hi
  exact ⟨v, by simpa [World.cell?, hh] using h1, h2, h3⟩

/-- The state behind a new block. -/
noncomputable def Gh.new (g : Gh) (site : Nat) (st : BS) (cells : List AV) (w' : World) : Gh :=
  { mu := fun j => if j = site then (g.w.heap.size, 0) else g.mu j, fz := g.fz, H := hset g.H site ⟨st, cells⟩, w := w' }

theorem new_block (hI : Inv E g) {site : Nat} (hfree : hget g.H site = none) {st : BS} (hst : st.open_ = true) (hnm : st ≠ .mp) {cells : List AV} {cs : Array Value} {t : TypeId}
    (hcells : ∀ (i : Nat) (a : AV), cells[i]? = some a → ∃ v, cs[i]? = some v ∧ v.oneCell' = true ∧ VR g.fz g.w a (rfOf g st) v)
    {w' : World} (hh : w'.heap = g.w.heap.push (.cells cs t)) (hos : w'.os = g.w.os) (htape : w'.tape = g.w.tape) (hout : w'.output = g.w.output) :
    Inv E (g.new site st cells w') ∧ Adv g (g.new site st cells w') := by
  have hmu : ((g.new site st cells w').mu site) = (g.w.heap.size, 0) := by simp [Gh.new]
  refine step_block hI site ⟨st, cells⟩ rfl (fun j hj => by simp [Gh.new, hj]) (fun k => ?_) hos htape hout ?_ ?_ ?_ ?_ ?_ ?_ ?_ hnm (fun b hb => by rw [hfree] at hb; exact absurd hb (by simp))
  · simp [Gh.new, hst]
  · simp [Gh.new, hh]
  · intro k hk hne
    rw [hmu] at hne
    simp only [Gh.new, hh]
    rw [Array.getElem?_push, if_neg (by simpa using hne)]
  · rw [hmu]; exact .inr (Nat.le_refl _)
  · rw [hmu]; exact .inr (Nat.le_refl _)
  · intro b hb; rw [hfree] at hb; exact absurd hb (by simp)
  · rw [hmu]; simp [Gh.new, hh]
  · intro hvr hvn
    rw [hmu]
    refine ⟨cs, t, by simp [Gh.new, hh], ?_⟩
    refine VRc_of_cells (cs := cs) (t := t) (by simp [Gh.new, hh]) (fun i a hi => ?_)
    obtain ⟨v, h1, h2, h3⟩ := hcells i a hi
    refine ⟨v, by simpa using h1, h2, ?_⟩
    cases st
    · exact hvr a v h3
    · exact hvn a v h3
    · exact hvn a v h3
    · exact absurd rfl hnm

theorem new_get (site : Nat) (st : BS) (cells : List AV) (w' : World) : hget (g.new site st cells w').H site = some ⟨st, cells⟩ := by
  simp [Gh.new, hget_hset]

/-- The state behind a write into a block. -/
noncomputable def Gh.put (g : Gh) (id : Nat) (b : Blk) (w' : World) : Gh := { g with H := hset g.H id b, w := w' }

theorem rf_step {g g' : Gh} (hvr : ∀ a v, g.R a v → g'.R a v) (hvn : ∀ a v, VR g.fz g.w a noRef v → VR g'.fz g'.w a noRef v) (st : BS) {a : AV} {v : Value}
    (h : VR g.fz g.w a (rfOf g st) v) : VR g'.fz g'.w a (rfOf g' st) v := by
  cases st
  · exact hvr a v h
  · exact hvn a v h
  · exact hvn a v h
  · exact hvn a v h

theorem write_block (hI : Inv E g) {id : Nat} {b : Blk} (h : hget g.H id = some b) (ho : b.st.open_ = true) (hnm : b.st ≠ .mp) {off : Nat} {vs : List AV} {us : List Value} (hle : off + vs.length ≤ b.cells.length)
    (hvs : VRo g.fz g.w vs (rfOf g b.st) us) :
    ∃ w', (storeCells ⟨(g.mu id).1, (g.mu id).2 + off, none⟩ us).run P g.w = .ok () w' ∧ Inv E (g.put id ⟨b.st, putC b.cells off vs⟩ w') ∧ Adv g (g.put id ⟨b.st, putC b.cells off vs⟩ w') := by
  obtain ⟨cs, t, h1, h2⟩ := (hI.blk id b h).cells hnm
  have hlen := VRo_length hvs
  by_cases h0 : vs.length = 0
  · -- nothing is written
    have e1 : vs = [] := List.length_eq_zero_iff.1 h0
    subst e1
    have e2 : us = [] := List.length_eq_zero_iff.1 (by simpa using hlen.symm)
    subst e2
    refine ⟨g.w, rfl, ?_⟩
    have hsame : ∀ j, hget (hset g.H id ⟨b.st, b.cells⟩) j = hget g.H j := by
      intro j
      rw [hget_hset]
      split
      · rename_i hj; subst hj; exact h.symm
      · rfl
    exact step_same hI hsame
  · have hb := VRc_bsz h2 (by omega)
    have hbs : bsz g.w (g.mu id).1 = cs.size := by simp [bsz, h1]
    rw [hbs] at hb
    obtain ⟨w', cs', e1, e2, e3, e4, e5, e6, e7, e8, e9⟩ := run_storeCells (P := P) us g.w (g.mu id).1 ((g.mu id).2 + off) 0 cs t h1 (by omega) (fun v hv => by
      obtain ⟨i, hi⟩ := List.getElem?_of_mem hv
      have := (VRo_iff vs us).1 hvs
      have hlt : i < vs.length := by rw [hlen]; exact (List.getElem?_eq_some_iff.1 hi).1
      exact (this.2 i _ v (List.getElem?_eq_getElem hlt) hi).1)
    refine ⟨w', e1, ?_⟩
    have hbsz : bsz w' (g.mu id).1 = bsz g.w (g.mu id).1 := by rw [hbs]; simp [bsz, e2, e3]
    refine step_block (g' := g.put id ⟨b.st, putC b.cells off vs⟩ w') hI id ⟨b.st, putC b.cells off vs⟩ rfl (fun _ _ => rfl) (fun k => ?_) e7 e8 e9 (by simp [Gh.put, e6]) (fun k _ hk => e5 k hk) (.inl ⟨b, h, ho, rfl⟩) (.inl hbsz) ?_ ?_ ?_ hnm (fun b1 hb1 => by rw [h] at hb1; obtain rfl := Option.some.inj hb1; exact hnm)
    · simp [Gh.put, ho]
    · intro b1 hb1
      rw [h] at hb1; obtain rfl := Option.some.inj hb1
      exact ⟨ho, by simp [putC_length], fun _ => ⟨rfl, hbsz⟩⟩
    · have := (Array.getElem?_eq_some_iff.1 h1).1
      simp only [Gh.put, e6]; exact this
    · intro hvr hvn
      refine ⟨cs', t, e2, VRc_of_cells e2 (fun i a hi => ?_)⟩
      rw [putC_get vs b.cells off i hle] at hi
      have e4' := e4 ((g.mu id).2 + i)
      by_cases hr : off ≤ i ∧ i < off + vs.length
      · rw [if_pos hr] at hi
        obtain ⟨v, q1, q2, q3⟩ := VRo_get hvs hi
        refine ⟨v, ?_, q2, rf_step hvr hvn b.st q3⟩
        show cs'[(g.mu id).2 + i]? = some v
        rw [e4', if_pos (by omega), show (g.mu id).2 + i - ((g.mu id).2 + off + 0) = i - off from by omega]
        exact q1
      · rw [if_neg hr] at hi
        obtain ⟨v, q1, q2, q3⟩ := cells_of_VRc h1 h2 i a hi
        refine ⟨v, ?_, q2, rf_step hvr hvn b.st q3⟩
        show cs'[(g.mu id).2 + i]? = some v
        rw [e4', if_neg (by omega)]
        exact q1

/-! ### What is flat -/
theorem flat_ok {a : AV} (h : a.flat = true) {fz : Nat → Prop} {w : World} {rf rf' : RFt} {v : Value} (hv : VR fz w a rf v) : VR fz w a rf' v := by
  cases a <;> simp only [AV.flat] at h <;> try (simp at h; done)
  all_goals first
    | (simpa only [VR] using hv; done)
    | skip
  rename_i f caps
  cases caps with
  | nil => simpa only [VR, VRs] using hv
  | cons c cs => simp at h

/-! ### Snapshots -/
mutual
theorem snap_ok (hI : Inv E g) {fz' : Nat → Prop} (hfz : ∀ k, g.fz k → fz' k) : ∀ (d : Nat) (a a' : AV) (V : List Nat), (snap d a).run g.H = some (a', V) → (∀ id ∈ V, fz' (g.mu id).1) →
    ∀ v, g.R a v → VR fz' g.w a' noRef v ∧ (v.oneCell' = true → v.oneCell' = true)
  | 0, a, a', V, h, hV, v, hv => by simp [snap, Rd.run] at h
  | d + 1, a, a', V, h, hV, v, hv => by
    have hf : ∀ k, g.fz k → fz' k ∧ g.w.heap[k]? = g.w.heap[k]? := fun k hk => ⟨hfz k hk, rfl⟩
    have hn : ∀ {u : AV} {x : Value}, VR g.fz g.w u noRef x → VR fz' g.w u noRef x := fun {u x} hx => VR.mono (K := fun _ => True) hf (fun _ _ _ h => h) u x (fun _ _ => trivial) hx
    refine ⟨?_, fun h => h⟩
    cases a <;> simp only [snap] at h
    all_goals try (simp only [Rd.run, Option.some.injEq, Prod.mk.injEq] at h; obtain ⟨rfl, rfl⟩ := h; exact hn (flat_ok (by rfl) hv); done)
    · -- agg
      rename_i vs
      obtain ⟨⟨xs, V2⟩, h1, h2⟩ := Rd.run_bind_some h
      simp only [Rd.run, Option.some.injEq, Prod.mk.injEq] at h2
      obtain ⟨rfl, rfl⟩ := h2
      simp only [Gh.R, VR] at hv
      obtain ⟨A, rfl, hA⟩ := hv
      obtain ⟨hl, hs⟩ := snaps_ok hI hfz d vs xs V2 h1 hV
      simp only [VR]
      refine ⟨A, rfl, ?_⟩
      rw [VRo_iff] at hA ⊢
      refine ⟨hl.trans hA.1, fun i a u q1 q2 => ?_⟩
      have hlt : i < vs.length := by rw [← hl]; exact (List.getElem?_eq_some_iff.1 q1).1
      obtain ⟨r1, r2⟩ := hA.2 i _ u (List.getElem?_eq_getElem hlt) q2
      exact ⟨r1, hs i _ _ (List.getElem?_eq_getElem hlt) q1 u r2⟩
    · -- tup
      rename_i vs
      obtain ⟨⟨xs, V2⟩, h1, h2⟩ := Rd.run_bind_some h
      simp only [Rd.run, Option.some.injEq, Prod.mk.injEq] at h2
      obtain ⟨rfl, rfl⟩ := h2
      simp only [Gh.R, VR] at hv
      obtain ⟨A, rfl, hA⟩ := hv
      obtain ⟨hl, hs⟩ := snaps_ok hI hfz d vs xs V2 h1 hV
      simp only [VR]
      refine ⟨A, rfl, ?_⟩
      rw [VRs_iff] at hA ⊢
      refine ⟨hl.trans hA.1, fun i a u q1 q2 => ?_⟩
      have hlt : i < vs.length := by rw [← hl]; exact (List.getElem?_eq_some_iff.1 q1).1
      exact hs i _ _ (List.getElem?_eq_getElem hlt) q1 u (hA.2 i _ u (List.getElem?_eq_getElem hlt) q2)
    · -- ref
      rename_i id off len cap gl sz ex
      obtain ⟨b, h1, h2⟩ := Rd.run_bind_some h
      obtain ⟨k1, k2, o, cap', rfl, c0, c1, c2, c3⟩ := live_ref hv h1
      split at h2
      · rename_i hle
        have hnm := liveBlk_st h1
        have hcells := blk_cells hI k1 hnm
        have himm : ∀ (cells : List AV), fz' (g.mu id).1 → (cap' ≠ 0 → VRc fz' g.w cells noRef (g.mu id).1 o) → VR fz' g.w (.imm cells len (ex && decide (cap = len))) noRef (.slice (some ⟨(g.mu id).1, o, none⟩) len cap') := by
          intro cells q1 q2
          simp only [VR]
          refine ⟨_, o, cap', rfl, c0, ?_, ?_⟩
          · simp only [Bool.and_eq_true, decide_eq_true_eq]
            rintro ⟨q3, q4⟩
            rw [c2 q3, q4]
          · by_cases h0 : cap' = 0
            · exact .inl h0
            · exact .inr ⟨q1, q2 h0⟩
        cases hs : b.st <;> rw [hs] at h2 <;> simp only at h2
        · obtain ⟨⟨xs, V2⟩, h3, h4⟩ := Rd.run_bind_some h2
          simp only [Rd.run, Option.some.injEq, Prod.mk.injEq] at h4
          obtain ⟨rfl, rfl⟩ := h4
          obtain ⟨hl, hs2⟩ := snaps_ok hI hfz d _ xs V2 h3 (fun i hi => hV i (by simp [hi]))
          refine himm xs (hV id (by simp)) (fun h0 => ?_)
          have hw := VRc_window hcells off (len * sz)
          rw [← (c3.resolve_left h0).1] at hw
          rw [VRc_iff] at hw ⊢
          intro i a q1
          have hlt : i < (window b.cells off (len * sz)).length := by
            have : (window b.cells off (len * sz)).length = xs.length := hl.symm
            rw [this]; exact (List.getElem?_eq_some_iff.1 q1).1
          obtain ⟨u, r1, r2, r3⟩ := hw i _ (List.getElem?_eq_getElem hlt)
          rw [hs] at r3
          exact ⟨u, r1, r2, hs2 i _ _ (List.getElem?_eq_getElem hlt) q1 u r3⟩
        all_goals
          simp only [Rd.run, Option.some.injEq, Prod.mk.injEq] at h2
          obtain ⟨rfl, rfl⟩ := h2
          refine himm _ (hV id (by simp)) (fun h0 => ?_)
          have hw := VRc_window hcells off (len * sz)
          rw [← (c3.resolve_left h0).1, hs] at hw
          exact VRc.mono (K := fun _ => True) hf (fun _ _ _ h => h) _ _ _ rfl (fun _ _ => trivial) hw
      · simp [Rd.run] at h2
    · -- ptr
      rename_i id off gl
      obtain ⟨b, h1, h2⟩ := Rd.run_bind_some h
      obtain ⟨k1, k2, rfl⟩ := live_ptr hv h1
      have hnm := liveBlk_st h1
      have hcells := blk_cells hI k1 hnm
      cases hs : b.st <;> rw [hs] at h2 <;> simp only at h2
      · obtain ⟨⟨xs, V2⟩, h3, h4⟩ := Rd.run_bind_some h2
        simp only [Rd.run, Option.some.injEq, Prod.mk.injEq] at h4
        obtain ⟨rfl, rfl⟩ := h4
        obtain ⟨hl, hs2⟩ := snaps_ok hI hfz d _ xs V2 h3 (fun i hi => hV i (by simp [hi]))
        simp only [VR]
        refine ⟨_, _, rfl, hV id (by simp), ?_⟩
        rw [VRc_iff] at hcells ⊢
        intro i a q1
        have hlt : i < b.cells.length := by rw [← hl]; exact (List.getElem?_eq_some_iff.1 q1).1
        obtain ⟨u, r1, r2, r3⟩ := hcells i _ (List.getElem?_eq_getElem hlt)
        rw [hs] at r3
        exact ⟨u, r1, r2, hs2 i _ _ (List.getElem?_eq_getElem hlt) q1 u r3⟩
      all_goals
        simp only [Rd.run, Option.some.injEq, Prod.mk.injEq] at h2
        obtain ⟨rfl, rfl⟩ := h2
        simp only [VR]
        refine ⟨_, _, rfl, hV id (by simp), ?_⟩
        rw [hs] at hcells
        exact VRc.mono (K := fun _ => True) hf (fun _ _ _ h => h) _ _ _ rfl (fun _ _ => trivial) hcells
    · -- clo
      rename_i f vs
      obtain ⟨⟨xs, V2⟩, h1, h2⟩ := Rd.run_bind_some h
      simp only [Rd.run, Option.some.injEq, Prod.mk.injEq] at h2
      obtain ⟨rfl, rfl⟩ := h2
      simp only [Gh.R, VR] at hv
      obtain ⟨A, rfl, hA⟩ := hv
      obtain ⟨hl, hs⟩ := snaps_ok hI hfz d vs xs V2 h1 hV
      simp only [VR]
      refine ⟨A, rfl, ?_⟩
      rw [VRs_iff] at hA ⊢
      refine ⟨hl.trans hA.1, fun i a u q1 q2 => ?_⟩
      have hlt : i < vs.length := by rw [← hl]; exact (List.getElem?_eq_some_iff.1 q1).1
      exact hs i _ _ (List.getElem?_eq_getElem hlt) q1 u (hA.2 i _ u (List.getElem?_eq_getElem hlt) q2)
    · simp [Rd.run] at h
    · simp [Rd.run] at h
    · simp [Rd.run] at h
theorem snaps_ok (hI : Inv E g) {fz' : Nat → Prop} (hfz : ∀ k, g.fz k → fz' k) : ∀ (d : Nat) (as as' : List AV) (V : List Nat), (snaps d as).run g.H = some (as', V) → (∀ id ∈ V, fz' (g.mu id).1) →
    as'.length = as.length ∧ ∀ (i : Nat) (a a' : AV), as[i]? = some a → as'[i]? = some a' → ∀ v, g.R a v → VR fz' g.w a' noRef v
  | 0, as, as', V, h, hV => by simp [snaps, Rd.run] at h
  | d + 1, [], as', V, h, hV => by
    simp only [snaps, Rd.run, Option.some.injEq, Prod.mk.injEq] at h
    obtain ⟨rfl, rfl⟩ := h
    exact ⟨rfl, fun i a a' h1 => by simp at h1⟩
  | d + 1, a :: as, as', V, h, hV => by
    simp only [snaps] at h
    obtain ⟨⟨x, V1⟩, h1, h2⟩ := Rd.run_bind_some h
    obtain ⟨⟨y, V2⟩, h3, h4⟩ := Rd.run_bind_some h2
    simp only [Rd.run, Option.some.injEq, Prod.mk.injEq] at h4
    obtain ⟨rfl, rfl⟩ := h4
    have q1 := snap_ok hI hfz d a x V1 h1 (fun i hi => hV i (by simp [hi]))
    obtain ⟨q2, q3⟩ := snaps_ok hI hfz d as y V2 h3 (fun i hi => hV i (by simp [hi]))
    refine ⟨by simp [q2], fun i u u' e1 e2 v hv => ?_⟩
    cases i with
    | zero => simp at e1 e2; subst e1; subst e2; exact (q1 v hv).1
    | succ i => simp at e1 e2; exact q3 i u u' e1 e2 v hv
end

end
end Go.AM
