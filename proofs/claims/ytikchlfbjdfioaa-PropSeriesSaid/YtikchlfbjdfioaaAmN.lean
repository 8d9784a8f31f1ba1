/- Slices out of parts, append, copy, clear. Own work of this project. -/
import Derived.Test.YtikchlfbjdfioaaAmM
namespace Go.AM
section
variable {P : Program} {E : Env} {g : Gh}

theorem elem_ok (hE : EnvOK P E) {t e : TypeId} (h : elemT E.T t = some e) : P.underlying t = some (.slice e) := by
  unfold elemT at h
  split at h
  · rename_i e' _ _ _ hT
    obtain rfl := Option.some.inj h
    exact kind_slice hE hT
  · exact absurd h (by simp)
theorem zeroCells_ok (g : Gh) (hE : EnvOK P E) {t : TypeId} {z : List AV} (h : zeroCells E.T t = some z) :
    ∃ i inf zv, E.T t = some i ∧ P.info? t = some inf ∧ inf.zero = some zv ∧ inf.size = i.size ∧ inf.bytes = i.bytes ∧ zv.cells.size = z.length ∧ ∀ fz w rf, VRo fz w z rf zv.cells.toList := by
  unfold zeroCells at h
  split at h
  · rename_i i hi
    obtain ⟨inf, zv, h⟩ := zero_ok g hE hi h
    exact ⟨i, inf, zv, hi, h⟩
  · exact absurd h (by simp)

theorem buildSlice_ok (hE : EnvOK P E) (hI : Inv E g) {ρ : Operand → AV} {ρv : Operand → Value} (hρ : ∀ x, g.R (ρ x) (ρv x)) {t : TypeId} {site len : Nat} {parts : Array (Nat × Operand)} {x : AV × Ups}
    (h : (aBuildSlice E.T site t len ρ parts.toList).run g.H = some x) : Done E g x ((Instr.buildSlice t len (parts.map fun p => (p.1, ρv p.2))).run P g.w) := by
  unfold aBuildSlice at h
  split at h
  · simp [Rd.run] at h
  · rename_i e he
    have hu := elem_ok hE he
    split at h
    · rename_i sz z hs hz
      obtain ⟨i, inf, zv, hTe, h1, h2, h3, h4, h5, h6⟩ := zeroCells_ok g hE hz
      obtain ⟨inf', h1', hsz⟩ := tsz_ok hE hs
      rw [h1] at h1'; obtain rfl := Option.some.inj h1'
      split at h
      · rename_i hb
        obtain ⟨b1, b2, b3⟩ := hb
        split at h
        · simp [Rd.run] at h
        · rename_i ps hps
          split at h
          · simp [Rd.run] at h
          · rename_i cells hf
            obtain ⟨⟨xs, V⟩, m1, m2⟩ := Rd.run_bind_some h
            obtain ⟨us, m3, m4⟩ := Rd.run_bind_some m2
            obtain ⟨us2, m5, m6⟩ := Rd.run_bind_some m4
            obtain ⟨m7, rfl⟩ := fresh_run m5
            simp only [Rd.run, Option.some.injEq] at m6; subst m6
            have hZ := zeros_ok (h6 g.fz g.w (RF g)) (by omega) len
            rw [h5, b1] at hZ
            obtain ⟨C', q1, q2⟩ := fill_ok hρ _ parts.toList ps (repC z len) cells _ hps hf hZ
            obtain ⟨g1, d1, d2, d3, d4, d5, d6, d7, d8, d9⟩ := frz_ok hI m3
            obtain ⟨s1, s2⟩ := snaps_ok hI (fz' := g1.fz) d5.fz' 200 cells xs V m1 d6
            have hxs := snapsO s1 s2 q2
            rw [← d1] at hxs
            have hfree : hget g1.H site = none := by
              rw [d7 site ?_]; exact m7
              intro hin
              obtain ⟨b, hb⟩ := d8 site hin
              rw [m7] at hb; exact absurd hb (by simp)
            have hrun : (Instr.buildSlice t len (parts.map fun p => (p.1, ρv p.2))).run P g.w = .ok (.slice (some ⟨g.w.heap.size, 0, none⟩) len len)
                { g.w with heap := g.w.heap.push (.cells C' e) } := by
              simp only [Instr.buildSlice, Sem.run_bind, run_under hu, Result.andThen_ok, run_size h1, hsz]
              rw [if_neg (by omega)]
              simp only [Sem.run_ite, Sem.run_bind, Sem.run_pure, Result.andThen_ok, Array.toList_map]
              by_cases h0 : len * sz = 0
              · have hl : len = 0 := by
                  rcases Nat.mul_eq_zero.1 h0 with h | h
                  · exact h
                  · omega
                subst hl
                have e1 : (Array.range (0 * sz)).map (fun j => zv.cells[j % sz]!) = #[] := by simp [show Array.range 0 = #[] from rfl]
                rw [e1] at q1
                simp only [if_pos h0, Result.andThen_ok, show Array.map (fun x => (#[] : Array Value)[x % (#[] : Array Value).size]!) (Array.range (0 * sz)) = #[] from by simp [show Array.range 0 = #[] from rfl], q1, newRow, Sem.run_bind, run_newObj, Sem.run_pure]
              · simp only [if_neg h0, zeroValue, Sem.run_bind, run_info h1, Result.andThen_ok, h2, Sem.run_pure, h5, b1, q1, newRow, run_newObj]
            have hs := new_cells (t := e) (rest := []) (cs := C') d4 hfree ⟨_, hxs, by simp⟩ (w' := { g.w with heap := g.w.heap.push (.cells C' e) }) (by rw [d1]) (by rw [d1]) (by rw [d1]) (by rw [d1])
            refine ⟨_, _, hrun, ?_, hs.1, d5.trans hs.2, ?_⟩
            · rw [upds_append, ← d3]; rfl
            · have hl := VRo_length q2
              have hR := row_R (g := g1) (site := site) (cells := xs) (len := len) (cap := len) (cap' := len) (sz := sz) (ex := false) (w' := { g.w with heap := g.w.heap.push (.cells C' e) })
                (Nat.le_refl _) (Nat.le_refl _) (fun _ => rfl) (.inr (by
                  rw [d1]
                  simp only [bsz, Array.getElem?_push_size]
                  have : ∀ (cells cells' : List AV) (ps : List (Option (Nat × Nat) × List AV)), fillA cells ps = some cells' → cells'.length = cells.length := by
                    intro cells cells' ps
                    induction ps generalizing cells with
                    | nil => intro h; simp only [fillA, Option.some.injEq] at h; rw [h]
                    | cons p ps ih =>
                      obtain ⟨pl, vs⟩ := p
                      intro h
                      simp only [fillA] at h
                      split at h
                      · exact absurd h (by simp)
                      · split at h
                        · exact absurd h (by simp)
                        · rw [ih _ h, putC_length]
                  have := this _ _ _ hf
                  rw [repC_length, b1] at this
                  simp only [Array.length_toList] at hl
                  omega))
              rw [d1] at hR
              exact hR
      · simp [Rd.run] at h
    · simp [Rd.run] at h

/-! ### append -/
theorem flat_cells {fz : Nat → Prop} {w : World} {rf rf' : RFt} {cells : List AV} {b o : Nat} (h : cells.all AV.flat = true) (hc : VRc fz w cells rf b o) : VRc fz w cells rf' b o := by
  rw [VRc_iff] at hc ⊢
  intro i a hi
  obtain ⟨v, h1, h2, h3⟩ := hc i a hi
  exact ⟨v, h1, h2, flat_ok (List.all_eq_true.1 h a (List.mem_of_getElem? hi)) h3⟩

theorem src_ok (hI : Inv E g) {sz n : Nat} {x : AV} {xv : Value} {cells : List AV} (h : (srcOf sz x).run g.H = some (n, cells)) (hx : g.R x xv) :
    ∃ (ao : Option Addr) (c : Nat) (vs : List Value), xv = .slice ao n c ∧ cells.length = n * sz ∧ VRo g.fz g.w cells noRef vs ∧ (Builtin.firstCells sz n xv).run P g.w = .ok vs.toArray g.w := by
  cases x <;> simp only [srcOf] at h <;> try (simp [Rd.run] at h; done)
  · -- nil
    simp only [Rd.run, Option.some.injEq, Prod.mk.injEq] at h
    obtain ⟨rfl, rfl⟩ := h
    simp only [Gh.R, VR] at hx
    subst hx
    exact ⟨none, 0, [], rfl, by simp, by simp [VRo], by simp [Builtin.firstCells]⟩
  · -- imm
    rename_i cs len ex
    split at h
    · rename_i hl
      simp only [Rd.run, Option.some.injEq, Prod.mk.injEq] at h
      obtain ⟨rfl, rfl⟩ := h
      simp only [Gh.R, VR] at hx
      obtain ⟨b, o, cap, rfl, h1, h2, h3⟩ := hx
      by_cases h0 : cs.length = 0
      · have : cs = [] := List.length_eq_zero_iff.1 h0
        subst this
        refine ⟨_, _, [], rfl, hl, by simp [VRo], ?_⟩
        simp only [Builtin.firstCells]
        rw [show len * sz = 0 from by rw [← hl]; rfl]
        rfl
      · have hc : VRc g.fz g.w cs noRef b o := by
          rcases h3 with h3 | h3
          · exfalso
            have : len = 0 := by omega
            subst this
            simp at hl; exact h0 (by simp [hl])
          · exact h3.2
        obtain ⟨vs, e1, e2⟩ := run_loadCells (P := P) hc
        exact ⟨_, _, vs, rfl, hl, e2, by simp only [Builtin.firstCells]; rw [← hl]; exact e1⟩
    · simp [Rd.run] at h
  · -- ref
    rename_i id off len cap gl s ex
    split at h
    · rename_i hs; subst hs
      obtain ⟨bl, k1, k2⟩ := Rd.run_bind_some h
      obtain ⟨q1, q2, o, cap', rfl, c0, c1, c2, c3⟩ := live_ref hx k1
      have hnm := liveBlk_st k1
      have hcells := blk_cells hI q1 hnm
      have main : ∀ (hst : rfOf g bl.st = noRef), (if off + len * s ≤ bl.cells.length then (Rd.pure (len, window bl.cells off (len * s)) : Rd (Nat × List AV)) else .fail).run g.H = some (n, cells) →
          ∃ (ao : Option Addr) (c : Nat) (vs : List Value), Value.slice (some ⟨(g.mu id).1, o, none⟩) len cap' = .slice ao n c ∧ cells.length = n * s ∧ VRo g.fz g.w cells noRef vs ∧ (Builtin.firstCells s n (.slice (some ⟨(g.mu id).1, o, none⟩) len cap')).run P g.w = .ok vs.toArray g.w := by
        intro hst k2
        split at k2
        · rename_i hle
          simp only [Rd.run, Option.some.injEq, Prod.mk.injEq] at k2
          obtain ⟨rfl, rfl⟩ := k2
          have hwl := window_length bl.cells off (len * s) hle
          by_cases h0 : cap' = 0
          · have hl0 : len = 0 := by omega
            subst hl0
            refine ⟨_, _, [], rfl, by rw [hwl], ?_, by simp [Builtin.firstCells, loadCells, loadCellsFrom]⟩
            have : window bl.cells off (0 * s) = [] := List.length_eq_zero_iff.1 (by rw [hwl]; simp)
            rw [this]; simp [VRo]
          · have hw := VRc_window hcells off (len * s)
            rw [← (c3.resolve_left h0).1, hst] at hw
            obtain ⟨vs, e1, e2⟩ := run_loadCells (P := P) hw
            rw [hwl] at e1
            exact ⟨_, _, vs, rfl, hwl, e2, e1⟩
        · simp [Rd.run] at k2
      cases hst : bl.st <;> rw [hst] at k2 <;> simp only at k2
      · split at k2
        · rename_i hle
          simp only [Rd.run, Option.some.injEq, Prod.mk.injEq] at k2
          obtain ⟨rfl, rfl⟩ := k2
          have hwl := window_length bl.cells off (len * s) hle.1
          by_cases h0 : cap' = 0
          · have hl0 : len = 0 := by omega
            subst hl0
            refine ⟨_, _, [], rfl, by rw [hwl], ?_, by simp [Builtin.firstCells, loadCells, loadCellsFrom]⟩
            have : window bl.cells off (0 * s) = [] := List.length_eq_zero_iff.1 (by rw [hwl]; simp)
            rw [this]; simp [VRo]
          · have hw := flat_cells hle.2 (rf' := noRef) (VRc_window hcells off (len * s))
            rw [← (c3.resolve_left h0).1] at hw
            obtain ⟨vs, e1, e2⟩ := run_loadCells (P := P) hw
            rw [hwl] at e1
            exact ⟨_, _, vs, rfl, hwl, e2, e1⟩
        · simp [Rd.run] at k2
      · exact main (by rw [hst]; rfl) k2
      · exact main (by rw [hst]; rfl) k2
      · exact absurd hst hnm
    · simp [Rd.run] at h

end
end Go.AM
