/- What comes back of a call that was handed snapshots. Own work of this project. -/
import Derived.Test.YtikchlfbjdfioaaAmP
namespace Go.AM
section
variable {P : Program} {E : Env} {g : Gh}

/-! ### A value that leads nowhere -/
mutual
theorem noleads_ok {fz fz' : Nat → Prop} {w w' : World} {rf rf' : RFt} : ∀ (a : AV) (v : Value), a.leads = false → VR fz w a rf v → VR fz' w' a rf' v
  | .int .., _, _, h => by simpa only [VR] using h
  | .bool .., _, _, h => by simpa only [VR] using h
  | .str .., _, _, h => by simpa only [VR] using h
  | .nilsl, _, _, h => by simpa only [VR] using h
  | .nilptr, _, _, h => by simpa only [VR] using h
  | .nilfunc, _, _, h => by simpa only [VR] using h
  | .nilmap, _, _, h => by simpa only [VR] using h
  | .agg vs, _, hl, h => by
    simp only [VR] at h ⊢; obtain ⟨a, e, h⟩ := h
    exact ⟨a, e, noleadsO_ok vs _ (by simpa only [AV.leads] using hl) h⟩
  | .tup vs, _, hl, h => by
    simp only [VR] at h ⊢; obtain ⟨a, e, h⟩ := h
    exact ⟨a, e, noleadsS_ok vs _ (by simpa only [AV.leads] using hl) h⟩
  | .clo .., _, hl, _ => by simp [AV.leads] at hl
  | .imm .., _, hl, _ => by simp [AV.leads] at hl
  | .iptr .., _, hl, _ => by simp [AV.leads] at hl
  | .ref .., _, hl, _ => by simp [AV.leads] at hl
  | .ptr .., _, hl, _ => by simp [AV.leads] at hl
  | .any, _, hl, _ => by simp [AV.leads] at hl
theorem noleadsS_ok {fz fz' : Nat → Prop} {w w' : World} {rf rf' : RFt} : ∀ (as : List AV) (vs : List Value), AV.leads.leadsL as = false → VRs fz w as rf vs → VRs fz' w' as rf' vs
  | [], _, _, h => by simpa only [VRs] using h
  | a :: as, _, hl, h => by
    simp only [AV.leads.leadsL, Bool.or_eq_false_iff] at hl
    simp only [VRs] at h ⊢; obtain ⟨v, t, e, h1, h2⟩ := h
    exact ⟨v, t, e, noleads_ok a v hl.1 h1, noleadsS_ok as t hl.2 h2⟩
theorem noleadsO_ok {fz fz' : Nat → Prop} {w w' : World} {rf rf' : RFt} : ∀ (as : List AV) (vs : List Value), AV.leads.leadsL as = false → VRo fz w as rf vs → VRo fz' w' as rf' vs
  | [], _, _, h => by simpa only [VRo] using h
  | a :: as, _, hl, h => by
    simp only [AV.leads.leadsL, Bool.or_eq_false_iff] at hl
    simp only [VRo] at h ⊢; obtain ⟨v, t, e, h0, h1, h2⟩ := h
    exact ⟨v, t, e, h0, noleads_ok a v hl.1 h1, noleadsO_ok as t hl.2 h2⟩
end

mutual
theorem imp_flat {Hc : AHeap} {site : Nat → Nat} : ∀ (d : Nat) (a : AV) (s : List Nat) (u : Ups) (x : AV × List Nat × Ups), a.leads = false → imp Hc site d a s u = some x → x = (a, s, u)
  | 0, _, _, _, _, _, h => by simp [imp] at h
  | d + 1, a, s, u, x, hl, h => by
    cases a <;> simp only [AV.leads] at hl <;> try (simp at hl; done)
    all_goals simp only [imp] at h
    case agg vs =>
      cases hi : imps Hc site d vs s u with
      | none => rw [hi] at h; simp at h
      | some y =>
        rw [hi] at h
        have := imps_flat d vs s u y hl hi
        subst this
        simp only [Option.some.injEq] at h; exact h.symm
    case tup vs =>
      cases hi : imps Hc site d vs s u with
      | none => rw [hi] at h; simp at h
      | some y =>
        rw [hi] at h
        have := imps_flat d vs s u y hl hi
        subst this
        simp only [Option.some.injEq] at h; exact h.symm
    all_goals (simp only [Option.some.injEq] at h; exact h.symm)
theorem imps_flat {Hc : AHeap} {site : Nat → Nat} : ∀ (d : Nat) (as : List AV) (s : List Nat) (u : Ups) (x : List AV × List Nat × Ups), AV.leads.leadsL as = false → imps Hc site d as s u = some x → x = (as, s, u)
  | 0, _, _, _, _, _, h => by simp [imps] at h
  | d + 1, [], s, u, x, _, h => by simp only [imps, Option.some.injEq] at h; exact h.symm
  | d + 1, a :: as, s, u, x, hl, h => by
    simp only [AV.leads.leadsL, Bool.or_eq_false_iff] at hl
    simp only [imps] at h
    cases h1 : imp Hc site d a s u with
    | none => rw [h1] at h; simp at h
    | some y =>
      rw [h1] at h
      have := imp_flat d a s u y hl.1 h1
      subst this
      simp only at h
      cases h2 : imps Hc site d as s u with
      | none => rw [h2] at h; simp at h
      | some z =>
        rw [h2] at h
        have := imps_flat d as s u z hl.2 h2
        subst this
        simp only [Option.some.injEq] at h; exact h.symm
end

/-! ### Rows that are taken over -/
def Par (g1 : Gh) : List Nat → Ups → Prop
  | [], [] => True
  | id :: is, p :: ps => (hget g1.H id = some p.2 ∧ p.2.st = .row) ∧ Par g1 is ps
  | _, _ => False
def Links (g1 g2 : Gh) : List Nat → Ups → Prop
  | [], [] => True
  | id :: is, p :: ps => (hget g1.H id = some p.2 ∧ hget g2.H p.1 = some p.2 ∧ g2.mu p.1 = g1.mu id) ∧ Links g1 g2 is ps
  | _, _ => False

mutual
theorem imp_par {g1 : Gh} {site : Nat → Nat} : ∀ (d : Nat) (a a' : AV) (s s' : List Nat) (u u' : Ups), imp g1.H site d a s u = some (a', s', u') → Par g1 s u ∧ s.Nodup → Par g1 s' u' ∧ s'.Nodup
  | 0, _, _, _, _, _, _, h, _ => by simp [imp] at h
  | d + 1, a, a', s, s', u, u', h, hp => by
    cases a
    case agg vs =>
      simp only [imp] at h
      cases hi : imps g1.H site d vs s u with
      | none => rw [hi] at h; simp at h
      | some y =>
        obtain ⟨xs, s2, u2⟩ := y
        rw [hi] at h; simp only [Option.some.injEq, Prod.mk.injEq] at h
        obtain ⟨_, rfl, rfl⟩ := h
        exact imps_par d vs xs s s2 u u2 hi hp
    case tup vs =>
      simp only [imp] at h
      cases hi : imps g1.H site d vs s u with
      | none => rw [hi] at h; simp at h
      | some y =>
        obtain ⟨xs, s2, u2⟩ := y
        rw [hi] at h; simp only [Option.some.injEq, Prod.mk.injEq] at h
        obtain ⟨_, rfl, rfl⟩ := h
        exact imps_par d vs xs s s2 u u2 hi hp
    case clo f caps =>
      cases caps with
      | nil => simp only [imp, Option.some.injEq, Prod.mk.injEq] at h; obtain ⟨_, rfl, rfl⟩ := h; exact hp
      | cons c cs =>
        simp only [imp] at h
        split at h
        · simp only [Option.some.injEq, Prod.mk.injEq] at h; obtain ⟨_, rfl, rfl⟩ := h; exact hp
        · exact absurd h (by simp)
    case ref id off len cap gl sz ex =>
      simp only [imp] at h
      split at h
      · rename_i b hb
        split at h
        · rename_i hst
          split at h
          · rename_i hc
            simp only [Option.some.injEq, Prod.mk.injEq] at h
            obtain ⟨_, rfl, rfl⟩ := h
            exact ⟨⟨⟨hb, hst⟩, hp.1⟩, List.nodup_cons.2 ⟨hc.2, hp.2⟩⟩
          · exact absurd h (by simp)
        · split at h
          · simp only [Option.some.injEq, Prod.mk.injEq] at h; obtain ⟨_, rfl, rfl⟩ := h; exact hp
          · exact absurd h (by simp)
        · exact absurd h (by simp)
      · exact absurd h (by simp)
    case ptr => simp [imp] at h
    case any => simp [imp] at h
    case mapv => simp [imp] at h
    case bnd => simp [imp] at h
    all_goals (simp only [imp, Option.some.injEq, Prod.mk.injEq] at h; obtain ⟨_, rfl, rfl⟩ := h; exact hp)
theorem imps_par {g1 : Gh} {site : Nat → Nat} : ∀ (d : Nat) (as as' : List AV) (s s' : List Nat) (u u' : Ups), imps g1.H site d as s u = some (as', s', u') → Par g1 s u ∧ s.Nodup → Par g1 s' u' ∧ s'.Nodup
  | 0, _, _, _, _, _, _, h, _ => by simp [imps] at h
  | d + 1, [], _, s, _, u, _, h, hp => by simp only [imps, Option.some.injEq, Prod.mk.injEq] at h; obtain ⟨_, rfl, rfl⟩ := h; exact hp
  | d + 1, a :: as, _, s, _, u, _, h, hp => by
    simp only [imps] at h
    cases h1 : imp g1.H site d a s u with
    | none => rw [h1] at h; simp at h
    | some y =>
      obtain ⟨x, s2, u2⟩ := y
      rw [h1] at h
      simp only at h
      cases h2 : imps g1.H site d as s2 u2 with
      | none => rw [h2] at h; simp at h
      | some z =>
        obtain ⟨xs, s3, u3⟩ := z
        rw [h2] at h
        simp only [Option.some.injEq, Prod.mk.injEq] at h; obtain ⟨_, rfl, rfl⟩ := h
        exact imps_par d as xs s2 s3 u2 u3 h2 (imp_par d a x s s2 u u2 h1 hp)
end

mutual
theorem imp_ok {g1 g2 : Gh} (hI1 : Inv E g1) (hw : g2.w = g1.w) (hfz : ∀ k, g1.fz k → g2.fz k) {site : Nat → Nat} : ∀ (d : Nat) (a a' : AV) (s s' : List Nat) (u u' : Ups), imp g1.H site d a s u = some (a', s', u') → Links g1 g2 s' u' →
    Links g1 g2 s u ∧ ∀ v, g1.R a v → g2.R a' v
  | 0, _, _, _, _, _, _, h, _ => by simp [imp] at h
  | d + 1, a, a', s, s', u, u', h, hl => by
    have hf : ∀ k, g1.fz k → g2.fz k ∧ g2.w.heap[k]? = g1.w.heap[k]? := fun k hk => ⟨hfz k hk, by rw [hw]⟩
    cases a
    case agg vs =>
      simp only [imp] at h
      cases hi : imps g1.H site d vs s u with
      | none => rw [hi] at h; simp at h
      | some y =>
        obtain ⟨xs, s2, u2⟩ := y
        rw [hi] at h; simp only [Option.some.injEq, Prod.mk.injEq] at h
        obtain ⟨rfl, rfl, rfl⟩ := h
        obtain ⟨k1, k2, k3⟩ := imps_ok hI1 hw hfz d vs xs s s2 u u2 hi hl
        refine ⟨k1, fun v hv => ?_⟩
        simp only [Gh.R, VR] at hv ⊢
        obtain ⟨A, rfl, hA⟩ := hv
        refine ⟨A, rfl, ?_⟩
        rw [VRo_iff] at hA ⊢
        refine ⟨k2.trans hA.1, fun i a v q1 q2 => ?_⟩
        have hlt : i < vs.length := by rw [← k2]; exact (List.getElem?_eq_some_iff.1 q1).1
        obtain ⟨r1, r2⟩ := hA.2 i _ v (List.getElem?_eq_getElem hlt) q2
        exact ⟨r1, k3 i _ _ (List.getElem?_eq_getElem hlt) q1 v r2⟩
    case tup vs =>
      simp only [imp] at h
      cases hi : imps g1.H site d vs s u with
      | none => rw [hi] at h; simp at h
      | some y =>
        obtain ⟨xs, s2, u2⟩ := y
        rw [hi] at h; simp only [Option.some.injEq, Prod.mk.injEq] at h
        obtain ⟨rfl, rfl, rfl⟩ := h
        obtain ⟨k1, k2, k3⟩ := imps_ok hI1 hw hfz d vs xs s s2 u u2 hi hl
        refine ⟨k1, fun v hv => ?_⟩
        simp only [Gh.R, VR] at hv ⊢
        obtain ⟨A, rfl, hA⟩ := hv
        refine ⟨A, rfl, ?_⟩
        rw [VRs_iff] at hA ⊢
        refine ⟨k2.trans hA.1, fun i a v q1 q2 => ?_⟩
        have hlt : i < vs.length := by rw [← k2]; exact (List.getElem?_eq_some_iff.1 q1).1
        exact k3 i _ _ (List.getElem?_eq_getElem hlt) q1 v (hA.2 i _ v (List.getElem?_eq_getElem hlt) q2)
    case clo f caps =>
      cases caps with
      | nil =>
        simp only [imp, Option.some.injEq, Prod.mk.injEq] at h; obtain ⟨rfl, rfl, rfl⟩ := h
        exact ⟨hl, fun v hv => by simpa only [Gh.R, VR, VRs] using hv⟩
      | cons c cs =>
        simp only [imp] at h
        split at h
        · rename_i hfl
          simp only [Option.some.injEq, Prod.mk.injEq] at h; obtain ⟨rfl, rfl, rfl⟩ := h
          refine ⟨hl, fun v hv => ?_⟩
          simp only [Gh.R, VR] at hv ⊢
          obtain ⟨A, e, hA⟩ := hv
          refine ⟨A, e, ?_⟩
          rw [VRs_iff] at hA ⊢
          refine ⟨hA.1, fun i a u q1 q2 => ?_⟩
          have hfa : a.flat = true := List.all_eq_true.1 hfl a (List.mem_of_getElem? q1)
          exact R_of_noRef (VR.mono (K := fun _ => True) hf (fun _ _ _ h => h) _ u (fun _ _ => trivial) (flat_ok (rf' := noRef) hfa (hA.2 i a u q1 q2)))
        · exact absurd h (by simp)
    case ref id off len cap gl sz ex =>
      simp only [imp] at h
      split at h
      · rename_i b hb
        split at h
        · rename_i hst
          split at h
          · rename_i hc
            simp only [Option.some.injEq, Prod.mk.injEq] at h
            obtain ⟨rfl, rfl, rfl⟩ := h
            obtain ⟨⟨l1, l2, l3⟩, l4⟩ := hl
            refine ⟨l4, fun v hv => ?_⟩
            simp only [Gh.R, VR, RF] at hv ⊢
            obtain ⟨o1, b', q1, q2, q3⟩ := hv
            rw [hb] at q1; obtain rfl := Option.some.inj q1
            refine ⟨o1, b, l2, q2, fun e => ?_⟩
            simp only at l3
            rw [l3, hw]
            exact q3 e
          · exact absurd h (by simp)
        · rename_i hst
          split at h
          · rename_i hc
            simp only [Option.some.injEq, Prod.mk.injEq] at h; obtain ⟨rfl, rfl, rfl⟩ := h
            refine ⟨hl, fun v hv => ?_⟩
            simp only [Gh.R, VR, RF] at hv ⊢
            obtain ⟨o1, b', q1, q2, q3⟩ := hv
            rw [hb] at q1; obtain rfl := Option.some.inj q1
            obtain ⟨o, cap', rfl, c0, c1, c2, c3⟩ := q3 hc.1
            refine ⟨(g1.mu id).1, o, cap', rfl, c0, ?_, ?_⟩
            · simp only [Bool.and_eq_true, decide_eq_true_eq]
              rintro ⟨r3, r4⟩
              rw [c2 r3, r4]
            · by_cases h0 : cap' = 0
              · exact .inl h0
              · refine .inr ⟨hfz _ (hI1.frz id b hb (by rw [hst]; rfl)), ?_⟩
                have hcells := VRc_window (blk_cells hI1 hb (by rw [hst]; simp)) off (len * sz)
                rw [← (c3.resolve_left h0).1, hst] at hcells
                exact VRc.mono (K := fun _ => True) hf (fun _ _ _ h => h) _ _ _ (by rw [hw]) (fun _ _ => trivial) hcells
          · exact absurd h (by simp)
        · exact absurd h (by simp)
      · exact absurd h (by simp)
    case ptr => simp [imp] at h
    case any => simp [imp] at h
    case mapv => simp [imp] at h
    case bnd => simp [imp] at h
    all_goals
      simp only [imp, Option.some.injEq, Prod.mk.injEq] at h
      obtain ⟨rfl, rfl, rfl⟩ := h
      refine ⟨hl, fun v hv => ?_⟩
      exact R_of_noRef (VR.mono (K := fun _ => True) hf (fun _ _ _ h => h) _ v (fun _ _ => trivial) (flat_ok (rf' := noRef) rfl hv))
theorem imps_ok {g1 g2 : Gh} (hI1 : Inv E g1) (hw : g2.w = g1.w) (hfz : ∀ k, g1.fz k → g2.fz k) {site : Nat → Nat} : ∀ (d : Nat) (as as' : List AV) (s s' : List Nat) (u u' : Ups), imps g1.H site d as s u = some (as', s', u') → Links g1 g2 s' u' →
    Links g1 g2 s u ∧ as'.length = as.length ∧ ∀ (i : Nat) (a a' : AV), as[i]? = some a → as'[i]? = some a' → ∀ v, g1.R a v → g2.R a' v
  | 0, _, _, _, _, _, _, h, _ => by simp [imps] at h
  | d + 1, [], _, s, _, u, _, h, hl => by
    simp only [imps, Option.some.injEq, Prod.mk.injEq] at h; obtain ⟨rfl, rfl, rfl⟩ := h
    exact ⟨hl, rfl, fun i a a' h => by simp at h⟩
  | d + 1, a :: as, _, s, _, u, _, h, hl => by
    simp only [imps] at h
    cases h1 : imp g1.H site d a s u with
    | none => rw [h1] at h; simp at h
    | some y =>
      obtain ⟨x, s2, u2⟩ := y
      rw [h1] at h
      simp only at h
      cases h2 : imps g1.H site d as s2 u2 with
      | none => rw [h2] at h; simp at h
      | some z =>
        obtain ⟨xs, s3, u3⟩ := z
        rw [h2] at h
        simp only [Option.some.injEq, Prod.mk.injEq] at h; obtain ⟨rfl, rfl, rfl⟩ := h
        obtain ⟨k1, k2, k3⟩ := imps_ok hI1 hw hfz d as xs s2 s3 u2 u3 h2 hl
        obtain ⟨j1, j2⟩ := imp_ok hI1 hw hfz d a x s s2 u u2 h1 k1
        refine ⟨j1, by simp [k2], fun i b b' e1 e2 => ?_⟩
        cases i with
        | zero => simp at e1 e2; subst e1; subst e2; exact j2
        | succ i => simp at e1 e2; exact k3 i b b' e1 e2
end

theorem apart_nodup : ∀ {l : List Nat}, AM.apart l = true → l.Nodup
  | [], _ => List.nodup_nil
  | a :: l, h => by
    simp only [AM.apart, Bool.and_eq_true, Bool.not_eq_true'] at h
    exact List.nodup_cons.2 ⟨fun hm => by rw [List.elem_eq_true_of_mem hm] at h; exact absurd h.1 (by simp), apart_nodup h.2⟩

theorem freeAll_run : ∀ {l : List Nat} {H : AHeap} {u : Unit}, (freeAll l).run H = some u → ∀ i ∈ l, hget H i = none
  | [], _, _, _, i, hi => by simp at hi
  | j :: l, H, u, h, i, hi => by
    simp only [freeAll, Rd.run] at h
    cases hj : hget H j with
    | some b => rw [hj] at h; simp [Rd.run] at h
    | none =>
      rw [hj] at h
      rcases List.mem_cons.1 hi with rfl | hi
      · exact hj
      · exact freeAll_run h i hi

theorem hget_upds_not : ∀ (us : Ups) (H : AHeap) (j : Nat), j ∉ us.map (·.1) → hget (upds H us) j = hget H j
  | [], _, _, _ => rfl
  | (i, b) :: us, H, j, h => by
    simp only [List.map_cons, List.mem_cons, not_or] at h
    simp only [upds]
    rw [hget_upds_not us _ j h.2, hget_hset, if_neg h.1]

theorem hget_upds_mem : ∀ (us : Ups) (H : AHeap), (us.map (·.1)).Nodup → ∀ p ∈ us, hget (upds H us) p.1 = some p.2
  | [], _, _, p, hp => by simp at hp
  | (i, b) :: us, H, hn, p, hp => by
    simp only [List.map_cons, List.nodup_cons] at hn
    simp only [upds]
    rcases List.mem_cons.1 hp with rfl | hp
    · rw [hget_upds_not us _ _ hn.1, hget_hset, if_pos rfl]
    · exact hget_upds_mem us _ hn.2 p hp

/-- Where the rows lie that were taken over. -/
noncomputable def muImp (g g1 : Gh) : List Nat → Ups → Nat → Nat × Nat
  | id :: is, p :: ps, j => if j = p.1 then g1.mu id else muImp g g1 is ps j
  | _, _, j => g.mu j

theorem muImp_not (g g1 : Gh) : ∀ (s : List Nat) (u : Ups) (j : Nat), j ∉ u.map (·.1) → muImp g g1 s u j = g.mu j
  | [], _, _, _ => by simp [muImp]
  | _ :: _, [], _, _ => by simp [muImp]
  | id :: is, p :: ps, j, h => by
    simp only [List.map_cons, List.mem_cons, not_or] at h
    simp only [muImp, if_neg h.1]
    exact muImp_not g g1 is ps j h.2

theorem par_mem {g g1 : Gh} : ∀ (s : List Nat) (u : Ups), Par g1 s u → s.Nodup → (u.map (·.1)).Nodup → ∀ p ∈ u, ∃ id ∈ s, hget g1.H id = some p.2 ∧ p.2.st = .row ∧ muImp g g1 s u p.1 = g1.mu id
  | [], [], _, _, _, p, hp => by simp at hp
  | [], _ :: _, h, _, _, _, _ => h.elim
  | _ :: _, [], h, _, _, _, _ => h.elim
  | id :: is, q :: ps, h, hs, hu, p, hp => by
    simp only [List.map_cons, List.nodup_cons] at hu hs
    rcases List.mem_cons.1 hp with rfl | hp
    · exact ⟨id, by simp, h.1.1, h.1.2, by simp [muImp]⟩
    · obtain ⟨i, h1, h2, h3, h4⟩ := par_mem (g := g) is ps h.2 hs.2 hu.2 p hp
      refine ⟨i, by simp [h1], h2, h3, ?_⟩
      have : p.1 ≠ q.1 := fun e => hu.1 (e ▸ List.mem_map_of_mem hp)
      simp only [muImp, if_neg this]
      exact h4

theorem par_links {g g1 : Gh} {H : AHeap} {fz : Nat → Prop} {w : World} : ∀ (s : List Nat) (u : Ups) (mu : Nat → Nat × Nat), Par g1 s u → (u.map (·.1)).Nodup → (∀ p ∈ u, hget H p.1 = some p.2) → (∀ j ∈ u.map (·.1), mu j = muImp g g1 s u j) →
    Links g1 { mu := mu, fz := fz, H := H, w := w } s u
  | [], [], _, _, _, _, _ => trivial
  | [], _ :: _, _, h, _, _, _ => h.elim
  | _ :: _, [], _, h, _, _, _ => h.elim
  | id :: is, q :: ps, mu, h, hu, hH, hm => by
    simp only [List.map_cons, List.nodup_cons] at hu
    refine ⟨⟨h.1.1, hH q (by simp), ?_⟩, par_links (g := g) is ps mu h.2 hu.2 (fun p hp => hH p (by simp [hp])) (fun j hj => ?_)⟩
    · exact (hm q.1 (by simp)).trans (by simp [muImp])
    · rw [hm j (by simp only [List.map_cons, List.mem_cons]; exact .inr hj)]
      have : j ≠ q.1 := fun e => hu.1 (e ▸ hj)
      simp [muImp, this]

/-! The blocks that a snapshot met are there. -/
mutual
theorem snap_mem {H : AHeap} : ∀ (d : Nat) (a a' : AV) (V : List Nat), (snap d a).run H = some (a', V) → ∀ id ∈ V, ∃ b, hget H id = some b
  | 0, a, a', V, h, id, hid => by simp [snap, Rd.run] at h
  | d + 1, a, a', V, h, id, hid => by
    cases a <;> simp only [snap] at h
    case agg vs =>
      obtain ⟨⟨xs, V2⟩, h1, h2⟩ := Rd.run_bind_some h
      simp only [Rd.run, Option.some.injEq, Prod.mk.injEq] at h2
      obtain ⟨rfl, rfl⟩ := h2
      exact snaps_mem d vs xs V2 h1 id hid
    case tup vs =>
      obtain ⟨⟨xs, V2⟩, h1, h2⟩ := Rd.run_bind_some h
      simp only [Rd.run, Option.some.injEq, Prod.mk.injEq] at h2
      obtain ⟨rfl, rfl⟩ := h2
      exact snaps_mem d vs xs V2 h1 id hid
    case clo f vs =>
      obtain ⟨⟨xs, V2⟩, h1, h2⟩ := Rd.run_bind_some h
      simp only [Rd.run, Option.some.injEq, Prod.mk.injEq] at h2
      obtain ⟨rfl, rfl⟩ := h2
      exact snaps_mem d vs xs V2 h1 id hid
    case ref id' off len cap gl sz ex =>
      obtain ⟨b, h1, h2⟩ := Rd.run_bind_some h
      obtain ⟨k1, k2⟩ := liveBlk_run h1
      split at h2
      · cases hs : b.st <;> rw [hs] at h2 <;> simp only at h2
        · obtain ⟨⟨xs, V2⟩, h3, h4⟩ := Rd.run_bind_some h2
          simp only [Rd.run, Option.some.injEq, Prod.mk.injEq] at h4
          obtain ⟨rfl, rfl⟩ := h4
          rcases List.mem_cons.1 hid with rfl | hid
          · exact ⟨b, k1⟩
          · exact snaps_mem d _ xs V2 h3 id hid
        all_goals
          simp only [Rd.run, Option.some.injEq, Prod.mk.injEq] at h2
          obtain ⟨rfl, rfl⟩ := h2
          simp only [List.mem_singleton] at hid
          subst hid; exact ⟨b, k1⟩
      · simp [Rd.run] at h2
    case ptr id' off gl =>
      obtain ⟨b, h1, h2⟩ := Rd.run_bind_some h
      obtain ⟨k1, k2⟩ := liveBlk_run h1
      cases hs : b.st <;> rw [hs] at h2 <;> simp only at h2
      · obtain ⟨⟨xs, V2⟩, h3, h4⟩ := Rd.run_bind_some h2
        simp only [Rd.run, Option.some.injEq, Prod.mk.injEq] at h4
        obtain ⟨rfl, rfl⟩ := h4
        rcases List.mem_cons.1 hid with rfl | hid
        · exact ⟨b, k1⟩
        · exact snaps_mem d _ xs V2 h3 id hid
      all_goals
        simp only [Rd.run, Option.some.injEq, Prod.mk.injEq] at h2
        obtain ⟨rfl, rfl⟩ := h2
        simp only [List.mem_singleton] at hid
        subst hid; exact ⟨b, k1⟩
    case any => simp [Rd.run] at h
    case mapv => simp [Rd.run] at h
    case bnd => simp [Rd.run] at h
    all_goals
      simp only [Rd.run, Option.some.injEq, Prod.mk.injEq] at h
      obtain ⟨rfl, rfl⟩ := h
      simp at hid
theorem snaps_mem {H : AHeap} : ∀ (d : Nat) (as as' : List AV) (V : List Nat), (snaps d as).run H = some (as', V) → ∀ id ∈ V, ∃ b, hget H id = some b
  | 0, as, as', V, h, id, hid => by simp [snaps, Rd.run] at h
  | d + 1, [], as', V, h, id, hid => by
    simp only [snaps, Rd.run, Option.some.injEq, Prod.mk.injEq] at h
    obtain ⟨rfl, rfl⟩ := h
    simp at hid
  | d + 1, a :: as, as', V, h, id, hid => by
    simp only [snaps] at h
    obtain ⟨⟨x, V1⟩, h1, h2⟩ := Rd.run_bind_some h
    obtain ⟨⟨y, V2⟩, h3, h4⟩ := Rd.run_bind_some h2
    simp only [Rd.run, Option.some.injEq, Prod.mk.injEq] at h4
    obtain ⟨rfl, rfl⟩ := h4
    rcases List.mem_append.1 hid with hid | hid
    · exact snap_mem d a x V1 h1 id hid
    · exact snaps_mem d as y V2 h3 id hid
end

end
end Go.AM
