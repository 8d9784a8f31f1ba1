/- Calls that are handed snapshots. Own work of this project. -/
import Derived.Test.YtikchlfbjdfioaaAmQ
namespace Go.AM
section
variable {P : Program} {E : Env} {g : Gh}

theorem par_inj {g g1 : Gh} (hI1 : Inv E g1) : ∀ (s : List Nat) (u : Ups), Par g1 s u → s.Nodup → (u.map (·.1)).Nodup → ∀ p ∈ u, ∀ q ∈ u, p.1 ≠ q.1 → (muImp g g1 s u p.1).1 ≠ (muImp g g1 s u q.1).1
  | [], [], _, _, _, p, hp, _, _, _ => by simp at hp
  | [], _ :: _, h, _, _, _, _, _, _, _ => h.elim
  | _ :: _, [], h, _, _, _, _, _, _, _ => h.elim
  | id :: is, c :: ps, h, hs, hu, p, hp, q, hq, hne => by
    have hu' := hu
    have hs' := hs
    simp only [List.map_cons, List.nodup_cons] at hu hs
    have key : ∀ x ∈ ps, (muImp g g1 (id :: is) (c :: ps) c.1).1 ≠ (muImp g g1 (id :: is) (c :: ps) x.1).1 := by
      intro x hx
      obtain ⟨i, h1, h2, h3, h4⟩ := par_mem (g := g) is ps h.2 hs.2 hu.2 x hx
      have hxc : x.1 ≠ c.1 := fun e => hu.1 (e ▸ List.mem_map_of_mem hx)
      simp only [muImp, if_neg hxc, if_true]
      rw [h4]
      exact hI1.inj id i _ _ h.1.1 h2 (fun e => hs.1 (e ▸ h1))
    rcases List.mem_cons.1 hp with ep | hp2
    · rcases List.mem_cons.1 hq with eq | hq2
      · exact absurd (by rw [ep, eq]) hne
      · rw [ep]; exact key q hq2
    · rcases List.mem_cons.1 hq with eq | hq2
      · rw [eq]; exact (key p hp2).symm
      · have h1 : p.1 ≠ c.1 := fun e => hu.1 (e ▸ List.mem_map_of_mem hp2)
        have h2 : q.1 ≠ c.1 := fun e => hu.1 (e ▸ List.mem_map_of_mem hq2)
        simp only [muImp, if_neg h1, if_neg h2]
        exact par_inj hI1 is ps h.2 hs.2 hu.2 p hp2 q hq2 hne

/-- Behind a call: the world is another one, what was there is as it was, and rows were taken over. -/
theorem import_ok (hI : Inv E g) {g1 : Gh} (hI1 : Inv E g1) (hs : g.w.heap.size ≤ g1.w.heap.size) (hold : ∀ k, k < g.w.heap.size → g1.w.heap[k]? = g.w.heap[k]?) (hos : g1.w.os = g.w.os) (htape : g1.w.tape = g.w.tape) (hout : g1.w.output = g.w.output)
    (h1 : ∀ k, g.fz k → g1.fz k) (h2 : ∀ k, g1.fz k → g.fz k ∨ g.w.heap.size ≤ k) (hrow : ∀ id b, hget g1.H id = some b → b.st.open_ = true → g.w.heap.size ≤ (g1.mu id).1)
    {s : List Nat} {u : Ups} (hp : Par g1 s u) (hsn : s.Nodup) (hun : (u.map (·.1)).Nodup) (hfree : ∀ i ∈ u.map (·.1), hget g.H i = none) :
    Inv E ⟨muImp g g1 s u, g1.fz, upds g.H u, g1.w⟩ ∧ Adv g ⟨muImp g g1 s u, g1.fz, upds g.H u, g1.w⟩ ∧ Links g1 ⟨muImp g g1 s u, g1.fz, upds g.H u, g1.w⟩ s u := by
  have hlt : ∀ j b, hget g.H j = some b → (g.mu j).1 < g.w.heap.size := by
    intro j b h
    exact (hI.blk j b h).lt
  have hold' : ∀ j b, hget g.H j = some b → hget (upds g.H u) j = some b ∧ muImp g g1 s u j = g.mu j := by
    intro j b h
    have hn : j ∉ u.map (·.1) := fun hm => by rw [hfree j hm] at h; exact absurd h (by simp)
    exact ⟨(hget_upds_not u g.H j hn).trans h, muImp_not g g1 s u j hn⟩
  -- a block of the new state: an old one, or one that was taken over
  have hcase : ∀ j b, hget (upds g.H u) j = some b → (hget g.H j = some b ∧ muImp g g1 s u j = g.mu j) ∨ (∃ id, hget g1.H id = some b ∧ b.st = .row ∧ muImp g g1 s u j = g1.mu id ∧ (j, b) ∈ u) := by
    intro j b h
    by_cases hm : j ∈ u.map (·.1)
    · obtain ⟨p, hpu, rfl⟩ := List.mem_map.1 hm
      have e := hget_upds_mem u g.H hun p hpu
      rw [e] at h; obtain rfl := Option.some.inj h
      obtain ⟨id, _, k2, k3, k4⟩ := par_mem (g := g) s u hp hsn hun p hpu
      exact .inr ⟨id, k2, k3, k4, hpu⟩
    · rw [hget_upds_not u g.H j hm] at h
      exact .inl ⟨h, muImp_not g g1 s u j hm⟩
  have hf : ∀ k, g.fz k → g1.fz k ∧ g1.w.heap[k]? = g.w.heap[k]? := fun k hk => ⟨h1 k hk, hold k (hI.lt k hk)⟩
  have hrf : ∀ a v, RF g a v → RF ⟨muImp g g1 s u, g1.fz, upds g.H u, g1.w⟩ a v := by
    intro a v h
    cases a <;> simp only [RF] at h ⊢ <;> try exact h
    · rename_i i off len cap gl sz ex
      obtain ⟨b, k1, k2, k3⟩ := h
      obtain ⟨e1, e2⟩ := hold' _ b k1
      refine ⟨b, e1, k2, fun e => ?_⟩
      have eb : bsz g1.w (g.mu i).1 = bsz g.w (g.mu i).1 := by simp only [bsz, hold _ (hlt i b k1)]
      rw [e2, eb]
      exact k3 e
    · obtain ⟨b, k1, k2, k3⟩ := h
      obtain ⟨e1, e2⟩ := hold' _ b k1
      refine ⟨b, e1, k2, fun e => ?_⟩
      rw [e2]
      exact k3 e
    · obtain ⟨b, k1, k2, k3⟩ := h
      obtain ⟨e1, e2⟩ := hold' _ b k1
      exact ⟨b, e1, k2, by rw [e2]; exact k3⟩
  refine ⟨⟨?_, ?_, ?_, ?_, hI1.lt, hI1.glob⟩, ⟨fun a v h => VR.mono (K := fun _ => True) hf (fun a v _ => hrf a v) a v (fun _ _ => trivial) h, hos, htape, hout, hs, fun k hk _ => hold k hk, ?_, h1, ?_⟩, par_links (g := g) s u _ hp hun (hget_upds_mem u g.H hun) (fun _ _ => rfl)⟩
  · intro j b h
    rcases hcase j b h with ⟨k1, k2⟩ | ⟨id, k1, k2, k3, _⟩
    · exact (hI.blk j b k1).mono k2 (hold _ (hlt j b k1)) hf hrf
    · obtain ⟨cs, t, q1, q2⟩ := (hI1.blk id b k1).cells (by rw [k2]; simp)
      refine lies_of (by rw [k2]; simp) ?_
      simp only [k3]
      refine ⟨cs, t, q1, ?_⟩
      rw [k2] at q2 ⊢
      exact q2
  · intro j j' b b' h h' hne
    rcases hcase j b h with ⟨k1, k2⟩ | ⟨id, k1, k2, k3, k4⟩
    · rcases hcase j' b' h' with ⟨m1, m2⟩ | ⟨id', m1, m2, m3, m4⟩
      · simp only [k2, m2]; exact hI.inj j j' b b' k1 m1 hne
      · simp only [k2, m3]
        have := hlt j b k1
        have := hrow id' b' m1 (by rw [m2]; rfl)
        omega
    · rcases hcase j' b' h' with ⟨m1, m2⟩ | ⟨id', m1, m2, m3, m4⟩
      · simp only [k3, m2]
        have := hlt j' b' m1
        have := hrow id b k1 (by rw [k2]; rfl)
        omega
      · exact par_inj hI1 s u hp hsn hun _ k4 _ m4 hne
  · intro j b h ho hz
    rcases hcase j b h with ⟨k1, k2⟩ | ⟨id, k1, k2, k3, _⟩
    · simp only [k2] at hz
      rcases h2 _ hz with q | q
      · exact hI.opn j b k1 ho q
      · have := hlt j b k1; omega
    · simp only [k3] at hz
      exact hI1.opn id b k1 ho hz
  · intro j b h ho
    rcases hcase j b h with ⟨k1, k2⟩ | ⟨id, k1, k2, k3, _⟩
    · simp only [k2]; exact h1 _ (hI.frz j b k1 ho)
    · rw [k2] at ho; simp [BS.open_] at ho
  · rintro k ⟨j, b, h, ho, e⟩
    rcases hcase j b h with ⟨k1, k2⟩ | ⟨id, k1, k2, k3, _⟩
    · simp only [k2] at e; exact .inl ⟨j, b, k1, ho, e⟩
    · simp only [k3] at e
      have := hrow id b k1 (by rw [k2]; rfl)
      exact .inr (by omega)
  · intro k hk
    rcases h2 k hk with q | q
    · exact .inl q
    · exact .inr (.inr q)

/-- What a callee comes to, by what the abstract one told. -/
def CS (P : Program) (E : Env) (C : Callee) : Prop := ∀ (f : FuncId) (args : List AV) (H : AHeap) (B : Nat) (r : AV) (H' : AHeap), C f args H B = some (r, H') →
  ∀ (g : Gh) (vs : List Value), g.H = H → Inv E g → g.Rs args vs → Calls P f vs.toArray g.w fun
    | .returned v, w' => ∃ g', g'.w = w' ∧ g'.H = H' ∧ Inv E g' ∧ Adv g g' ∧ g'.R r v
    | _, _ => False

theorem inv_empty (hI : Inv E g) {fz' : Nat → Prop} (h1 : ∀ k, g.fz k → fz' k) (h2 : ∀ k, fz' k → k < g.w.heap.size) : Inv E ⟨g.mu, fz', [], g.w⟩ := by
  refine ⟨fun _ _ h => by simp [hget_n] at h, fun _ _ _ _ h => by simp [hget_n] at h, fun _ _ h => by simp [hget_n] at h, fun _ _ h => by simp [hget_n] at h, h2, fun k cells h => ?_⟩
  obtain ⟨q1, q2⟩ := hI.glob k cells h
  exact ⟨h1 k q1, VRc.mono (K := fun _ => True) (fun k hk => ⟨h1 k hk, rfl⟩) (fun _ _ _ h => h) _ _ _ rfl (fun _ _ => trivial) q2⟩

theorem snapsRs {fz fz' : Nat → Prop} {w : World} {rf : RFt} {as as' : List AV} {vs : List Value} (hl : as'.length = as.length)
    (hs : ∀ (i : Nat) (a a' : AV), as[i]? = some a → as'[i]? = some a' → ∀ v, VR fz w a rf v → VR fz' w a' noRef v) (h : VRs fz w as rf vs) : VRs fz' w as' noRef vs := by
  rw [VRs_iff] at h ⊢
  refine ⟨hl.trans h.1, fun i a u q1 q2 => ?_⟩
  have hlt : i < as.length := by rw [← hl]; exact (List.getElem?_eq_some_iff.1 q1).1
  exact hs i _ _ (List.getElem?_eq_getElem hlt) q1 u (h.2 i _ u (List.getElem?_eq_getElem hlt) q2)

theorem thaw_ok {C : Callee} (hC : CS P E C) : CS P E (thaw C) := by
  intro f args H B r H' h g vs hH hI hs
  unfold thaw at h
  cases hc : C f args H B with
  | none => rw [hc] at h; exact absurd h (by simp)
  | some rH =>
    obtain ⟨r0, Hc⟩ := rH
    rw [hc] at h
    simp only at h
    refine (hC f args H B r0 Hc hc g vs hH hI hs).mono ?_
    intro e w' he
    cases e with
    | panicked => exact he.elim
    | outgrown => exact he.elim
    | returned v =>
      obtain ⟨g1, rfl, rfl, k3, k4, k5⟩ := he
      unfold frzRet at h
      split at h
      · rename_i fn c cs
        cases hs1 : (snap 200 (.clo fn (c :: cs))).run g1.H with
        | none => rw [hs1] at h; exact absurd h (by simp)
        | some y =>
          obtain ⟨r', V⟩ := y
          rw [hs1] at h
          simp only at h
          cases hf1 : (frz V).run g1.H with
          | none => rw [hf1] at h; exact absurd h (by simp)
          | some us =>
            rw [hf1] at h
            simp only [Option.some.injEq, Prod.mk.injEq] at h
            obtain ⟨rfl, rfl⟩ := h
            obtain ⟨g', d1, _, d3, d4, d5, d6, _⟩ := frz_ok k3 hf1
            obtain ⟨z, _⟩ := snap_ok k3 (fz' := g'.fz) d5.fz' 200 (.clo fn (c :: cs)) r' V hs1 d6 v k5
            rw [← d1] at z
            exact ⟨g', d1, d3, d4, k4.trans d5, R_of_noRef z⟩
      · simp only [Option.some.injEq, Prod.mk.injEq] at h
        obtain ⟨rfl, rfl⟩ := h
        exact ⟨g1, rfl, rfl, k3, k4, k5⟩

def Back (E : Env) (g : Gh) (x : AV × Ups) : Ending → World → Prop
  | .returned v, w' => ∃ g', g'.w = w' ∧ g'.H = upds g.H x.2 ∧ Inv E g' ∧ Adv g g' ∧ g'.R x.1 v
  | _, _ => False

theorem wr_empty {mu : Nat → Nat × Nat} {fz : Nat → Prop} {w : World} {k : Nat} : ¬ wr ⟨mu, fz, [], w⟩ k := by
  rintro ⟨id, b, h, _⟩
  simp [hget_n] at h

theorem call_ok {C : Callee} (hC : CS P E C) (hI : Inv E g) {site : Nat → Nat} {keep : Bool} {f : FuncId} {args : List AV} {vs : List Value} (hs : g.Rs args vs) {x : AV × Ups} (h : (aCall C site keep f args).run g.H = some x) :
    Calls P f vs.toArray g.w (Back E g x) := by
  unfold aCall at h
  replace hC := thaw_ok hC
  generalize thaw C = C at h hC
  obtain ⟨⟨xs, V⟩, m1, m2⟩ := Rd.run_bind_some h
  simp only at m2
  unfold aBack at m2
  obtain ⟨off, _, m2⟩ := Rd.run_bind_some m2
  generalize (fun j => site j + off) = site at m2
  cases hc : C f xs [] 0 with
  | none => rw [hc] at m2; simp [aBackAt, Rd.run] at m2
  | some rH =>
    obtain ⟨r, Hc⟩ := rH
    rw [hc] at m2
    -- what is handed over is frozen while the callee runs
    have hgo : ∀ (fz' : Nat → Prop), (∀ k, g.fz k → fz' k) → (∀ k, fz' k → k < g.w.heap.size) → (∀ id ∈ V, fz' (g.mu id).1) →
        Calls P f vs.toArray g.w fun
          | .returned v, w' => ∃ g1, g1.w = w' ∧ g1.H = Hc ∧ Inv E g1 ∧ Adv ⟨g.mu, fz', [], g.w⟩ g1 ∧ g1.R r v
          | _, _ => False := by
      intro fz' h1 h2 h3
      obtain ⟨s1, s2⟩ := snaps_ok hI (fz' := fz') h1 200 args xs V m1 h3
      have hx := snapsRs s1 s2 hs
      have hrs : (Gh.mk g.mu fz' [] g.w).Rs xs vs := by
        rw [Gh.Rs, VRs_iff]
        rw [VRs_iff] at hx
        exact ⟨hx.1, fun i a v q1 q2 => R_of_noRef (g := ⟨g.mu, fz', [], g.w⟩) (hx.2 i a v q1 q2)⟩
      exact hC f xs [] 0 r Hc hc ⟨g.mu, fz', [], g.w⟩ vs rfl (inv_empty hI h1 h2) hrs
    -- the callee's world, seen from here, when nothing comes back that leads anywhere
    have hplain : ∀ (fz' : Nat → Prop) (g1 : Gh), Adv ⟨g.mu, fz', [], g.w⟩ g1 → Inv E ⟨g.mu, g.fz, g.H, g1.w⟩ ∧ Adv g ⟨g.mu, g.fz, g.H, g1.w⟩ := by
      intro fz' g1 hA
      have hold : ∀ k, k < g.w.heap.size → g1.w.heap[k]? = g.w.heap[k]? := fun k hk => hA.old k hk wr_empty
      have hI0 : Inv E ⟨g.mu, g.fz, [], g1.w⟩ := by
        refine ⟨fun _ _ h => by simp [hget_n] at h, fun _ _ _ _ h => by simp [hget_n] at h, fun _ _ h => by simp [hget_n] at h, fun _ _ h => by simp [hget_n] at h, fun k hk => Nat.lt_of_lt_of_le (hI.lt k hk) hA.size, fun k cells h => ?_⟩
        obtain ⟨q1, q2⟩ := hI.glob k cells h
        exact ⟨q1, VRc.mono (K := fun _ => True) (fun k hk => ⟨hk, hold k (hI.lt k hk)⟩) (fun _ _ _ h => h) _ _ _ (hold k (hI.lt k q1)) (fun _ _ => trivial) q2⟩
      have := import_ok (g1 := ⟨g.mu, g.fz, [], g1.w⟩) (s := []) (u := []) hI hI0 hA.size hold hA.os hA.tape hA.out (fun _ h => h) (fun _ h => .inl h) (fun _ _ h => by simp [hget_n] at h) trivial List.nodup_nil List.nodup_nil (fun _ h => by simp at h)
      exact ⟨this.1, this.2.1⟩
    have hmuV : ∀ id ∈ V, True → True := fun _ _ h => h
    cases keep with
    | false =>
      simp only [aBackAt, Rd.run, Option.some.injEq] at m2; subst m2
      -- the blocks that were met are there: else they are left out
      refine (hgo (fun k => g.fz k ∨ (k < g.w.heap.size ∧ ∃ id ∈ V, (g.mu id).1 = k)) (fun _ h => .inl h) (fun k hk => hk.elim (hI.lt k) (·.1)) ?_).mono ?_
      · intro id hid
        refine .inr ⟨?_, id, hid, rfl⟩
        obtain ⟨b, hb⟩ := snaps_mem 200 args xs V m1 id hid
        exact (hI.blk id b hb).lt
      · intro e w' he
        cases e with
        | returned v =>
          obtain ⟨g1, rfl, _, k3, k4, k5⟩ := he
          obtain ⟨p1, p2⟩ := hplain _ g1 k4
          exact ⟨⟨g.mu, g.fz, g.H, g1.w⟩, rfl, rfl, p1, p2, by simp only [Gh.R, VR]⟩
        | panicked => exact he.elim
        | outgrown => exact he.elim
    | true =>
      simp only [aBackAt] at m2
      cases hi : imp Hc site 200 r [] [] with
      | none => rw [hi] at m2; simp [Rd.run] at m2
      | some y =>
        obtain ⟨r', seen, ups⟩ := y
        rw [hi] at m2
        simp only at m2
        split at m2
        · rename_i hap
          obtain ⟨_, m3, m4⟩ := Rd.run_bind_some m2
          have hfree := freeAll_run m3
          have hnd := apart_nodup hap
          cases hl : r.leads with
          | false =>
            rw [hl] at m4
            simp only [Rd.run, Option.some.injEq] at m4; subst m4
            have he := imp_flat 200 r [] [] _ hl hi
            simp only [Prod.mk.injEq] at he
            obtain ⟨rfl, rfl, rfl⟩ := he
            refine (hgo (fun k => g.fz k ∨ (k < g.w.heap.size ∧ ∃ id ∈ V, (g.mu id).1 = k)) (fun _ h => .inl h) (fun k hk => hk.elim (hI.lt k) (·.1)) ?_).mono ?_
            · intro id hid
              refine .inr ⟨?_, id, hid, rfl⟩
              obtain ⟨b, hb⟩ := snaps_mem 200 args xs V m1 id hid
              exact (hI.blk id b hb).lt
            · intro e w' he
              cases e with
              | returned v =>
                obtain ⟨g1, rfl, _, k3, k4, k5⟩ := he
                obtain ⟨p1, p2⟩ := hplain _ g1 k4
                exact ⟨⟨g.mu, g.fz, g.H, g1.w⟩, rfl, rfl, p1, p2, noleads_ok _ v hl k5⟩
              | panicked => exact he.elim
              | outgrown => exact he.elim
          | true =>
            rw [hl] at m4
            obtain ⟨us, m5, m6⟩ := Rd.run_bind_some m4
            simp only [Rd.run, Option.some.injEq] at m6; subst m6
            obtain ⟨g', d1, d2, d3, d4, d5, d6, d7, d8, d9⟩ := frz_ok hI m5
            refine (hgo g'.fz d5.fz' (fun k hk => by have := d4.lt k hk; rwa [d1] at this) d6).mono ?_
            intro e w' he
            cases e with
            | returned v =>
              obtain ⟨g1, rfl, rfl, k3, k4, k5⟩ := he
              have hold : ∀ k, k < g'.w.heap.size → g1.w.heap[k]? = g'.w.heap[k]? := fun k hk => by rw [d1] at hk ⊢; exact k4.old k hk wr_empty
              obtain ⟨hp, hsn⟩ := imp_par 200 r r' [] seen [] ups hi ⟨trivial, List.nodup_nil⟩
              have hrow : ∀ id b, hget g1.H id = some b → b.st.open_ = true → g'.w.heap.size ≤ (g1.mu id).1 := by
                intro id b hb ho
                rw [d1]
                rcases k4.wr' _ ⟨id, b, hb, ho, rfl⟩ with q | q
                · exact absurd q wr_empty
                · exact q
              obtain ⟨p1, p2, p3⟩ := import_ok (g := g') (g1 := g1) (s := seen) (u := ups) d4 k3 (by rw [d1]; exact k4.size) hold (by rw [d1]; exact k4.os) (by rw [d1]; exact k4.tape) (by rw [d1]; exact k4.out) k4.fz'
                (fun k hk => by
                  rcases k4.fz2 k hk with q | q | q
                  · exact .inl q
                  · exact absurd q wr_empty
                  · exact .inr (by rw [d1]; exact q)) hrow hp hsn hnd (fun i hi => by
                  rw [d7 i]
                  · exact hfree i hi
                  · intro hm
                    obtain ⟨b, hb⟩ := d8 i hm
                    rw [hfree i hi] at hb
                    exact absurd hb (by simp))
              obtain ⟨_, z⟩ := imp_ok (g1 := g1) (g2 := ⟨muImp g' g1 seen ups, g1.fz, upds g'.H ups, g1.w⟩) k3 rfl (fun _ h => h) 200 r r' [] seen [] ups hi p3
              refine ⟨⟨muImp g' g1 seen ups, g1.fz, upds g'.H ups, g1.w⟩, rfl, ?_, p1, d5.trans p2, z v k5⟩
              show upds g'.H ups = upds g.H (us ++ ups)
              rw [upds_append, ← d3]
            | panicked => exact he.elim
            | outgrown => exact he.elim
        · simp [Rd.run] at m2

end
end Go.AM
