/- append, copy, clear. Own work of this project. -/
import Derived.Test.YtikchlfbjdfioaaAmN
namespace Go.AM
section
variable {P : Program} {E : Env} {g : Gh}

theorem run_append_in {w w' : World} {ts : Array TypeId} {t u e e' : TypeId} {i : TypeInfo} (h0 : ts[0]? = some t) (h1 : ts[1]? = some u) (ht : P.underlying t = some (.slice e)) (hu : P.underlying u = some (.slice e')) (hi : P.info? e = some i)
    {base ao : Option Addr} {sLen sCap n c : Nat} {vs : Array Value} (hf : (Builtin.firstCells i.size n (.slice ao n c)).run P w = .ok vs w) (hle : sLen + n ≤ sCap)
    (hst : (match base with | some a => storeCells (a.add (sLen * i.size)) vs.toList | none => pure ()).run P w = .ok () w') (ty : TypeId) :
    (Builtin.append_ ts ty #[.slice base sLen sCap, .slice ao n c]).run P w = .ok (.slice base (sLen + n) sCap) w' := by
  cases base with
  | none => 
    simp at hst
    subst hst
    simp [Builtin.append_, h0, h1, run_underlying ht, run_underlying hu, sizeOf, typeInfo, hi, Builtin.lenOf, hle, hf]
  | some a =>
    simp at hst
    simp [Builtin.append_, h0, h1, run_underlying ht, run_underlying hu, sizeOf, typeInfo, hi, Builtin.lenOf, hle, hf, hst]

theorem run_append_out {w : World} {ts : Array TypeId} {t u e e' : TypeId} {i : TypeInfo} {z : Value} (h0 : ts[0]? = some t) (h1 : ts[1]? = some u) (ht : P.underlying t = some (.slice e)) (hu : P.underlying u = some (.slice e')) (hi : P.info? e = some i)
    (hz : i.zero = some z) {base ao : Option Addr} {sLen sCap n c : Nat} {olds vs : Array Value} (hf : (Builtin.firstCells i.size n (.slice ao n c)).run P w.drew = .ok vs w.drew)
    (ho : (Builtin.firstCells i.size sLen (.slice base sLen sCap)).run P w.drew = .ok olds w.drew) (hg : sCap < sLen + n) (hb : 0 < i.bytes) (hr : (sLen + n) * i.bytes ≤ 70368744177664) (ty : TypeId) :
    (Builtin.append_ ts ty #[.slice base sLen sCap, .slice ao n c]).run P w = .ok (.slice (some ⟨w.heap.size, 0, none⟩) (sLen + n) (grownCap w (sLen + n) sCap e))
      (w.drew.alloc (.cells (olds ++ vs ++ Builtin.zeroCells z.cells (grownCap w (sLen + n) sCap e - (sLen + n))) e)) := by
  have hn : ¬ (sLen + n ≤ sCap) := by omega
  have hbz : i.bytes ≠ 0 := by omega
  have h48 := growslice_fits hg (bytes := i.bytes) (by omega)
  have h48' : ¬ (281474976710656 < Builtin.nextslicecap (sLen + n) sCap * i.bytes) := by omega
  simp [Builtin.append_, h0, h1, run_underlying ht, run_underlying hu, sizeOf, typeInfo, zeroValue, hi, hz, Builtin.lenOf, hn, hbz, h48', Question.forced, hf, ho, newRow, grownCap]

theorem room_ok (hE : EnvOK P E) {e : TypeId} {need : Nat} (h : roomOk E.T e need = true) : ∃ inf zv, P.info? e = some inf ∧ inf.zero = some zv ∧ 0 < inf.bytes ∧ zv.cells.size = inf.size ∧ need * inf.bytes ≤ 70368744177664 := by
  unfold roomOk at h
  split at h
  · rename_i i hT
    split at h
    · rename_i z hz
      simp only [decide_eq_true_eq] at h
      obtain ⟨h1, h2, h3⟩ := h
      obtain ⟨inf, hi, hs, hb, hzz, _⟩ := hE.ty e i hT
      obtain ⟨zv, q1, q2⟩ := hzz z hz
      have hl := VRo_length (acells_ok (fz := fun _ => False) (rf := noRef) q2 (ofV_ok zv _ (⟨#[], fun _ _ => 0, 0, default, #[]⟩ : World) _))
      exact ⟨inf, zv, hi, q1, by omega, by simp at hl; omega, by rw [hb]; exact h3⟩
    · exact absurd h (by simp)
  · exact absurd h (by simp)

theorem zc_size (z : Array Value) (n : Nat) : (Builtin.zeroCells z n).size = n * z.size := by simp [Builtin.zeroCells]

theorem bsz_push (cs : Array Value) (e : TypeId) (w' : World) : bsz (w'.drew.alloc (.cells cs e)) w'.heap.size = cs.size := by
  show (match (w'.heap.push (.cells cs e))[w'.heap.size]? with | some (.cells cs _ _) => cs.size | _ => 0) = cs.size
  rw [Array.getElem?_push_size]

/-- What lies behind a world that drew and got a new row. -/
theorem grow_new (hI : Inv E g) {site need sz cap : Nat} {e : TypeId} (hfree : hget g.H site = none) {cells : List AV} {C : List Value} (hC : VRo g.fz g.w cells noRef C) (hl : cells.length = need * sz) {cs : Array Value} {rest : List Value}
    (hcs : cs.toList = C ++ rest) (hsz : cs.size = cap * sz) (hcap : need ≤ cap) {r : Result Value} (hr : r = .ok (.slice (some ⟨g.w.heap.size, 0, none⟩) need cap) (g.w.drew.alloc (.cells cs e))) :
    Done E g (.ref site 0 need need (need * sz) sz false, [(site, ⟨.row, cells⟩)]) r := by
  have hs := new_cells (t := e) (rest := rest) (cs := cs) hI hfree ⟨C, hC, hcs⟩ (w' := g.w.drew.alloc (.cells cs e)) rfl rfl rfl rfl
  refine ⟨_, _, hr, rfl, hs.1, hs.2, ?_⟩
  have hR := row_R (g := g) (site := site) (cells := cells) (len := need) (cap := need) (cap' := cap) (sz := sz) (ex := false) (w' := g.w.drew.alloc (.cells cs e))
    hcap hcap (fun h => by simp at h) (.inr (by rw [← hsz]; exact Nat.le_of_eq (bsz_push _ _ _).symm))
  rw [hl] at hR
  exact hR

theorem src_drew (hI : Inv E g) {sz n : Nat} {x : AV} {xv : Value} {cells : List AV} (h : (srcOf sz x).run g.H = some (n, cells)) (hx : g.R x xv) :
    ∃ (ao : Option Addr) (c : Nat) (vs : List Value), xv = .slice ao n c ∧ cells.length = n * sz ∧ VRo g.fz g.w cells noRef vs ∧ (Builtin.firstCells sz n xv).run P g.w = .ok vs.toArray g.w ∧ (Builtin.firstCells sz n xv).run P g.w.drew = .ok vs.toArray g.w.drew := by
  obtain ⟨ao, c, vs, rfl, h1, h2, h3⟩ := src_ok (P := P) hI h hx
  have hI2 := hI.draw g.w.drew rfl
  have hx2 := (Adv.draw (g := g) g.w.drew rfl rfl rfl rfl).vr _ _ hx
  obtain ⟨ao', c', vs', e1, _, h4, h5⟩ := src_ok (P := P) (g := { g with w := g.w.drew }) hI2 h hx2
  refine ⟨ao, c, vs, rfl, h1, h2, h3, ?_⟩
  have : ∀ (a : Array Value), (Builtin.firstCells sz n (.slice ao n c)).run P g.w = .ok a g.w → (Builtin.firstCells sz n (.slice ao n c)).run P g.w.drew = .ok a g.w.drew := by
    intro a ha
    rw [h3] at ha
    have hv : vs = vs' := by
      cases ao with
      | none => 
        simp [Builtin.firstCells] at h3 h5
        rw [h3, h5]
      | some ad =>
        simp only [Builtin.firstCells, loadCells] at h3 h5
        have key : ∀ (k i : Nat) (acc r r2 : Array Value), (loadCellsFrom ad i k acc).run P g.w = .ok r g.w → (loadCellsFrom ad i k acc).run P g.w.drew = .ok r2 g.w.drew → r = r2 := by
          intro k
          induction k with
          | zero => intro i acc r r2 q1 q2; simp [loadCellsFrom] at q1 q2; rw [← q1, ← q2]
          | succ k ih =>
            intro i acc r r2 q1 q2
            simp only [loadCellsFrom, Sem.run_bind, run_load, World.cell?_drew] at q1 q2
            cases hc : g.w.cell? (ad.add i) with
            | some v =>
              rw [hc] at q1 q2
              simp only [Result.andThen_ok] at q1 q2
              exact ih _ _ _ _ q1 q2
            | none =>
              rw [hc] at q1 q2
              simp only at q1 q2
              have hfl : g.w.drew.farLoad P (ad.add i) (Mode.plain == Mode.atomic) = g.w.farLoad P (ad.add i) (Mode.plain == Mode.atomic) := rfl
              rw [hfl] at q2
              cases hf : g.w.farLoad P (ad.add i) (Mode.plain == Mode.atomic) with
              | error h => rw [hf] at q1; simp at q1
              | ok p =>
                obtain ⟨v, b⟩ := p
                rw [hf] at q1 q2
                simp only [Result.andThen_ok] at q1 q2
                exact ih _ _ _ _ q1 q2
        have := key _ _ _ _ _ h3 h5
        simpa using this
    have ha' : a = vs.toArray := by injection ha with ha _; exact ha.symm
    rw [ha', hv]; exact h5
  exact this _ h3

theorem upds_one (H : AHeap) (i : Nat) (b : Blk) : upds H [(i, b)] = hset H i b := rfl

theorem storeNil {a : Addr} {w : World} : (storeCells a ([] : List Value)).run P w = .ok () w := rfl

theorem rest_of {olds news : List Value} {z : Array Value} {k : Nat} : (olds.toArray ++ news.toArray ++ Builtin.zeroCells z k).toList = (olds ++ news) ++ (Builtin.zeroCells z k).toList := by simp

/-- A row that is full, or not quite: in its own place, or in a new one. -/
theorem regrow (hI : Inv E g) {id len cap cap' n gl s o nc : Nat} {e : TypeId} {bl : Blk} (q1 : hget g.H id = some bl) (hst : bl.st = .row) (q2 : gl = bl.cells.length) {r : Result Value} {news : List AV} {olds vs : List Value}
    {ex : Bool} (_ : g.R (.ref id 0 len cap gl s ex) (.slice (some ⟨(g.mu id).1, o, none⟩) len cap'))
    (_ : (window bl.cells 0 (len * s)).length = olds.length) (e3 : VRo g.fz g.w (window bl.cells 0 (len * s)) noRef olds) (hnv : VRo g.fz g.w news noRef vs) (hwl : (window bl.cells 0 (len * s)).length = len * s) (hnl : news.length = n * s)
    (hlt : gl < (len + n) * s) (_ : 0 + len * s ≤ gl) (_ : 0 < s) (c0 : len ≤ cap') (_ : cap ≤ cap') (c3 : cap' = 0 ∨ (o = (g.mu id).2 + 0 ∧ o + cap' * s ≤ bsz g.w (g.mu id).1))
    (hin : len + n ≤ cap' → ∀ w', (storeCells ⟨(g.mu id).1, o + len * s, none⟩ vs).run P g.w = .ok () w' → r = .ok (.slice (some ⟨(g.mu id).1, o, none⟩) (len + n) cap') w')
    (hout : cap' < len + n → ∃ cs : Array Value, r = .ok (.slice (some ⟨g.w.heap.size, 0, none⟩) (len + n) nc) (g.w.drew.alloc (.cells cs e)) ∧ (∃ rest, cs.toList = (olds ++ vs) ++ rest) ∧ cs.size = nc * s)
    (hnc : len + n ≤ nc) :
    Done E g (.ref id 0 (len + n) (len + n) ((len + n) * s) s false, [(id, ⟨.row, window bl.cells 0 (len * s) ++ news⟩)]) r := by
  have hlen : (window bl.cells 0 (len * s) ++ news).length = (len + n) * s := by rw [List.length_append, hwl, hnl, Nat.add_mul]
  have hnomp : ∀ b, hget g.H id = some b → b.st ≠ .mp := fun b1 hb1 => by rw [q1] at hb1; obtain rfl := Option.some.inj hb1; rw [hst]; simp
  obtain ⟨ccs, ct, y1, y2⟩ := (hI.blk id bl q1).cells (by rw [hst]; simp)
  have hval : ∀ {fz : Nat → Prop} {w : World}, VRo fz w (window bl.cells 0 (len * s) ++ news) noRef (olds ++ vs) → ∀ (i : Nat) (a : AV), (window bl.cells 0 (len * s) ++ news)[i]? = some a → ∃ v, (olds ++ vs)[i]? = some v ∧ v.oneCell' = true ∧ VR fz w a noRef v := by
    intro fz w h i a hi
    exact VRo_get h hi
  have hall := VRo_append e3 hnv
  by_cases hc : len + n ≤ cap'
  · -- in its own place
    have hvl := VRo_length hnv
    obtain ⟨d1, d2⟩ := c3.resolve_left (by
      intro h
      have : len + n = 0 := by omega
      rw [this] at hlt; omega)
    have hbz : bsz g.w (g.mu id).1 = ccs.size := by simp [bsz, y1]
    have hmul := Nat.mul_le_mul_right s hc
    rw [Nat.add_mul] at hmul
    obtain ⟨w', cs', z1, z2, z3, z4, z5, z6, z7, z8, z9⟩ := run_storeCells (P := P) vs g.w (g.mu id).1 (o + len * s) 0 ccs ct y1 (by rw [← hvl, hnl, ← hbz]; omega) (fun v hv => by
      obtain ⟨i, hi⟩ := List.getElem?_of_mem hv
      have := (VRo_iff news vs).1 hnv
      have hlt : i < news.length := by rw [hvl]; exact (List.getElem?_eq_some_iff.1 hi).1
      exact (this.2 i _ v (List.getElem?_eq_getElem hlt) hi).1)
    have hb' : bsz w' (g.mu id).1 = bsz g.w (g.mu id).1 := by rw [hbz]; simp [bsz, z2, z3]
    have hs := step_block (g' := g.put id ⟨.row, window bl.cells 0 (len * s) ++ news⟩ w') hI id ⟨.row, window bl.cells 0 (len * s) ++ news⟩ rfl (fun _ _ => rfl) (fun k => by simp [Gh.put, BS.open_]) z7 z8 z9 (by simp [Gh.put, z6])
      (fun k _ hk => z5 k hk) (.inl ⟨bl, q1, by rw [hst]; rfl, rfl⟩) (.inl hb')
      (fun b1 hb1 => by
        rw [q1] at hb1; obtain rfl := Option.some.inj hb1
        refine ⟨by rw [hst]; rfl, by rw [hlen]; omega, fun e => ?_⟩
        rw [hlen] at e; omega)
      (by have := (Array.getElem?_eq_some_iff.1 y1).1; simp only [Gh.put, z6]; exact this)
      (fun hvr hvn => ⟨cs', ct, z2, VRc_of_cells z2 (fun i a hi => by
        have hii : i < (len + n) * s := by rw [← hlen]; exact (List.getElem?_eq_some_iff.1 hi).1
        rw [Nat.add_mul] at hii
        by_cases h2 : i < len * s
        · rw [List.getElem?_append_left (by rw [hwl]; exact h2), window_get, if_pos h2] at hi
          obtain ⟨v2, r1, r2, r3⟩ := cells_of_VRc y1 y2 _ a hi
          rw [hst] at r3
          refine ⟨v2, ?_, r2, hvn a v2 r3⟩
          show cs'[(g.mu id).2 + i]? = some v2
          rw [z4, if_neg (by omega), ← r1]
          congr 1; omega
        · rw [List.getElem?_append_right (by rw [hwl]; omega), hwl] at hi
          obtain ⟨v, k1, k2, k3⟩ := VRo_get hnv hi
          refine ⟨v, ?_, k2, hvn a v k3⟩
          show cs'[(g.mu id).2 + i]? = some v
          rw [z4, if_pos (by rw [← hvl, hnl]; omega), ← k1]
          congr 1; omega)⟩)
    refine ⟨_, _, hin hc w' z1, rfl, (hs (by simp) hnomp).1, (hs (by simp) hnomp).2, ?_⟩
    simp only [Gh.R, VR, RF]
    refine ⟨rfl, _, by simp only [Gh.put, hget_hset]; exact if_pos trivial, by simp only [hlen]; exact Nat.le_refl _, fun _ => ⟨o, cap', rfl, hc, hc, fun h => by simp at h, .inr ⟨d1, ?_⟩⟩⟩
    show o + cap' * s ≤ bsz w' (g.mu id).1
    rw [hb']; exact d2
  · obtain ⟨cs, hr, ⟨rest, h1⟩, h2⟩ := hout (by omega)
    let g' : Gh := { mu := fun j => if j = id then (g.w.heap.size, 0) else g.mu j, fz := g.fz, H := hset g.H id ⟨.row, window bl.cells 0 (len * s) ++ news⟩, w := g.w.drew.alloc (.cells cs e) }
    have hmu : g'.mu id = (g.w.heap.size, 0) := by simp [g']
    have hgw : g'.w.heap = g.w.heap.push (.cells cs e) := rfl
    have hs := step_block (g' := g') hI id ⟨.row, window bl.cells 0 (len * s) ++ news⟩ rfl (fun j hj => by simp [g', hj]) (fun k => by simp [g', BS.open_]) rfl rfl rfl (by rw [hgw]; simp)
      (fun k hk hne => by
        rw [hmu] at hne
        rw [hgw, Array.getElem?_push, if_neg (by simpa using hne)])
      (.inr (by rw [hmu]; exact Nat.le_refl _)) (.inr (by rw [hmu]; exact Nat.le_refl _))
      (fun b1 hb1 => by
        rw [q1] at hb1; obtain rfl := Option.some.inj hb1
        refine ⟨by rw [hst]; rfl, by rw [hlen]; omega, fun e => ?_⟩
        rw [hlen] at e; omega)
      (by rw [hmu, hgw]; simp)
      (fun hvr hvn => by
        rw [hmu]
        refine ⟨cs, e, by rw [hgw]; simp, VRc_of_cells (cs := cs) (t := e) (by rw [hgw]; simp) (fun i a hi => ?_)⟩
        obtain ⟨v, k1, k2, k3⟩ := hval hall i a hi
        refine ⟨v, ?_, k2, hvn a v k3⟩
        rw [Nat.zero_add, ← Array.getElem?_toList, h1, List.getElem?_append_left (List.getElem?_eq_some_iff.1 k1).1]
        exact k1)
    refine ⟨_, g', hr, rfl, (hs (by simp) hnomp).1, (hs (by simp) hnomp).2, ?_⟩
    simp only [Gh.R, VR, RF]
    refine ⟨rfl, _, by simp only [g', hget_hset]; exact if_pos trivial, by simp only [hlen]; exact Nat.le_refl _, fun _ => ⟨0, nc, by rw [hmu], hnc, hnc, fun h => by simp at h, .inr ⟨by rw [hmu], ?_⟩⟩⟩
    rw [hmu, ← h2, Nat.zero_add]
    exact Nat.le_of_eq (bsz_push _ _ _).symm

theorem append_ok (hE : EnvOK P E) (hI : Inv E g) {ts : Array TypeId} {t u e e' : TypeId} {sz site : Nat} (h0 : ts[0]? = some t) (h1 : ts[1]? = some u) (ht : P.underlying t = some (.slice e)) (hu : P.underlying u = some (.slice e'))
    (hsz : tsz E.T e = some sz) (hpos : 0 < sz) {s x : AV} {sv xv : Value} (hs : g.R s sv) (hx : g.R x xv) {r : AV × Ups} (h : (aAppend E.T site e sz s x).run g.H = some r) (ty : TypeId) :
    Done E g r ((Builtin.append_ ts ty #[sv, xv]).run P g.w) := by
  obtain ⟨inf, hi, hsize⟩ := tsz_ok hE hsz
  unfold aAppend at h
  obtain ⟨⟨n, news⟩, k1, k2⟩ := Rd.run_bind_some h
  obtain ⟨ao, c, vs, rfl, hnl, hnv, hnf, hnd⟩ := src_drew (P := P) hI k1 hx
  have hvl := VRo_length hnv
  simp only at k2
  have hvs0 : n = 0 → vs = [] := by
    intro h; subst h
    exact List.length_eq_zero_iff.1 (by rw [← hvl, hnl]; simp)
  have hn0 : n = 0 → (Builtin.firstCells inf.size n (.slice ao n c)).run P g.w = .ok #[] g.w := by
    intro h
    rw [hsize]
    have := hvs0 h; subst this
    exact hnf
  cases s <;> simp only at k2 <;> try (simp [Rd.run] at k2; done)
  · -- nil
    simp only [Gh.R, VR] at hs
    subst hs
    split at k2
    · rename_i hz
      simp only [Rd.run, Option.some.injEq] at k2; subst k2
      subst hz
      have := run_append_in (P := P) (w' := g.w) (base := none) (sLen := 0) (sCap := 0) h0 h1 ht hu hi (hn0 rfl) (by omega) rfl ty
      exact Done.same hI (by simpa using this) (by simp only [Gh.R, VR])
    · rename_i hz
      split at k2
      · rename_i hroom
        obtain ⟨us, m1, m2⟩ := Rd.run_bind_some k2
        obtain ⟨m3, rfl⟩ := fresh_run m1
        simp only [Rd.run, Option.some.injEq] at m2; subst m2
        obtain ⟨inf', zv, r1, r2, r3, r4, r5⟩ := room_ok hE hroom
        rw [hi] at r1; obtain rfl := Option.some.inj r1
        have hrun := run_append_out (P := P) (w := g.w) (base := none) (sLen := 0) (sCap := 0) (olds := #[]) h0 h1 ht hu hi r2 (by rw [hsize]; exact hnd) (by simp [Builtin.firstCells]) (by omega) r3 (by simpa using r5) ty
        simp only [Nat.zero_add] at hrun
        have hd := grow_new (site := site) (need := n) (sz := sz) (cap := grownCap g.w n 0 e) (e := e) (C := vs) (rest := (Builtin.zeroCells zv.cells (grownCap g.w n 0 e - n)).toList) hI m3 hnv hnl
          (cs := #[] ++ vs.toArray ++ Builtin.zeroCells zv.cells (grownCap g.w n 0 e - n)) (by simp) (by
            have := grownCap_ge g.w n 0 e
            simp only [Array.size_append, zc_size, List.size_toArray, ← hvl, hnl, r4, hsize]
            rw [Nat.sub_mul]
            have := Nat.mul_le_mul_right sz this
            simp; omega) (grownCap_ge _ _ _ _) hrun
        rw [hnl]
        exact hd
      · simp [Rd.run] at k2
  · -- nobody writes it
    rename_i cells len ex
    have hsR := hs
    simp only [Gh.R, VR] at hs
    obtain ⟨b, o, cap, rfl, c1, c2, c3⟩ := hs
    split at k2
    · rename_i hz
      simp only [Rd.run, Option.some.injEq] at k2; subst k2
      subst hz
      have := run_append_in (P := P) (w' := g.w) (base := some ⟨b, o, none⟩) (sLen := len) (sCap := cap) h0 h1 ht hu hi (hn0 rfl) (by omega) rfl ty
      exact Done.same hI (by simpa using this) hsR
    · rename_i hz
      split at k2
      · rename_i hb
        obtain ⟨hex, hcl, hroom⟩ := hb
        obtain ⟨us, m1, m2⟩ := Rd.run_bind_some k2
        obtain ⟨m3, rfl⟩ := fresh_run m1
        simp only [Rd.run, Option.some.injEq] at m2; subst m2
        have := c2 hex; subst this
        obtain ⟨inf', zv, r1, r2, r3, r4, r5⟩ := room_ok hE hroom
        rw [hi] at r1; obtain rfl := Option.some.inj r1
        obtain ⟨ao1, c1', olds, e1, e2, e3, _, e5⟩ := src_drew (P := P) (x := .imm cells cap ex) (sz := sz) (n := cap) (cells := cells) hI (by simp [srcOf, hcl, Rd.run]) hsR
        have hrun := run_append_out (P := P) (w := g.w) (base := some ⟨b, o, none⟩) (sLen := cap) (sCap := cap) (olds := olds.toArray) h0 h1 ht hu hi r2 (by rw [hsize]; exact hnd) (by rw [hsize]; exact e5) (by omega) r3 r5 ty
        have hol := VRo_length e3
        have hd := grow_new (site := site) (need := cap + n) (sz := sz) (cap := grownCap g.w (cap + n) cap e) (e := e) (C := olds ++ vs) (rest := (Builtin.zeroCells zv.cells (grownCap g.w (cap + n) cap e - (cap + n))).toList) hI m3
          (VRo_append e3 hnv) (by rw [List.length_append, e2, hnl, Nat.add_mul])
          (cs := olds.toArray ++ vs.toArray ++ Builtin.zeroCells zv.cells (grownCap g.w (cap + n) cap e - (cap + n))) rest_of (by
            have := grownCap_ge g.w (cap + n) cap e
            simp only [Array.size_append, zc_size, List.size_toArray, ← hvl, hnl, r4, hsize, ← hol, e2]
            rw [Nat.sub_mul]
            have := Nat.mul_le_mul_right sz this
            rw [Nat.add_mul] at this ⊢
            omega) (grownCap_ge _ _ _ _) hrun
        rw [e2, hnl, ← Nat.add_mul]
        exact hd
      · simp [Rd.run] at k2
  · -- ours
    rename_i id off len cap gl s ex
    have hsR := hs
    split at k2
    · rename_i hss; subst hss
      obtain ⟨bl, j1, j2⟩ := Rd.run_bind_some k2
      obtain ⟨q1, q2, o, cap', rfl, c0, c1, c2, c3⟩ := live_ref hs j1
      split at j2
      · rename_i hz
        simp only [Rd.run, Option.some.injEq] at j2; subst j2
        subst hz
        have := run_append_in (P := P) (w' := g.w) (base := some ⟨(g.mu id).1, o, none⟩) (sLen := len) (sCap := cap') h0 h1 ht hu hi (hn0 rfl) (by omega) rfl ty
        exact Done.same hI (by simpa using this) hsR
      · rename_i hz
        split at j2
        · -- in place
          rename_i hin
          cases hst : bl.st <;> rw [hst] at j2 <;> simp only at j2 <;> try (simp [Rd.run] at j2; done)
          split at j2
          · rename_i hle
            simp only [Rd.run, Option.some.injEq] at j2; subst j2
            have hcap : cap' ≠ 0 := by omega
            obtain ⟨d1, d2⟩ := c3.resolve_left hcap
            obtain ⟨w', e1, e2, e3⟩ := write_block (P := P) (vs := news) (us := vs) (off := off + len * s) hI q1 (by rw [hst]; rfl) (by rw [hst]; simp) (by rw [hnl, Nat.add_assoc, ← Nat.add_mul]; omega) (by rw [hst]; exact hnv)
            rw [hst] at e2 e3
            have hrun := run_append_in (P := P) (w' := w') (base := some ⟨(g.mu id).1, o, none⟩) (sLen := len) (sCap := cap') h0 h1 ht hu hi (by rw [hsize]; exact hnf) (by omega) (by
              simp only [add_none, hsize, d1]
              rw [Nat.add_assoc]
              exact e1) ty
            refine ⟨_, _, hrun, rfl, e2, e3, ?_⟩
            have hb : bsz w' (g.mu id).1 = bsz g.w (g.mu id).1 := by
              have h3 := e3.vr _ _ hsR
              obtain ⟨cs, tt, y1, y2⟩ := (hI.blk id bl q1).cells (by rw [hst]; simp)
              by_cases hnil : vs = []
              · subst hnil
                have : g.w = w' := by
                  have := storeNil (P := P) (a := ⟨(g.mu id).1, (g.mu id).2 + (off + len * s), none⟩) (w := g.w)
                  rw [this] at e1; injection e1
                rw [this]
              · have y3 := VRc_bsz y2 (by rw [← q2]; have := Nat.mul_pos (show 0 < len + n from by omega) hpos; omega)
                have y4 : bsz g.w (g.mu id).1 = cs.size := by simp [bsz, y1]
                obtain ⟨w2, cs', z1, z2, z3, _⟩ := run_storeCells (P := P) vs g.w (g.mu id).1 ((g.mu id).2 + (off + len * s)) 0 cs tt y1 (by
                  rw [← hvl, hnl, ← y4]
                  rw [Nat.add_mul] at hle
                  omega) (fun v hv => by
                    obtain ⟨i, hi⟩ := List.getElem?_of_mem hv
                    have := (VRo_iff news vs).1 hnv
                    have hlt : i < news.length := by rw [hvl]; exact (List.getElem?_eq_some_iff.1 hi).1
                    exact (this.2 i _ v (List.getElem?_eq_getElem hlt) hi).1)
                rw [e1] at z1
                injection z1 with _ z1
                subst z1
                rw [y4]; simp [bsz, z2, z3]
            simp only [Gh.R, VR, RF]
            refine ⟨rfl, ⟨.row, putC bl.cells (off + len * s) news⟩, by simp [Gh.put, hget_hset], by simp only [putC_length]; omega, fun _ => ⟨o, cap', rfl, by omega, c1, c2, .inr ⟨d1, ?_⟩⟩⟩
            show o + cap' * s ≤ bsz w' (g.mu id).1
            rw [hb]; exact d2
          · simp [Rd.run] at j2
        · rename_i hout
          split at j2
          · rename_i hb
            obtain ⟨hroom, hle⟩ := hb
            obtain ⟨inf', zv, r1, r2, r3, r4, r5⟩ := room_ok hE hroom
            rw [hi] at r1; obtain rfl := Option.some.inj r1
            -- what is there now
            have hold : ∀ (hst : bl.st ≠ .box), ∃ olds : List Value, VRo g.fz g.w (window bl.cells off (len * s)) noRef olds ∧ (Builtin.firstCells inf.size len (.slice (some ⟨(g.mu id).1, o, none⟩) len cap')).run P g.w.drew = .ok olds.toArray g.w.drew := by
              intro hst
              obtain ⟨ao1, c1', olds, e1, e2, e3, _, e5⟩ := src_drew (P := P) (x := .ref id off len cap gl s ex) (sz := s) (n := len) (cells := window bl.cells off (len * s)) hI (by
                simp only [srcOf, if_true]
                rw [Rd.run_bind, j1]
                simp only
                cases hs2 : bl.st
                · exact absurd hs2 hst
                · simp only [if_pos (show off + len * s ≤ bl.cells.length from by omega), Rd.run]
                · simp only [if_pos (show off + len * s ≤ bl.cells.length from by omega), Rd.run]
                · exact absurd hs2 (liveBlk_st j1)) hsR
              exact ⟨olds, e3, by rw [hsize]; exact e5⟩
            have hwl := window_length bl.cells off (len * s) (by omega)
            split at j2
            · -- to a new place
              rename_i hex
              have hcc := c2 hex
              have main : bl.st ≠ .box → ((fresh site ⟨.row, window bl.cells off (len * s) ++ news⟩).bind fun f => (Rd.pure (.ref site 0 (len + n) (len + n) ((len + n) * s) s false, f) : Rd (AV × Ups))).run g.H = some r →
                  Done E g r ((Builtin.append_ ts ty #[.slice (some ⟨(g.mu id).1, o, none⟩) len cap', .slice ao n c]).run P g.w) := by
                intro hst j2
                obtain ⟨us, m1, m2⟩ := Rd.run_bind_some j2
                obtain ⟨m3, rfl⟩ := fresh_run m1
                simp only [Rd.run, Option.some.injEq] at m2; subst m2
                obtain ⟨olds, e3, e5⟩ := hold hst
                have hol := VRo_length e3
                have hrun := run_append_out (P := P) (w := g.w) (base := some ⟨(g.mu id).1, o, none⟩) (sLen := len) (sCap := cap') (olds := olds.toArray) h0 h1 ht hu hi r2 (by rw [hsize]; exact hnd) e5 (by omega) r3 r5 ty
                exact grow_new (site := site) (need := len + n) (sz := s) (cap := grownCap g.w (len + n) cap' e) (e := e) (C := olds ++ vs) (rest := (Builtin.zeroCells zv.cells (grownCap g.w (len + n) cap' e - (len + n))).toList) hI m3
                  (VRo_append e3 hnv) (by rw [List.length_append, hwl, hnl, Nat.add_mul])
                  (cs := olds.toArray ++ vs.toArray ++ Builtin.zeroCells zv.cells (grownCap g.w (len + n) cap' e - (len + n))) rest_of (by
                    have := grownCap_ge g.w (len + n) cap' e
                    simp only [Array.size_append, zc_size, List.size_toArray, ← hvl, hnl, r4, hsize, ← hol, hwl]
                    rw [Nat.sub_mul]
                    have := Nat.mul_le_mul_right s this
                    rw [Nat.add_mul] at this ⊢
                    omega) (grownCap_ge _ _ _ _) hrun
              cases hst : bl.st <;> rw [hst] at j2 <;> simp only at j2
              · simp [Rd.run] at j2
              · exact main (by rw [hst]; simp) j2
              · exact main (by rw [hst]; simp) j2
              · exact absurd hst (liveBlk_st j1)
            · -- at its own place or at another one
              cases hst : bl.st <;> rw [hst] at j2 <;> simp only at j2 <;> try (simp [Rd.run] at j2; done)
              split at j2
              · rename_i hb2
                obtain ⟨rfl, hgl⟩ := hb2
                simp only [Rd.run, Option.some.injEq] at j2; subst j2
                obtain ⟨olds, e3, e5⟩ := hold (by rw [hst]; simp)
                have hol := VRo_length e3
                have hlt : gl < (len + n) * s := by rw [← hgl]; exact Nat.mul_lt_mul_of_pos_right (by omega) hpos
                refine regrow (P := P) (e := e) hI (bl := bl) q1 hst q2 hsR hol e3 hnv (by rw [hwl]) hnl hlt (by omega) hpos c0 c1 c3 ?_ ?_ (grownCap_ge g.w (len + n) cap' e)
                · intro hle2 w' hw
                  refine run_append_in (P := P) (w' := w') (base := some ⟨(g.mu id).1, o, none⟩) (sLen := len) (sCap := cap') h0 h1 ht hu hi (by rw [hsize]; exact hnf) hle2 ?_ ty
                  simp only [add_none, hsize]
                  exact hw
                · intro hgt
                  refine ⟨_, run_append_out (P := P) (w := g.w) (base := some ⟨(g.mu id).1, o, none⟩) (sLen := len) (sCap := cap') (olds := olds.toArray) h0 h1 ht hu hi r2 (by rw [hsize]; exact hnd) e5 hgt r3 r5 ty, ⟨_, rest_of⟩, ?_⟩
                  have := grownCap_ge g.w (len + n) cap' e
                  simp only [Array.size_append, zc_size, List.size_toArray, ← hvl, hnl, r4, hsize, ← hol, hwl]
                  rw [Nat.sub_mul]
                  have := Nat.mul_le_mul_right s this
                  rw [Nat.add_mul] at this ⊢
                  omega
              · simp [Rd.run] at j2
          · simp [Rd.run] at j2
    · simp [Rd.run] at k2

end
end Go.AM
