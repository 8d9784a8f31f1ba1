/- Stores; structs, arrays and slices out of parts; made slices. Own work of this project. -/
import Derived.Test.YtikchlfbjdfioaaAmL
import Derived.Laws.Tables
namespace Go.AM
section
variable {P : Program} {E : Env} {g : Gh}

theorem snapsO {fz fz' : Nat → Prop} {w : World} {rf : RFt} {as as' : List AV} {vs : List Value} (hl : as'.length = as.length)
    (hs : ∀ (i : Nat) (a a' : AV), as[i]? = some a → as'[i]? = some a' → ∀ v, VR fz w a rf v → VR fz' w a' noRef v) (h : VRo fz w as rf vs) : VRo fz' w as' noRef vs := by
  rw [VRo_iff] at h ⊢
  refine ⟨hl.trans h.1, fun i a u q1 q2 => ?_⟩
  have hlt : i < as.length := by rw [← hl]; exact (List.getElem?_eq_some_iff.1 q1).1
  obtain ⟨r1, r2⟩ := h.2 i _ u (List.getElem?_eq_getElem hlt) q2
  exact ⟨r1, hs i _ _ (List.getElem?_eq_getElem hlt) q1 u r2⟩

theorem store_ok (hE : EnvOK P E) (hI : Inv E g) {t : TypeId} {x v : AV} {xv vv : Value} {us : Ups} (h : (aStore E.T t x v).run g.H = some us) (hx : g.R x xv) (hv : g.R v vv) :
    ∃ g', (Instr.storeAt t xv vv).run P g.w = .ok () g'.w ∧ g'.H = upds g.H us ∧ Inv E g' ∧ Adv g g' := by
  unfold aStore at h
  split at h
  · rename_i id off gl vs n ha hn
    obtain ⟨inf, hi, hsz⟩ := tsz_ok hE hn
    have hvs := acells_ok ha hv
    have hlen : vs.length = vv.cells.size := by simpa using VRo_length hvs
    split at h
    · rename_i hle
      obtain ⟨bl, k1, k2⟩ := Rd.run_bind_some h
      obtain ⟨q1, q2, rfl⟩ := live_ptr hx k1
      have hrun : ∀ w', (storeCells ⟨(g.mu id).1, (g.mu id).2 + off, none⟩ vv.cells.toList).run P g.w = .ok () w' → (Instr.storeAt t (.pointer (some ⟨(g.mu id).1, (g.mu id).2 + off, none⟩)) vv).run P g.w = .ok () w' := by
        intro w' hw
        simp only [Instr.storeAt, Instr.sureAddr, storeVar, Sem.run_bind, Sem.run_pure, Result.andThen_ok, run_size hi, hsz]
        rw [if_neg (by rw [← hlen, hle.1]; simp)]
        exact hw
      split at k2
      · rename_i hst
        simp only [Rd.run, Option.some.injEq] at k2; subst k2
        obtain ⟨w', e1, e2, e3⟩ := write_block (P := P) (vs := vs) (off := off) hI q1 (by rw [hst]; rfl) (by rw [hst]; simp) (by omega) (by rw [hst]; exact hvs)
        rw [hst] at e2 e3
        exact ⟨_, hrun _ e1, rfl, e2, e3⟩
      · rename_i hst
        obtain ⟨⟨xs, V⟩, m1, m2⟩ := Rd.run_bind_some k2
        simp only at m2
        split at m2
        · simp [Rd.run] at m2
        · rename_i hnot
          obtain ⟨us1, m3, m4⟩ := Rd.run_bind_some m2
          simp only [Rd.run, Option.some.injEq] at m4; subst m4
          obtain ⟨g1, d1, d2, d3, d4, d5, d6, d7, d8, d9⟩ := frz_ok hI m3
          obtain ⟨s1, s2⟩ := snaps_ok hI (fz' := g1.fz) d5.fz' 100 vs xs V m1 d6
          have hxs := snapsO s1 s2 hvs
          rw [← d1] at hxs
          obtain ⟨w', e1, e2, e3⟩ := write_block (P := P) (vs := xs) (off := off) d4 ((d7 id hnot).trans q1) (by rw [hst]; rfl) (by rw [hst]; simp) (by omega) (by rw [hst]; exact hxs)
          rw [d2, d1] at e1
          rw [hst] at e2 e3
          exact ⟨_, hrun _ e1, by rw [upds_append, ← d3]; rfl, e2, d5.trans e3⟩
      · simp [Rd.run] at k2
    · simp [Rd.run] at h
  · simp [Rd.run] at h

/-! ### Values out of parts -/
theorem fold_get (off : Nat) : ∀ (l : List Value) (k : Nat) (C : Array Value),
    ((l.zipIdx k).foldl (fun cs p => cs.setIfInBounds (off + p.2) p.1) C).size = C.size ∧
    ∀ i, off + k + l.length ≤ C.size → ((l.zipIdx k).foldl (fun cs p => cs.setIfInBounds (off + p.2) p.1) C)[i]? = if off + k ≤ i ∧ i < off + k + l.length then l[i - (off + k)]? else C[i]?
  | [], k, C => ⟨rfl, fun i _ => by rw [if_neg (by simp only [List.length_nil]; omega)]; rfl⟩
  | v :: l, k, C => by
    simp only [List.zipIdx_cons, List.foldl_cons, List.length_cons]
    obtain ⟨h1, h2⟩ := fold_get off l (k + 1) (C.setIfInBounds (off + k) v)
    refine ⟨by rw [h1]; simp, fun i hi => ?_⟩
    rw [h2 i (by simp; omega)]
    by_cases h3 : off + (k + 1) ≤ i ∧ i < off + (k + 1) + l.length
    · rw [if_pos h3, if_pos (by omega), show i - (off + k) = (i - (off + (k + 1))) + 1 from by omega, List.getElem?_cons_succ]
    · rw [if_neg h3]
      by_cases h4 : i = off + k
      · subst h4
        rw [if_pos (by omega), Nat.sub_self, Array.getElem?_setIfInBounds_self_of_lt (by omega)]
        rfl
      · rw [if_neg (by omega), Array.getElem?_setIfInBounds_ne (by omega)]

theorem fill_step (C : Array Value) (V : Array Value) (off : Nat) : V.zipIdx.foldl (fun cs (x : Value × Nat) => cs.setIfInBounds (off + x.2) x.1) C = (V.toList.zipIdx 0).foldl (fun cs p => cs.setIfInBounds (off + p.2) p.1) C := by
  rw [← Array.foldl_toList, Array.toList_zipIdx]

theorem putC_VRo {fz : Nat → Prop} {w : World} {rf : RFt} {cells vs : List AV} {C V : Array Value} {off : Nat} (hC : VRo fz w cells rf C.toList) (hV : VRo fz w vs rf V.toList) (hle : off + vs.length ≤ cells.length) :
    VRo fz w (putC cells off vs) rf (V.zipIdx.foldl (fun cs (x : Value × Nat) => cs.setIfInBounds (off + x.2) x.1) C).toList := by
  have l1 := VRo_length hC
  have l2 := VRo_length hV
  simp only [Array.length_toList] at l1 l2
  rw [fill_step]
  obtain ⟨f1, f2⟩ := fold_get off V.toList 0 C
  rw [VRo_iff]
  refine ⟨by rw [putC_length]; exact l1.trans (f1.symm.trans (by simp)), fun i a u h1 h2 => ?_⟩
  rw [putC_get vs cells off i hle] at h1
  rw [Array.getElem?_toList, f2 i (by simp; omega)] at h2
  simp only [Nat.add_zero, Array.length_toList] at h2
  by_cases hr : off ≤ i ∧ i < off + vs.length
  · rw [if_pos hr] at h1
    rw [if_pos (by omega)] at h2
    exact ((VRo_iff vs _).1 hV).2 _ a u h1 h2
  · rw [if_neg hr] at h1
    rw [if_neg (by omega)] at h2
    exact ((VRo_iff cells _).1 hC).2 i a u h1 (by simpa using h2)

theorem fill_ok {ρ : Operand → AV} {ρv : Operand → Value} (hρ : ∀ x, g.R (ρ x) (ρv x)) (place : Nat → Option (Nat × Nat)) :
    ∀ (parts : List (Nat × Operand)) (ps : List (Option (Nat × Nat) × List AV)) (cells cells' : List AV) (C : Array Value), partsOf ρ place parts = some ps → fillA cells ps = some cells' → VRo g.fz g.w cells (RF g) C.toList →
      ∃ C', Instr.fill place C (parts.map fun p => (p.1, ρv p.2)) = some C' ∧ VRo g.fz g.w cells' (RF g) C'.toList
  | [], ps, cells, cells', C, h1, h2, hC => by
    simp only [partsOf, Option.some.injEq] at h1; subst h1
    simp only [fillA, Option.some.injEq] at h2; subst h2
    exact ⟨C, rfl, hC⟩
  | (i, x) :: rest, ps, cells, cells', C, h1, h2, hC => by
    simp only [partsOf] at h1
    split at h1
    · rename_i vs r ha hr
      obtain rfl := Option.some.inj h1
      simp only [fillA] at h2
      cases hp : place i with
      | none => rw [hp] at h2; simp at h2
      | some os =>
        obtain ⟨off, size⟩ := os
        rw [hp] at h2
        simp only at h2
        split at h2
        · exact absurd h2 (by simp)
        · rename_i hb
          have hV := acells_ok ha (hρ x)
          have l1 := VRo_length hC
          have l2 := VRo_length hV
          simp only [Array.length_toList] at l1 l2
          obtain ⟨C', q1, q2⟩ := fill_ok hρ place rest r (putC cells off vs) cells' _ hr h2 (putC_VRo (off := off) hC hV (by omega))
          refine ⟨C', ?_, q2⟩
          simp only [List.map_cons, Instr.fill, hp]
          rw [if_neg (by simp only [ne_eq, Bool.or_eq_true, decide_eq_true_eq] ; omega)]
          exact q1
    · exact absurd h1 (by simp)

theorem places_ok : ∀ (fs : List Field), (∀ f ∈ fs, ∃ i, P.info? f.type = some i) → fs.mapM (fun f => (P.info? f.type).map fun i => (f.offset, i.size)) = some (fs.map fun f => (f.offset, P.cellsOf f.type))
  | [], _ => rfl
  | f :: fs, h => by
    obtain ⟨i, hi⟩ := h f (by simp)
    have ih := places_ok fs (fun x hx => h x (by simp [hx]))
    simp [List.mapM_cons, hi, ih, Program.cellsOf]

theorem build_ok (hE : EnvOK P E) {ρ : Operand → AV} {ρv : Operand → Value} (hρ : ∀ x, g.R (ρ x) (ρv x)) {t : TypeId} {parts : Array (Nat × Operand)} {a : AV} (h : aBuild E.T t ρ parts.toList = some a) :
    ∃ v', (Instr.build t (parts.map fun p => (p.1, ρv p.2))).run P g.w = .ok v' g.w ∧ g.R a v' := by
  unfold aBuild at h
  split at h
  · rename_i fs qq sz by_ z hT
    obtain ⟨inf, zv, h1, h2, h3, h4, h5, h6⟩ := zero_ok g hE hT rfl
    obtain ⟨_, _, _, _, _, fa, hu, hfs, hinf, _⟩ := hE.ty t _ hT
    split at h
    · rename_i ps hps
      cases hf : fillA z ps with
      | none => rw [hf] at h; simp at h
      | some cells =>
        rw [hf] at h; simp only [Option.map_some, Option.some.injEq] at h; subst h
        have hpl : placeF fs = fun i => (fa.toList.map fun f => (f.offset, P.cellsOf f.type)).toArray[i]? := by
          funext i
          simp only [placeF, hfs, List.getElem?_map, List.getElem?_toArray]
          cases fa.toList[i]? <;> rfl
        rw [hpl] at hps
        obtain ⟨C', q1, q2⟩ := fill_ok hρ _ parts.toList ps z cells zv.cells hps hf (h6 _ _ _)
        refine ⟨.agg C', run_build g.w t _ C' ?_, by simp only [Gh.R, VR]; exact ⟨C', rfl, q2⟩⟩
        simp only [Program.built, h1, hu, h2, places_ok fa.toList hinf, Array.toList_map]
        exact q1
    · exact absurd h (by simp)
  · rename_i n e q sz by_ z hT
    obtain ⟨inf, zv, h1, h2, h3, h4, h5, h6⟩ := zero_ok g hE hT rfl
    have hu := kind_arr hE hT
    split at h
    · rename_i es hs
      obtain ⟨ie, hie, hes⟩ := tsz_ok hE hs
      split at h
      · rename_i ps hps
        cases hf : fillA z ps with
        | none => rw [hf] at h; simp at h
        | some cells =>
          rw [hf] at h; simp only [Option.map_some, Option.some.injEq] at h; subst h
          obtain ⟨C', q1, q2⟩ := fill_ok hρ _ parts.toList ps z cells zv.cells hps hf (h6 _ _ _)
          refine ⟨.agg C', run_build g.w t _ C' ?_, by simp only [Gh.R, VR]; exact ⟨C', rfl, q2⟩⟩
          simp only [Program.built, h1, hu, h2, hie, hes, Array.toList_map]
          exact q1
      · exact absurd h (by simp)
    · exact absurd h (by simp)
  · exact absurd h (by simp)

/-! ### Zeros, again and again -/
theorem repC_get (z : List AV) : ∀ (n i : Nat), 0 < z.length → (repC z n)[i]? = if i < n * z.length then z[i % z.length]? else none
  | 0, i, _ => by simp [repC]
  | n + 1, i, h => by
    simp only [repC]
    rw [List.getElem?_append]
    by_cases h1 : i < z.length
    · rw [if_pos h1, if_pos (by rw [Nat.succ_mul]; omega), Nat.mod_eq_of_lt h1]
    · rw [if_neg h1, repC_get z n _ h, Nat.succ_mul, Nat.mod_eq_sub_mod (by omega : i ≥ z.length)]
      by_cases h2 : i - z.length < n * z.length
      · rw [if_pos h2, if_pos (by omega)]
      · rw [if_neg h2, if_neg (by omega)]
theorem repC_length (z : List AV) : ∀ (n : Nat), (repC z n).length = n * z.length
  | 0 => by simp [repC]
  | n + 1 => by simp only [repC, List.length_append, repC_length z n, Nat.succ_mul]; omega

theorem zeros_ok {fz : Nat → Prop} {w : World} {rf : RFt} {z : List AV} {Z : Array Value} (h : VRo fz w z rf Z.toList) (hz : 0 < z.length) (n : Nat) :
    VRo fz w (repC z n) rf ((Array.range (n * Z.size)).map (fun i => Z[i % Z.size]!)).toList := by
  have hl := VRo_length h
  simp only [Array.length_toList] at hl
  rw [VRo_iff]
  refine ⟨by simp [repC_length, hl], fun i a u h1 h2 => ?_⟩
  rw [repC_get z n i hz] at h1
  split at h1
  · rename_i hi
    have : i % Z.size < Z.size := Nat.mod_lt _ (by omega)
    have h3 : u = Z[i % Z.size]! := by
      have h4 : i < n * Z.size := by rw [← hl]; exact hi
      simp [h4] at h2
      rw [← h2]
    have h5 : Z.toList[i % Z.size]? = some u := by
      rw [h3, Array.getElem?_toList]
      simp [this]
    rw [hl] at h1
    exact ((VRo_iff z _).1 h).2 _ a u h1 h5
  · exact absurd h1 (by simp)

theorem new_cells (hI : Inv E g) {site : Nat} (hfree : hget g.H site = none) {cells : List AV} {cs : Array Value} {t : TypeId} {rest : List Value} (hc : ∃ C, VRo g.fz g.w cells noRef C ∧ cs.toList = C ++ rest)
    {w' : World} (hh : w'.heap = g.w.heap.push (.cells cs t)) (hos : w'.os = g.w.os) (htape : w'.tape = g.w.tape) (hout : w'.output = g.w.output) :
    Inv E (g.new site .row cells w') ∧ Adv g (g.new site .row cells w') := by
  obtain ⟨C, h1, h2⟩ := hc
  refine new_block (t := t) hI hfree rfl (by simp) (fun i a hi => ?_) hh hos htape hout
  obtain ⟨u, q1, q2, q3⟩ := VRo_get h1 hi
  refine ⟨u, ?_, q2, q3⟩
  rw [← Array.getElem?_toList, h2, List.getElem?_append_left (List.getElem?_eq_some_iff.1 q1).1]
  exact q1

/-- A slice of a row that was just made. -/
theorem row_R {site : Nat} {cells : List AV} {w' : World} {len cap cap' sz : Nat} {ex : Bool} (h1 : len ≤ cap') (h2 : cap ≤ cap') (h3 : ex = true → cap' = cap) (h4 : cap' = 0 ∨ cap' * sz ≤ bsz w' g.w.heap.size) :
    (g.new site .row cells w').R (.ref site 0 len cap cells.length sz ex) (.slice (some ⟨g.w.heap.size, 0, none⟩) len cap') := by
  simp only [Gh.R, VR, RF]
  refine ⟨rfl, _, new_get site .row cells w', Nat.le_refl _, fun _ => ⟨0, cap', by simp [Gh.new], h1, h2, h3, ?_⟩⟩
  rcases h4 with h4 | h4
  · exact .inl h4
  · exact .inr ⟨by simp [Gh.new], by simpa [Gh.new] using h4⟩

theorem make_ok (hE : EnvOK P E) (hI : Inv E g) {t : TypeId} {site : Nat} {l c : AV} {lv cv : Value} (hl : g.R l lv) (hc : g.R c cv) {x : AV × Ups} (h : (aMake E.T site t l c).run g.H = some x) :
    Done E g x ((Instr.makeSlice t lv cv).run P g.w) := by
  unfold aMake at h
  split at h
  · rename_i e ln cn he hln hcn
    obtain ⟨k1, rfl⟩ := aNum_ok hln hl
    obtain ⟨k2, rfl⟩ := aNum_ok hcn hc
    unfold elemT at he
    split at he
    · rename_i e' _ _ _ hT
      obtain rfl := Option.some.inj he
      have hu := kind_slice hE hT
      split at h
      · rename_i i z hTe hz
        unfold zeroCells at hz
        rw [hTe] at hz
        obtain ⟨inf, zv, h1, h2, h3, h4, h5, h6⟩ := zero_ok g hE hTe hz
        split at h
        · rename_i hb
          obtain ⟨b1, b2, b3, b4, b5, b6, b7⟩ := hb
          obtain ⟨us, m1, m2⟩ := Rd.run_bind_some h
          obtain ⟨m3, rfl⟩ := fresh_run m1
          simp only [Rd.run, Option.some.injEq] at m2; subst m2
          simp only [kHi] at b6
          have e1 : IntKind.i64.wrap ln = ln := by rw [← wrp_eq]; unfold wrp; rw [if_pos (by simp only [kLo, kHi]; omega)]
          have e2 : IntKind.i64.wrap cn = cn := by rw [← wrp_eq]; unfold wrp; rw [if_pos (by simp only [kLo, kHi]; omega)]
          have hZ := zeros_ok (h6 g.fz g.w noRef) (by omega) cn.toNat
          rw [h5, b1] at hZ
          have hrun : (Instr.makeSlice t (.int k1 ln) (.int k2 cn)).run P g.w = .ok (.slice (some ⟨g.w.heap.size, 0, none⟩) ln.toNat cn.toNat)
              { g.w with heap := g.w.heap.push (.cells ((Array.range (cn.toNat * i.size)).map (fun j => zv.cells[j % i.size]!)) e') } := by
            simp only [Instr.makeSlice, Sem.run_bind, run_under hu, Result.andThen_ok, asInt, asIntOf, Sem.run_pure, run_info h1, h4, e1, e2]
            rw [if_neg (by simp only [Bool.or_eq_true, decide_eq_true_eq]; omega)]
            simp only [Sem.run_bind, run_askRoom, Result.andThen_ok, run_size h1, h3, Sem.run_ite, Sem.run_pure]
            by_cases h0 : cn.toNat * i.size = 0
            · simp only [Result.andThen_ok, newRow, Sem.run_bind, run_newObj, Sem.run_pure, h0]
              simp [show Array.range 0 = #[] from rfl]
            · simp only [if_neg h0, zeroValue, Sem.run_bind, run_info h1, Result.andThen_ok, h2, Sem.run_pure, newRow, run_newObj, h5, b1]
          have hs := new_cells (t := e') (rest := []) (cs := (Array.range (cn.toNat * i.size)).map (fun j => zv.cells[j % i.size]!)) hI m3 ⟨_, hZ, by simp⟩
            (w' := { g.w with heap := g.w.heap.push (.cells ((Array.range (cn.toNat * i.size)).map (fun j => zv.cells[j % i.size]!)) e') }) rfl rfl rfl rfl
          refine ⟨_, _, hrun, rfl, hs.1, hs.2, ?_⟩
          have hR := row_R (g := g) (site := site) (cells := repC z cn.toNat) (len := ln.toNat) (cap := cn.toNat) (cap' := cn.toNat) (sz := i.size) (ex := false)
            (w' := { g.w with heap := g.w.heap.push (.cells ((Array.range (cn.toNat * i.size)).map (fun j => zv.cells[j % i.size]!)) e') })
            (by omega) (Nat.le_refl _) (fun _ => rfl) (.inr (by simp [bsz]))
          rw [repC_length, b1] at hR
          exact hR
        · simp [Rd.run] at h
      · simp [Rd.run] at h
    · exact absurd he (by simp)
  · simp [Rd.run] at h

end
end Go.AM
