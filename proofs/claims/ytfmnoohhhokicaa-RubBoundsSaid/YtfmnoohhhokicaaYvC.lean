/- A part of the proof of rubBounds_holds: RsC. Own work of this project; texts printed by own programs among it. -/
import Derived.Laws.Tables
import Derived.MapKept
import Derived.WideKeyRuns
import Derived.Test.YtfmnoohhhokicaaYvB
set_option maxRecDepth 1000000
set_option maxHeartbeats 16000000
noncomputable section
noncomputable section
namespace Go.AM
noncomputable section
variable {P : Program} {E : Env} {g : Gh}
theorem snapsO {fz fz' : Nat → Prop} {w : World} {rf : RFt} {asx as' : List AV} {vs : List Value} (hl : as'.length = asx.length)
   (hs : ∀ (i : Nat) (a a' : AV), asx[i]? = some a → as'[i]? = some a' → ∀ v, VR fz w a rf v → VR fz' w a' noRef v) (h : VRo fz w asx rf vs) : VRo fz' w as' noRef vs := by
 rw [ZD] at h ⊢
 refine ⟨hl.trans h.1, fun i a u q1 q2 => ?_⟩
 have hlt : i < asx.length := by rw [← hl]; exact (List.getElem?_eq_some_iff.1 q1).1
 obtain ⟨r1, r2⟩ := h.2 i _ u (List.getElem?_eq_getElem hlt) q2
 exact ⟨r1, hs i _ _ (List.getElem?_eq_getElem hlt) q1 u r2⟩
theorem ZMw (hE : EnvOK P E) (hI : Inv E g) {t : TypeId} {x v : AV} {xv vv : Value} {us : Ups} (h : (aStore E.T t x v).run g.H = some us) (hx : g.R x xv) (hv : g.R v vv) :
   ∃ g', (Instr.storeAt t xv vv).run P g.w = .ok () g'.w ∧ g'.H = upds g.H us ∧ Inv E g' ∧ Adv g g' := by
 unfold aStore at h
 split at h
 · rename_i id off gl vs n ha hn
   obtain ⟨inf, hi, hsz⟩ := Z0n hE hn
   have hvs := Z2V ha hv
   have hlen : vs.length = vv.cells.size := by simpa using Zy hvs
   split at h
   · rename_i hle
     obtain ⟨bl, k1, k2⟩ := Rd.run_bind_some h
     obtain ⟨q1, q2, rfl⟩ := Z3X hx k1
     have hrun : ∀ w', (storeCells ⟨(g.mu id).1, (g.mu id).2 + off, none⟩ vv.cells.toList).run P g.w = .ok () w' → (Instr.storeAt t (.pointer (some ⟨(g.mu id).1, (g.mu id).2 + off, none⟩)) vv).run P g.w = .ok () w' := by
       intro w' hw
       simp only [Instr.storeAt, Instr.sureAddr, storeVar, Sem.run_bind, Sem.run_pure, Result.andThen_ok, ZA hi, hsz]
       rw [if_neg (by rw [← hlen, hle.1]; simp)]
       exact hw
     split at k2
     · rename_i hst
       simp only [Rd.run, Option.some.injEq] at k2; subst k2
       obtain ⟨w', e1, e2, e3⟩ := Z19 (P := P) (vs := vs) (off := off) hI q1 (by rw [hst]; rfl) (by rw [hst]; simp) (by omega) (by rw [hst]; exact hvs)
       rw [hst] at e2 e3
       exact ⟨_, hrun _ e1, rfl, e2, e3⟩
     · rename_i hst
       obtain ⟨⟨xs, V⟩, m1, m2⟩ := Rd.run_bind_some k2
       simp only at m2
       split at m2
       · simp [Rd.run] at m2
       · rename_i hnot
         obtain ⟨us1, m3, m4⟩ := Rd.run_bind_some m2
         simp only [Rd.run, Option.some.injEq] at m4; subst m4
         obtain ⟨g1, d1, d2, d3, d4, d5, d6, d7, d8, d9⟩ := Z9h hI m3
         obtain ⟨s1, s2⟩ := Z0Z hI (fz' := g1.fz) d5.fz' 100 vs xs V m1 d6
         have hxs := snapsO s1 s2 hvs
         rw [← d1] at hxs
         obtain ⟨w', e1, e2, e3⟩ := Z19 (P := P) (vs := xs) (off := off) d4 ((d7 id hnot).trans q1) (by rw [hst]; rfl) (by rw [hst]; simp) (by omega) (by rw [hst]; exact hxs)
         rw [d2, d1] at e1
         rw [hst] at e2 e3
         exact ⟨_, hrun _ e1, by rw [Z4A, ← d3]; rfl, e2, d5.trans e3⟩
     · simp [Rd.run] at k2
   · simp [Rd.run] at h
 · simp [Rd.run] at h
theorem Znk (off : Nat) : ∀ (l : List Value) (k : Nat) (C : Array Value),
   ((l.zipIdx k).foldl (fun cs p => cs.setIfInBounds (off + p.2) p.1) C).size = C.size ∧
   ∀ i, off + k + l.length ≤ C.size → ((l.zipIdx k).foldl (fun cs p => cs.setIfInBounds (off + p.2) p.1) C)[i]? = if off + k ≤ i ∧ i < off + k + l.length then l[i - (off + k)]? else C[i]?
 | [], k, C => ⟨rfl, fun i _ => by rw [if_neg (by simp only [List.length_nil]; omega)]; rfl⟩
 | v :: l, k, C => by
   simp only [List.zipIdx_cons, List.foldl_cons, List.length_cons]
   obtain ⟨h1, h2⟩ := Znk off l (k + 1) (C.setIfInBounds (off + k) v)
   refine ⟨by rw [h1]; simp, fun i hi => ?_⟩
   rw [h2 i (by simp; omega)]
   by_cases h3 : off + (k + 1) ≤ i ∧ i < off + (k + 1) + l.length
   · rw [if_pos h3, if_pos (by omega), show i - (off + k) = (i - (off + (k + 1))) + 1 from by omega, List.getElem?_cons_succ]
   · rw [if_neg h3]
     by_cases h4 : i = off + k
     · subst h4
       rw [if_pos (by omega), Nat.sub_self, Array.getElem?_setIfInBounds_self_of_lt (by omega)]
       rfl
     · rw [if_neg (by omega), Array.getElem?_setIfInBounds_ne (by omega)]
theorem ZHR (C : Array Value) (V : Array Value) (off : Nat) : V.zipIdx.foldl (fun cs (x : Value × Nat) => cs.setIfInBounds (off + x.2) x.1) C = (V.toList.zipIdx 0).foldl (fun cs p => cs.setIfInBounds (off + p.2) p.1) C := by
 rw [← Array.foldl_toList, Array.toList_zipIdx]
theorem ZQ7 {fz : Nat → Prop} {w : World} {rf : RFt} {cells vs : List AV} {C V : Array Value} {off : Nat} (hC : VRo fz w cells rf C.toList) (hV : VRo fz w vs rf V.toList) (hle : off + vs.length ≤ cells.length) :
   VRo fz w (putC cells off vs) rf (V.zipIdx.foldl (fun cs (x : Value × Nat) => cs.setIfInBounds (off + x.2) x.1) C).toList := by
 have l1 := Zy hC
 have l2 := Zy hV
 simp only [Array.length_toList] at l1 l2
 rw [ZHR]
 obtain ⟨f1, f2⟩ := Znk off V.toList 0 C
 rw [ZD]
 refine ⟨by rw [Z1x]; exact l1.trans (f1.symm.trans (by simp)), fun i a u h1 h2 => ?_⟩
 rw [Z88 vs cells off i hle] at h1
 rw [Array.getElem?_toList, f2 i (by simp; omega)] at h2
 simp only [Nat.add_zero, Array.length_toList] at h2
 by_cases hr : off ≤ i ∧ i < off + vs.length
 · rw [if_pos hr] at h1
   rw [if_pos (by omega)] at h2
   exact ((ZD vs _).1 hV).2 _ a u h1 h2
 · rw [if_neg hr] at h1
   rw [if_neg (by omega)] at h2
   exact ((ZD cells _).1 hC).2 i a u h1 (by simpa using h2)
theorem Z7h {ρ : Operand → AV} {ρv : Operand → Value} (hρ : ∀ x, g.R (ρ x) (ρv x)) (place : Nat → Option (Nat × Nat)) :
   ∀ (parts : List (Nat × Operand)) (ps : List (Option (Nat × Nat) × List AV)) (cells cells' : List AV) (C : Array Value), partsOf ρ place parts = some ps → fillA cells ps = some cells' → VRo g.fz g.w cells (RF g) C.toList →
     ∃ C', Instr.fill place C (parts.map fun p => (p.1, ρv p.2)) = some C' ∧ VRo g.fz g.w cells' (RF g) C'.toList
 | [], ps, cells, cells', C, h1, h2, hC => by
   simp only [partsOf, Option.some.injEq] at h1; subst h1
   simp only [fillA, Option.some.injEq] at h2; subst h2
   exact ⟨C, rfl, hC⟩
 | (i, x) :: rest, ps, cells, cells', C, h1, h2, hC => by
   simp only [partsOf] at h1
   split at h1
   · rename_i vs r ha hr
     obtain rfl := Option.some.inj h1
     simp only [fillA] at h2
     cases hp : place i with
     | none => rw [hp] at h2; simp at h2
     | some os =>
       obtain ⟨off, size⟩ := os
       rw [hp] at h2
       simp only at h2
       split at h2
       · exact absurd h2 (by simp)
       · rename_i hb
         have hV := Z2V ha (hρ x)
         have l1 := Zy hC
         have l2 := Zy hV
         simp only [Array.length_toList] at l1 l2
         obtain ⟨C', q1, q2⟩ := Z7h hρ place rest r (putC cells off vs) cells' _ hr h2 (ZQ7 (off := off) hC hV (by omega))
         refine ⟨C', ?_, q2⟩
         simp only [List.map_cons, Instr.fill, hp]
         rw [if_neg (by simp only [ne_eq, Bool.or_eq_true, decide_eq_true_eq] ; omega)]
         exact q1
   · exact absurd h1 (by simp)
theorem Zf3 : ∀ (fs : List Field), (∀ f ∈ fs, ∃ i, P.info? f.type = some i) → fs.mapM (fun f => (P.info? f.type).map fun i => (f.offset, i.size)) = some (fs.map fun f => (f.offset, P.cellsOf f.type))
 | [], _ => rfl
 | f :: fs, h => by
   obtain ⟨i, hi⟩ := h f (by simp)
   have ih := Zf3 fs (fun x hx => h x (by simp [hx]))
   simp [List.mapM_cons, hi, ih, Program.cellsOf]
theorem ZKH (hE : EnvOK P E) {ρ : Operand → AV} {ρv : Operand → Value} (hρ : ∀ x, g.R (ρ x) (ρv x)) {t : TypeId} {parts : Array (Nat × Operand)} {a : AV} (h : aBuild E.T t ρ parts.toList = some a) :
   ∃ v', (Instr.build t (parts.map fun p => (p.1, ρv p.2))).run P g.w = .ok v' g.w ∧ g.R a v' := by
 unfold aBuild at h
 split at h
 · rename_i fs qq sz by_ z hT
   obtain ⟨inf, zv, h1, h2, h3, h4, h5, h6⟩ := Z6P g hE hT rfl
   obtain ⟨_, _, _, _, _, fa, hu, hfs, hinf, _⟩ := hE.ty t _ hT
   split at h
   · rename_i ps hps
     cases hf : fillA z ps with
     | none => rw [hf] at h; simp at h
     | some cells =>
       rw [hf] at h; simp only [Option.map_some, Option.some.injEq] at h; subst h
       have hpl : placeF fs = fun i => (fa.toList.map fun f => (f.offset, P.cellsOf f.type)).toArray[i]? := by
         funext i
         simp only [placeF, hfs, List.getElem?_map, List.getElem?_toArray]
         cases fa.toList[i]? <;> rfl
       rw [hpl] at hps
       obtain ⟨C', q1, q2⟩ := Z7h hρ _ parts.toList ps z cells zv.cells hps hf (h6 _ _ _)
       refine ⟨.agg C', run_build g.w t _ C' ?_, by simp only [Gh.R, VR]; exact ⟨C', rfl, q2⟩⟩
       simp only [Program.built, h1, hu, h2, Zf3 fa.toList hinf, Array.toList_map]
       exact q1
   · exact absurd h (by simp)
 · rename_i n e q sz by_ z hT
   obtain ⟨inf, zv, h1, h2, h3, h4, h5, h6⟩ := Z6P g hE hT rfl
   have hu := Z3B hE hT
   split at h
   · rename_i es hs
     obtain ⟨ie, hie, hes⟩ := Z0n hE hs
     split at h
     · rename_i ps hps
       cases hf : fillA z ps with
       | none => rw [hf] at h; simp at h
       | some cells =>
         rw [hf] at h; simp only [Option.map_some, Option.some.injEq] at h; subst h
         obtain ⟨C', q1, q2⟩ := Z7h hρ _ parts.toList ps z cells zv.cells hps hf (h6 _ _ _)
         refine ⟨.agg C', run_build g.w t _ C' ?_, by simp only [Gh.R, VR]; exact ⟨C', rfl, q2⟩⟩
         simp only [Program.built, h1, hu, h2, hie, hes, Array.toList_map]
         exact q1
     · exact absurd h (by simp)
   · exact absurd h (by simp)
 · exact absurd h (by simp)
theorem ZpL (z : List AV) : ∀ (n i : Nat), 0 < z.length → (repC z n)[i]? = if i < n * z.length then z[i % z.length]? else none
 | 0, i, _ => by simp [repC]
 | n + 1, i, h => by
   simp only [repC]
   rw [List.getElem?_append]
   by_cases h1 : i < z.length
   · rw [if_pos h1, if_pos (by rw [Nat.succ_mul]; omega), Nat.mod_eq_of_lt h1]
   · rw [if_neg h1, ZpL z n _ h, Nat.succ_mul, Nat.mod_eq_sub_mod (by omega : i ≥ z.length)]
     by_cases h2 : i - z.length < n * z.length
     · rw [if_pos h2, if_pos (by omega)]
     · rw [if_neg h2, if_neg (by omega)]
theorem Z1z (z : List AV) : ∀ (n : Nat), (repC z n).length = n * z.length
 | 0 => by simp [repC]
 | n + 1 => by simp only [repC, List.length_append, Z1z z n, Nat.succ_mul]; omega
theorem Z8h {fz : Nat → Prop} {w : World} {rf : RFt} {z : List AV} {Z : Array Value} (h : VRo fz w z rf Z.toList) (hz : 0 < z.length) (n : Nat) :
   VRo fz w (repC z n) rf ((Array.range (n * Z.size)).map (fun i => Z[i % Z.size]!)).toList := by
 have hl := Zy h
 simp only [Array.length_toList] at hl
 rw [ZD]
 refine ⟨by simp [Z1z, hl], fun i a u h1 h2 => ?_⟩
 rw [ZpL z n i hz] at h1
 split at h1
 · rename_i hi
   have : i % Z.size < Z.size := Nat.mod_lt _ (by omega)
   have h3 : u = Z[i % Z.size]! := by
     have h4 : i < n * Z.size := by rw [← hl]; exact hi
     simp [h4] at h2
     rw [← h2]
   have h5 : Z.toList[i % Z.size]? = some u := by
     rw [h3, Array.getElem?_toList]
     simp [this]
   rw [hl] at h1
   exact ((ZD z _).1 h).2 _ a u h1 h5
 · exact absurd h1 (by simp)
theorem Z5S (hI : Inv E g) {site : Nat} (hfree : hget g.H site = none) {cells : List AV} {cs : Array Value} {t : TypeId} {rest : List Value} (hc : ∃ C, VRo g.fz g.w cells noRef C ∧ cs.toList = C ++ rest)
   {w' : World} (hh : w'.heap = g.w.heap.push (.cells cs t)) (hos : w'.os = g.w.os) (htape : w'.tape = g.w.tape) (hout : w'.output = g.w.output) :
   Inv E (g.new site .row cells w') ∧ Adv g (g.new site .row cells w') := by
 obtain ⟨C, h1, h2⟩ := hc
 refine Zeg (t := t) hI hfree rfl (by simp) (fun i a hi => ?_) hh hos htape hout
 obtain ⟨u, q1, q2, q3⟩ := Z3y h1 hi
 refine ⟨u, ?_, q2, q3⟩
 rw [← Array.getElem?_toList, h2, List.getElem?_append_left (List.getElem?_eq_some_iff.1 q1).1]
 exact q1
theorem ZBY {site : Nat} {cells : List AV} {w' : World} {len cap cap' sz : Nat} {ex : Bool} (h1 : len ≤ cap') (h2 : cap ≤ cap') (h3 : ex = true → cap' = cap) (h4 : cap' = 0 ∨ cap' * sz ≤ bsz w' g.w.heap.size) :
   (g.new site .row cells w').R (.ref site 0 len cap cells.length sz ex) (.slice (some ⟨g.w.heap.size, 0, none⟩) len cap') := by
 simp only [Gh.R, VR, RF]
 refine ⟨rfl, _, ZyH site .row cells w', Nat.le_refl _, fun _ => ⟨0, cap', by simp [Gh.new], h1, h2, h3, ?_⟩⟩
 rcases h4 with h4 | h4
 · exact .inl h4
 · exact .inr ⟨by simp [Gh.new], by simpa [Gh.new] using h4⟩
theorem ZSc (hE : EnvOK P E) (hI : Inv E g) {t : TypeId} {site : Nat} {l c : AV} {lv cv : Value} (hl : g.R l lv) (hc : g.R c cv) {x : AV × Ups} (h : (aMake E.T site t l c).run g.H = some x) :
   Done E g x ((Instr.makeSlice t lv cv).run P g.w) := by
 unfold aMake at h
 split at h
 · rename_i e ln cn he hln hcn
   obtain ⟨k1, rfl⟩ := Z1S hln hl
   obtain ⟨k2, rfl⟩ := Z1S hcn hc
   unfold elemT at he
   split at he
   · rename_i e' _ _ _ hT
     obtain rfl := Option.some.inj he
     have hu := Z0A hE hT
     split at h
     · rename_i i z hTe hz
       unfold zeroCells at hz
       rw [hTe] at hz
       obtain ⟨inf, zv, h1, h2, h3, h4, h5, h6⟩ := Z6P g hE hTe hz
       split at h
       · rename_i hb
         obtain ⟨b1, b2, b3, b4, b5, b6, b7⟩ := hb
         obtain ⟨us, m1, m2⟩ := Rd.run_bind_some h
         obtain ⟨m3, rfl⟩ := Z1m m1
         simp only [Rd.run, Option.some.injEq] at m2; subst m2
         simp only [kHi] at b6
         have e1 : IntKind.i64.wrap ln = ln := by rw [← Z0C]; unfold wrp; rw [if_pos (by simp only [kLo, kHi]; omega)]
         have e2 : IntKind.i64.wrap cn = cn := by rw [← Z0C]; unfold wrp; rw [if_pos (by simp only [kLo, kHi]; omega)]
         have hZ := Z8h (h6 g.fz g.w noRef) (by omega) cn.toNat
         rw [h5, b1] at hZ
         have hrun : (Instr.makeSlice t (.int k1 ln) (.int k2 cn)).run P g.w = .ok (.slice (some ⟨g.w.heap.size, 0, none⟩) ln.toNat cn.toNat)
             { g.w with heap := g.w.heap.push (.cells ((Array.range (cn.toNat * i.size)).map (fun j => zv.cells[j % i.size]!)) e') } := by
           simp only [Instr.makeSlice, Sem.run_bind, Za hu, Result.andThen_ok, asInt, asIntOf, Sem.run_pure, Z1R h1, h4, e1, e2]
           rw [if_neg (by simp only [Bool.or_eq_true, decide_eq_true_eq]; omega)]
           simp only [Sem.run_bind, run_askRoom, Result.andThen_ok, ZA h1, h3, Sem.run_ite, Sem.run_pure]
           by_cases h0 : cn.toNat * i.size = 0
           · simp only [Result.andThen_ok, newRow, Sem.run_bind, run_newObj, Sem.run_pure, h0]
             simp [show Array.range 0 = #[] from rfl]
           · simp only [if_neg h0, zeroValue, Sem.run_bind, Z1R h1, Result.andThen_ok, h2, Sem.run_pure, newRow, run_newObj, h5, b1]
         have hs := Z5S (t := e') (rest := []) (cs := (Array.range (cn.toNat * i.size)).map (fun j => zv.cells[j % i.size]!)) hI m3 ⟨_, hZ, by simp⟩
           (w' := { g.w with heap := g.w.heap.push (.cells ((Array.range (cn.toNat * i.size)).map (fun j => zv.cells[j % i.size]!)) e') }) rfl rfl rfl rfl
         refine ⟨_, _, hrun, rfl, hs.1, hs.2, ?_⟩
         have hR := ZBY (g := g) (site := site) (cells := repC z cn.toNat) (len := ln.toNat) (cap := cn.toNat) (cap' := cn.toNat) (sz := i.size) (ex := false)
           (w' := { g.w with heap := g.w.heap.push (.cells ((Array.range (cn.toNat * i.size)).map (fun j => zv.cells[j % i.size]!)) e') })
           (by omega) (Nat.le_refl _) (fun _ => rfl) (.inr (by simp [bsz]))
         rw [Z1z, b1] at hR
         exact hR
       · simp [Rd.run] at h
     · simp [Rd.run] at h
   · exact absurd he (by simp)
 · simp [Rd.run] at h
end
end Go.AM
namespace Go.AM
noncomputable section
variable {P : Program} {E : Env} {g : Gh}
theorem Z7p (hE : EnvOK P E) {t e : TypeId} (h : elemT E.T t = some e) : P.underlying t = some (.slice e) := by
 unfold elemT at h
 split at h
 · rename_i e' _ _ _ hT
   obtain rfl := Option.some.inj h
   exact Z0A hE hT
 · exact absurd h (by simp)
theorem Z3N (g : Gh) (hE : EnvOK P E) {t : TypeId} {z : List AV} (h : zeroCells E.T t = some z) :
   ∃ i inf zv, E.T t = some i ∧ P.info? t = some inf ∧ inf.zero = some zv ∧ inf.size = i.size ∧ inf.bytes = i.bytes ∧ zv.cells.size = z.length ∧ ∀ fz w rf, VRo fz w z rf zv.cells.toList := by
 unfold zeroCells at h
 split at h
 · rename_i i hi
   obtain ⟨inf, zv, h⟩ := Z6P g hE hi h
   exact ⟨i, inf, zv, hi, h⟩
 · exact absurd h (by simp)
theorem Zgl (hE : EnvOK P E) (hI : Inv E g) {ρ : Operand → AV} {ρv : Operand → Value} (hρ : ∀ x, g.R (ρ x) (ρv x)) {t : TypeId} {site len : Nat} {parts : Array (Nat × Operand)} {x : AV × Ups}
   (h : (Z8 E.T site t len ρ parts.toList).run g.H = some x) : Done E g x ((Instr.buildSlice t len (parts.map fun p => (p.1, ρv p.2))).run P g.w) := by
 unfold Z8 at h
 obtain ⟨off, _, h⟩ := Rd.run_bind_some h
 unfold Zn at h
 generalize site + off = site at h
 split at h
 · simp [Rd.run] at h
 · rename_i e he
   have hu := Z7p hE he
   split at h
   · rename_i sz z hs hz
     obtain ⟨i, inf, zv, hTe, h1, h2, h3, h4, h5, h6⟩ := Z3N g hE hz
     obtain ⟨inf', h1', hsz⟩ := Z0n hE hs
     rw [h1] at h1'; obtain rfl := Option.some.inj h1'
     split at h
     · rename_i hb
       obtain ⟨b1, b2, b3⟩ := hb
       split at h
       · simp [Rd.run] at h
       · rename_i ps hps
         split at h
         · simp [Rd.run] at h
         · rename_i cells hf
           obtain ⟨⟨xs, V⟩, m1, m2⟩ := Rd.run_bind_some h
           obtain ⟨us, m3, m4⟩ := Rd.run_bind_some m2
           obtain ⟨us2, m5, m6⟩ := Rd.run_bind_some m4
           obtain ⟨m7, rfl⟩ := Z1m m5
           simp only [Rd.run, Option.some.injEq] at m6; subst m6
           have hZ := Z8h (h6 g.fz g.w (RF g)) (by omega) len
           rw [h5, b1] at hZ
           obtain ⟨C', q1, q2⟩ := Z7h hρ _ parts.toList ps (repC z len) cells _ hps hf hZ
           obtain ⟨g1, d1, d2, d3, d4, d5, d6, d7, d8, d9⟩ := Z9h hI m3
           obtain ⟨s1, s2⟩ := Z0Z hI (fz' := g1.fz) d5.fz' 200 cells xs V m1 d6
           have hxs := snapsO s1 s2 q2
           rw [← d1] at hxs
           have hfree : hget g1.H site = none := by
             rw [d7 site ?_]; exact m7
             intro hin
             obtain ⟨b, hb⟩ := d8 site hin
             rw [m7] at hb; exact absurd hb (by simp)
           have hrun : (Instr.buildSlice t len (parts.map fun p => (p.1, ρv p.2))).run P g.w = .ok (.slice (some ⟨g.w.heap.size, 0, none⟩) len len)
               { g.w with heap := g.w.heap.push (.cells C' e) } := by
             simp only [Instr.buildSlice, Sem.run_bind, Za hu, Result.andThen_ok, ZA h1, hsz]
             rw [if_neg (by omega)]
             simp only [Sem.run_ite, Sem.run_bind, Sem.run_pure, Result.andThen_ok, Array.toList_map]
             by_cases h0 : len * sz = 0
             · have hl : len = 0 := by
                 rcases Nat.mul_eq_zero.1 h0 with h | h
                 · exact h
                 · omega
               subst hl
               have e1 : (Array.range (0 * sz)).map (fun j => zv.cells[j % sz]!) = #[] := by simp [show Array.range 0 = #[] from rfl]
               rw [e1] at q1
               simp only [if_pos h0, Result.andThen_ok, show Array.map (fun x => (#[] : Array Value)[x % (#[] : Array Value).size]!) (Array.range (0 * sz)) = #[] from by simp [show Array.range 0 = #[] from rfl], q1, newRow, Sem.run_bind, run_newObj, Sem.run_pure]
             · simp only [if_neg h0, zeroValue, Sem.run_bind, Z1R h1, Result.andThen_ok, h2, Sem.run_pure, h5, b1, q1, newRow, run_newObj]
           have hs := Z5S (t := e) (rest := []) (cs := C') d4 hfree ⟨_, hxs, by simp⟩ (w' := { g.w with heap := g.w.heap.push (.cells C' e) }) (by rw [d1]) (by rw [d1]) (by rw [d1]) (by rw [d1])
           refine ⟨_, _, hrun, ?_, hs.1, d5.trans hs.2, ?_⟩
           · rw [Z4A, ← d3]; rfl
           · have hl := Zy q2
             have hR := ZBY (g := g1) (site := site) (cells := xs) (len := len) (cap := len) (cap' := len) (sz := sz) (ex := false) (w' := { g.w with heap := g.w.heap.push (.cells C' e) })
               (Nat.le_refl _) (Nat.le_refl _) (fun _ => rfl) (.inr (by
                 rw [d1]
                 simp only [bsz, Array.getElem?_push_size]
                 have : ∀ (cells cells' : List AV) (ps : List (Option (Nat × Nat) × List AV)), fillA cells ps = some cells' → cells'.length = cells.length := by
                   intro cells cells' ps
                   induction ps generalizing cells with
                   | nil => intro h; simp only [fillA, Option.some.injEq] at h; rw [h]
                   | cons p ps ih =>
                     obtain ⟨pl, vs⟩ := p
                     intro h
                     simp only [fillA] at h
                     split at h
                     · exact absurd h (by simp)
                     · split at h
                       · exact absurd h (by simp)
                       · rw [ih _ h, Z1x]
                 have := this _ _ _ hf
                 rw [Z1z, b1] at this
                 simp only [Array.length_toList] at hl
                 omega))
             rw [d1] at hR
             exact hR
     · simp [Rd.run] at h
   · simp [Rd.run] at h
theorem Za9 {fz : Nat → Prop} {w : World} {rf rf' : RFt} {cells : List AV} {b o : Nat} (h : cells.all AV.flat = true) (hc : VRc fz w cells rf b o) : VRc fz w cells rf' b o := by
 rw [Z1s] at hc ⊢
 intro i a hi
 obtain ⟨v, h1, h2, h3⟩ := hc i a hi
 exact ⟨v, h1, h2, Z56 (List.all_eq_true.1 h a (List.mem_of_getElem? hi)) h3⟩
theorem ZG7 (hI : Inv E g) {sz n : Nat} {x : AV} {xv : Value} {cells : List AV} (h : (srcOf sz x).run g.H = some (n, cells)) (hx : g.R x xv) :
   ∃ (ao : Option Addr) (c : Nat) (vs : List Value), xv = .slice ao n c ∧ cells.length = n * sz ∧ VRo g.fz g.w cells noRef vs ∧ (Builtin.firstCells sz n xv).run P g.w = .ok vs.toArray g.w := by
 cases x <;> simp only [srcOf] at h <;> try (simp [Rd.run] at h; done)
 · -- nil
   simp only [Rd.run, Option.some.injEq, Prod.mk.injEq] at h
   obtain ⟨rfl, rfl⟩ := h
   simp only [Gh.R, VR] at hx
   subst hx
   exact ⟨none, 0, [], rfl, by simp, by simp [VRo], by simp [Builtin.firstCells]⟩
 · -- imm
   rename_i cs len ex
   split at h
   · rename_i hl
     simp only [Rd.run, Option.some.injEq, Prod.mk.injEq] at h
     obtain ⟨rfl, rfl⟩ := h
     simp only [Gh.R, VR] at hx
     obtain ⟨b, o, cap, rfl, h1, h2, h3⟩ := hx
     by_cases h0 : cs.length = 0
     · have : cs = [] := List.length_eq_zero_iff.1 h0
       subst this
       refine ⟨_, _, [], rfl, hl, by simp [VRo], ?_⟩
       simp only [Builtin.firstCells]
       rw [show len * sz = 0 from by rw [← hl]; rfl]
       rfl
     · have hc : VRc g.fz g.w cs noRef b o := by
         rcases h3 with h3 | h3
         · exfalso
           have : len = 0 := by omega
           subst this
           simp at hl; exact h0 (by simp [hl])
         · exact h3.2
       obtain ⟨vs, e1, e2⟩ := Z0f (P := P) hc
       exact ⟨_, _, vs, rfl, hl, e2, by simp only [Builtin.firstCells]; rw [← hl]; exact e1⟩
   · simp [Rd.run] at h
 · -- ref
   rename_i id off len cap gl s ex
   split at h
   · rename_i hs; subst hs
     obtain ⟨bl, k1, k2⟩ := Rd.run_bind_some h
     obtain ⟨q1, q2, o, cap', rfl, c0, c1, c2, c3⟩ := Z1g hx k1
     have hnm := Z0E k1
     have hcells := Z1l hI q1 hnm
     have main : ∀ (hst : rfOf g bl.st = noRef), (if off + len * s ≤ bl.cells.length then (Rd.pure (len, window bl.cells off (len * s)) : Rd (Nat × List AV)) else .fail).run g.H = some (n, cells) →
         ∃ (ao : Option Addr) (c : Nat) (vs : List Value), Value.slice (some ⟨(g.mu id).1, o, none⟩) len cap' = .slice ao n c ∧ cells.length = n * s ∧ VRo g.fz g.w cells noRef vs ∧ (Builtin.firstCells s n (.slice (some ⟨(g.mu id).1, o, none⟩) len cap')).run P g.w = .ok vs.toArray g.w := by
       intro hst k2
       split at k2
       · rename_i hle
         simp only [Rd.run, Option.some.injEq, Prod.mk.injEq] at k2
         obtain ⟨rfl, rfl⟩ := k2
         have hwl := ZU bl.cells off (len * s) hle
         by_cases h0 : cap' = 0
         · have hl0 : len = 0 := by omega
           subst hl0
           refine ⟨_, _, [], rfl, by rw [hwl], ?_, by simp [Builtin.firstCells, loadCells, loadCellsFrom]⟩
           have : window bl.cells off (0 * s) = [] := List.length_eq_zero_iff.1 (by rw [hwl]; simp)
           rw [this]; simp [VRo]
         · have hw := ZK hcells off (len * s)
           rw [← (c3.resolve_left h0).1, hst] at hw
           obtain ⟨vs, e1, e2⟩ := Z0f (P := P) hw
           rw [hwl] at e1
           exact ⟨_, _, vs, rfl, hwl, e2, e1⟩
       · simp [Rd.run] at k2
     cases hst : bl.st <;> rw [hst] at k2 <;> simp only at k2
     · split at k2
       · rename_i hle
         simp only [Rd.run, Option.some.injEq, Prod.mk.injEq] at k2
         obtain ⟨rfl, rfl⟩ := k2
         have hwl := ZU bl.cells off (len * s) hle.1
         by_cases h0 : cap' = 0
         · have hl0 : len = 0 := by omega
           subst hl0
           refine ⟨_, _, [], rfl, by rw [hwl], ?_, by simp [Builtin.firstCells, loadCells, loadCellsFrom]⟩
           have : window bl.cells off (0 * s) = [] := List.length_eq_zero_iff.1 (by rw [hwl]; simp)
           rw [this]; simp [VRo]
         · have hw := Za9 hle.2 (rf' := noRef) (ZK hcells off (len * s))
           rw [← (c3.resolve_left h0).1] at hw
           obtain ⟨vs, e1, e2⟩ := Z0f (P := P) hw
           rw [hwl] at e1
           exact ⟨_, _, vs, rfl, hwl, e2, e1⟩
       · simp [Rd.run] at k2
     · exact main (by rw [hst]; rfl) k2
     · exact main (by rw [hst]; rfl) k2
     · exact absurd hst hnm
   · simp [Rd.run] at h
end
end Go.AM
namespace Go.AM
noncomputable section
variable {P : Program} {E : Env} {g : Gh}
theorem Z16 {w w' : World} {ts : Array TypeId} {t u e e' : TypeId} {i : TypeInfo} (h0 : ts[0]? = some t) (h1 : ts[1]? = some u) (ht : P.underlying t = some (.slice e)) (hu : P.underlying u = some (.slice e')) (hi : P.info? e = some i)
   {base ao : Option Addr} {sLen sCap n c : Nat} {vs : Array Value} (hf : (Builtin.firstCells i.size n (.slice ao n c)).run P w = .ok vs w) (hle : sLen + n ≤ sCap)
   (hst : (match base with | some a => storeCells (a.add (sLen * i.size)) vs.toList | none => pure ()).run P w = .ok () w') (ty : TypeId) :
   (Builtin.append_ ts ty #[.slice base sLen sCap, .slice ao n c]).run P w = .ok (.slice base (sLen + n) sCap) w' := by
 cases base with
 | none => 
   simp at hst
   subst hst
   simp [Builtin.append_, h0, h1, run_underlying ht, run_underlying hu, sizeOf, typeInfo, hi, Builtin.lenOf, hle, hf]
 | some a =>
   simp at hst
   simp [Builtin.append_, h0, h1, run_underlying ht, run_underlying hu, sizeOf, typeInfo, hi, Builtin.lenOf, hle, hf, hst]
theorem Z1t {w : World} {ts : Array TypeId} {t u e e' : TypeId} {i : TypeInfo} {z : Value} (h0 : ts[0]? = some t) (h1 : ts[1]? = some u) (ht : P.underlying t = some (.slice e)) (hu : P.underlying u = some (.slice e')) (hi : P.info? e = some i)
   (hz : i.zero = some z) {base ao : Option Addr} {sLen sCap n c : Nat} {olds vs : Array Value} (hf : (Builtin.firstCells i.size n (.slice ao n c)).run P w.drew = .ok vs w.drew)
   (ho : (Builtin.firstCells i.size sLen (.slice base sLen sCap)).run P w.drew = .ok olds w.drew) (hg : sCap < sLen + n) (hb : 0 < i.bytes) (hr : (sLen + n) * i.bytes ≤ 70368744177664) (ty : TypeId) :
   (Builtin.append_ ts ty #[.slice base sLen sCap, .slice ao n c]).run P w = .ok (.slice (some ⟨w.heap.size, 0, none⟩) (sLen + n) (grownCap w (sLen + n) sCap e))
     (w.drew.alloc (.cells (olds ++ vs ++ Builtin.zeroCells z.cells (grownCap w (sLen + n) sCap e - (sLen + n))) e)) := by
 have hn : ¬ (sLen + n ≤ sCap) := by omega
 have hbz : i.bytes ≠ 0 := by omega
 have h48 := growslice_fits hg (bytes := i.bytes) (by omega)
 have h48' : ¬ (281474976710656 < Builtin.nextslicecap (sLen + n) sCap * i.bytes) := by omega
 simp [Builtin.append_, h0, h1, run_underlying ht, run_underlying hu, sizeOf, typeInfo, zeroValue, hi, hz, Builtin.lenOf, hn, hbz, h48', Question.forced, hf, ho, newRow, grownCap]
theorem Zd7 (hE : EnvOK P E) {e : TypeId} {need : Nat} (h : roomOk E.T e need = true) : ∃ inf zv, P.info? e = some inf ∧ inf.zero = some zv ∧ 0 < inf.bytes ∧ zv.cells.size = inf.size ∧ need * inf.bytes ≤ 70368744177664 := by
 unfold roomOk at h
 split at h
 · rename_i i hT
   split at h
   · rename_i z hz
     simp only [decide_eq_true_eq] at h
     obtain ⟨h1, h2, h3⟩ := h
     obtain ⟨inf, hi, hs, hb, hzz, _⟩ := hE.ty e i hT
     obtain ⟨zv, q1, q2⟩ := hzz z hz
     have hl := Zy (Z2V (fz := fun _ => False) (rf := noRef) q2 (Z3C zv _ (⟨#[], fun _ _ => 0, 0, default, #[]⟩ : World) _))
     exact ⟨inf, zv, hi, q1, by omega, by simp at hl; omega, by rw [hb]; exact h3⟩
   · exact absurd h (by simp)
 · exact absurd h (by simp)
theorem Z62 (z : Array Value) (n : Nat) : (Builtin.zeroCells z n).size = n * z.size := by simp [Builtin.zeroCells]
theorem ZnO (cs : Array Value) (e : TypeId) (w' : World) : bsz (w'.drew.alloc (.cells cs e)) w'.heap.size = cs.size := by
 show (match (w'.heap.push (.cells cs e))[w'.heap.size]? with | some (.cells cs _ _) => cs.size | _ => 0) = cs.size
 rw [Array.getElem?_push_size]
theorem Z84 (hI : Inv E g) {site need sz cap : Nat} {e : TypeId} (hfree : hget g.H site = none) {cells : List AV} {C : List Value} (hC : VRo g.fz g.w cells noRef C) (hl : cells.length = need * sz) {cs : Array Value} {rest : List Value}
   (hcs : cs.toList = C ++ rest) (hsz : cs.size = cap * sz) (hcap : need ≤ cap) {r : Result Value} (hr : r = .ok (.slice (some ⟨g.w.heap.size, 0, none⟩) need cap) (g.w.drew.alloc (.cells cs e))) :
   Done E g (.ref site 0 need need (need * sz) sz false, [(site, ⟨.row, cells⟩)]) r := by
 have hs := Z5S (t := e) (rest := rest) (cs := cs) hI hfree ⟨C, hC, hcs⟩ (w' := g.w.drew.alloc (.cells cs e)) rfl rfl rfl rfl
 refine ⟨_, _, hr, rfl, hs.1, hs.2, ?_⟩
 have hR := ZBY (g := g) (site := site) (cells := cells) (len := need) (cap := need) (cap' := cap) (sz := sz) (ex := false) (w' := g.w.drew.alloc (.cells cs e))
   hcap hcap (fun h => by simp at h) (.inr (by rw [← hsz]; exact Nat.le_of_eq (ZnO _ _ _).symm))
 rw [hl] at hR
 exact hR
theorem Z80 (hI : Inv E g) {sz n : Nat} {x : AV} {xv : Value} {cells : List AV} (h : (srcOf sz x).run g.H = some (n, cells)) (hx : g.R x xv) :
   ∃ (ao : Option Addr) (c : Nat) (vs : List Value), xv = .slice ao n c ∧ cells.length = n * sz ∧ VRo g.fz g.w cells noRef vs ∧ (Builtin.firstCells sz n xv).run P g.w = .ok vs.toArray g.w ∧ (Builtin.firstCells sz n xv).run P g.w.drew = .ok vs.toArray g.w.drew := by
 obtain ⟨ao, c, vs, rfl, h1, h2, h3⟩ := ZG7 (P := P) hI h hx
 have hI2 := hI.draw g.w.drew rfl
 have hx2 := (Adv.draw (g := g) g.w.drew rfl rfl rfl rfl).vr _ _ hx
 obtain ⟨ao', c', vs', e1, _, h4, h5⟩ := ZG7 (P := P) (g := { g with w := g.w.drew }) hI2 h hx2
 refine ⟨ao, c, vs, rfl, h1, h2, h3, ?_⟩
 have : ∀ (a : Array Value), (Builtin.firstCells sz n (.slice ao n c)).run P g.w = .ok a g.w → (Builtin.firstCells sz n (.slice ao n c)).run P g.w.drew = .ok a g.w.drew := by
   intro a ha
   rw [h3] at ha
   have hv : vs = vs' := by
     cases ao with
     | none => 
       simp [Builtin.firstCells] at h3 h5
       rw [h3, h5]
     | some ad =>
       simp only [Builtin.firstCells, loadCells] at h3 h5
       have key : ∀ (k i : Nat) (acc r r2 : Array Value), (loadCellsFrom ad i k acc).run P g.w = .ok r g.w → (loadCellsFrom ad i k acc).run P g.w.drew = .ok r2 g.w.drew → r = r2 := by
         intro k
         induction k with
         | zero => intro i acc r r2 q1 q2; simp [loadCellsFrom] at q1 q2; rw [← q1, ← q2]
         | succ k ih =>
           intro i acc r r2 q1 q2
           simp only [loadCellsFrom, Sem.run_bind, run_load, World.cell?_drew] at q1 q2
           cases hc : g.w.cell? (ad.add i) with
           | some v =>
             rw [hc] at q1 q2
             simp only [Result.andThen_ok] at q1 q2
             exact ih _ _ _ _ q1 q2
           | none =>
             rw [hc] at q1 q2
             simp only at q1 q2
             have hfl : g.w.drew.farLoad P (ad.add i) (Mode.plain == Mode.atomic) = g.w.farLoad P (ad.add i) (Mode.plain == Mode.atomic) := rfl
             rw [hfl] at q2
             cases hf : g.w.farLoad P (ad.add i) (Mode.plain == Mode.atomic) with
             | error h => rw [hf] at q1; simp at q1
             | ok p =>
               obtain ⟨v, b⟩ := p
               rw [hf] at q1 q2
               simp only [Result.andThen_ok] at q1 q2
               exact ih _ _ _ _ q1 q2
       have := key _ _ _ _ _ h3 h5
       simpa using this
   have ha' : a = vs.toArray := by injection ha with ha _; exact ha.symm
   rw [ha', hv]; exact h5
 exact this _ h3
theorem ZOV {a : Addr} {w : World} : (storeCells a ([] : List Value)).run P w = .ok () w := rfl
theorem ZdS {olds news : List Value} {z : Array Value} {k : Nat} : (olds.toArray ++ news.toArray ++ Builtin.zeroCells z k).toList = (olds ++ news) ++ (Builtin.zeroCells z k).toList := by simp
theorem regrow (hI : Inv E g) {id len cap cap' n gl s o nc : Nat} {e : TypeId} {bl : Blk} (q1 : hget g.H id = some bl) (hst : bl.st = .row) (q2 : gl = bl.cells.length) {r : Result Value} {news : List AV} {olds vs : List Value}
   {ex : Bool} (_ : g.R (.ref id 0 len cap gl s ex) (.slice (some ⟨(g.mu id).1, o, none⟩) len cap'))
   (_ : (window bl.cells 0 (len * s)).length = olds.length) (e3 : VRo g.fz g.w (window bl.cells 0 (len * s)) noRef olds) (hnv : VRo g.fz g.w news noRef vs) (hwl : (window bl.cells 0 (len * s)).length = len * s) (hnl : news.length = n * s)
   (hlt : gl < (len + n) * s) (_ : 0 + len * s ≤ gl) (_ : 0 < s) (c0 : len ≤ cap') (_ : cap ≤ cap') (c3 : cap' = 0 ∨ (o = (g.mu id).2 + 0 ∧ o + cap' * s ≤ bsz g.w (g.mu id).1))
   (hin : len + n ≤ cap' → ∀ w', (storeCells ⟨(g.mu id).1, o + len * s, none⟩ vs).run P g.w = .ok () w' → r = .ok (.slice (some ⟨(g.mu id).1, o, none⟩) (len + n) cap') w')
   (hout : cap' < len + n → ∃ cs : Array Value, r = .ok (.slice (some ⟨g.w.heap.size, 0, none⟩) (len + n) nc) (g.w.drew.alloc (.cells cs e)) ∧ (∃ rest, cs.toList = (olds ++ vs) ++ rest) ∧ cs.size = nc * s)
   (hnc : len + n ≤ nc) :
   Done E g (.ref id 0 (len + n) (len + n) ((len + n) * s) s false, [(id, ⟨.row, window bl.cells 0 (len * s) ++ news⟩)]) r := by
 have hlen : (window bl.cells 0 (len * s) ++ news).length = (len + n) * s := by rw [List.length_append, hwl, hnl, Nat.add_mul]
 have hnomp : ∀ b, hget g.H id = some b → b.st ≠ .mp := fun b1 hb1 => by rw [q1] at hb1; obtain rfl := Option.some.inj hb1; rw [hst]; simp
 obtain ⟨ccs, ct, y1, y2⟩ := (hI.blk id bl q1).cells (by rw [hst]; simp)
 have hval : ∀ {fz : Nat → Prop} {w : World}, VRo fz w (window bl.cells 0 (len * s) ++ news) noRef (olds ++ vs) → ∀ (i : Nat) (a : AV), (window bl.cells 0 (len * s) ++ news)[i]? = some a → ∃ v, (olds ++ vs)[i]? = some v ∧ v.oneCell' = true ∧ VR fz w a noRef v := by
   intro fz w h i a hi
   exact Z3y h hi
 have hall := Z5a e3 hnv
 by_cases hc : len + n ≤ cap'
 · -- in its own place
   have hvl := Zy hnv
   obtain ⟨d1, d2⟩ := c3.resolve_left (by
     intro h
     have : len + n = 0 := by omega
     rw [this] at hlt; omega)
   have hbz : bsz g.w (g.mu id).1 = ccs.size := by simp [bsz, y1]
   have hmul := Nat.mul_le_mul_right s hc
   rw [Nat.add_mul] at hmul
   obtain ⟨w', cs', z1, z2, z3, z4, z5, z6, z7, z8, z9⟩ := Z1q (P := P) vs g.w (g.mu id).1 (o + len * s) 0 ccs ct y1 (by rw [← hvl, hnl, ← hbz]; omega) (fun v hv => by
     obtain ⟨i, hi⟩ := List.getElem?_of_mem hv
     have := (ZD news vs).1 hnv
     have hlt : i < news.length := by rw [hvl]; exact (List.getElem?_eq_some_iff.1 hi).1
     exact (this.2 i _ v (List.getElem?_eq_getElem hlt) hi).1)
   have hb' : bsz w' (g.mu id).1 = bsz g.w (g.mu id).1 := by rw [hbz]; simp [bsz, z2, z3]
   have hs := Z27 (g' := g.put id ⟨.row, window bl.cells 0 (len * s) ++ news⟩ w') hI id ⟨.row, window bl.cells 0 (len * s) ++ news⟩ rfl (fun _ _ => rfl) (fun k => by simp [Gh.put, BS.open_]) z7 z8 z9 (by simp [Gh.put, z6])
     (fun k _ hk => z5 k hk) (.inl ⟨bl, q1, by rw [hst]; rfl, rfl⟩) (.inl hb')
     (fun b1 hb1 => by
       rw [q1] at hb1; obtain rfl := Option.some.inj hb1
       refine ⟨by rw [hst]; rfl, by rw [hlen]; omega, fun e => ?_⟩
       rw [hlen] at e; omega)
     (by have := (Array.getElem?_eq_some_iff.1 y1).1; simp only [Gh.put, z6]; exact this)
     (fun hvr hvn => ⟨cs', ct, z2, Z26 z2 (fun i a hi => by
       have hii : i < (len + n) * s := by rw [← hlen]; exact (List.getElem?_eq_some_iff.1 hi).1
       rw [Nat.add_mul] at hii
       by_cases h2 : i < len * s
       · rw [List.getElem?_append_left (by rw [hwl]; exact h2), Z9U, if_pos h2] at hi
         obtain ⟨v2, r1, r2, r3⟩ := Z5W y1 y2 _ a hi
         rw [hst] at r3
         refine ⟨v2, ?_, r2, hvn a v2 r3⟩
         show cs'[(g.mu id).2 + i]? = some v2
         rw [z4, if_neg (by omega), ← r1]
         congr 1; omega
       · rw [List.getElem?_append_right (by rw [hwl]; omega), hwl] at hi
         obtain ⟨v, k1, k2, k3⟩ := Z3y hnv hi
         refine ⟨v, ?_, k2, hvn a v k3⟩
         show cs'[(g.mu id).2 + i]? = some v
         rw [z4, if_pos (by rw [← hvl, hnl]; omega), ← k1]
         congr 1; omega)⟩)
   refine ⟨_, _, hin hc w' z1, rfl, (hs (by simp) hnomp).1, (hs (by simp) hnomp).2, ?_⟩
   simp only [Gh.R, VR, RF]
   refine ⟨rfl, _, by simp only [Gh.put, ZO]; exact if_pos trivial, by simp only [hlen]; exact Nat.le_refl _, fun _ => ⟨o, cap', rfl, hc, hc, fun h => by simp at h, .inr ⟨d1, ?_⟩⟩⟩
   show o + cap' * s ≤ bsz w' (g.mu id).1
   rw [hb']; exact d2
 · obtain ⟨cs, hr, ⟨rest, h1⟩, h2⟩ := hout (by omega)
   let g' : Gh := { mu := fun j => if j = id then (g.w.heap.size, 0) else g.mu j, fz := g.fz, H := hset g.H id ⟨.row, window bl.cells 0 (len * s) ++ news⟩, w := g.w.drew.alloc (.cells cs e) }
   have hmu : g'.mu id = (g.w.heap.size, 0) := by simp [g']
   have hgw : g'.w.heap = g.w.heap.push (.cells cs e) := rfl
   have hs := Z27 (g' := g') hI id ⟨.row, window bl.cells 0 (len * s) ++ news⟩ rfl (fun j hj => by simp [g', hj]) (fun k => by simp [g', BS.open_]) rfl rfl rfl (by rw [hgw]; simp)
     (fun k hk hne => by
       rw [hmu] at hne
       rw [hgw, Array.getElem?_push, if_neg (by simpa using hne)])
     (.inr (by rw [hmu]; exact Nat.le_refl _)) (.inr (by rw [hmu]; exact Nat.le_refl _))
     (fun b1 hb1 => by
       rw [q1] at hb1; obtain rfl := Option.some.inj hb1
       refine ⟨by rw [hst]; rfl, by rw [hlen]; omega, fun e => ?_⟩
       rw [hlen] at e; omega)
     (by rw [hmu, hgw]; simp)
     (fun hvr hvn => by
       rw [hmu]
       refine ⟨cs, e, by rw [hgw]; simp, Z26 (cs := cs) (t := e) (by rw [hgw]; simp) (fun i a hi => ?_)⟩
       obtain ⟨v, k1, k2, k3⟩ := hval hall i a hi
       refine ⟨v, ?_, k2, hvn a v k3⟩
       rw [Nat.zero_add, ← Array.getElem?_toList, h1, List.getElem?_append_left (List.getElem?_eq_some_iff.1 k1).1]
       exact k1)
   refine ⟨_, g', hr, rfl, (hs (by simp) hnomp).1, (hs (by simp) hnomp).2, ?_⟩
   simp only [Gh.R, VR, RF]
   refine ⟨rfl, _, by simp only [g', ZO]; exact if_pos trivial, by simp only [hlen]; exact Nat.le_refl _, fun _ => ⟨0, nc, by rw [hmu], hnc, hnc, fun h => by simp at h, .inr ⟨by rw [hmu], ?_⟩⟩⟩
   rw [hmu, ← h2, Nat.zero_add]
   exact Nat.le_of_eq (ZnO _ _ _).symm
theorem ZDZ (hE : EnvOK P E) (hI : Inv E g) {ts : Array TypeId} {t u e e' : TypeId} {sz site : Nat} (h0 : ts[0]? = some t) (h1 : ts[1]? = some u) (ht : P.underlying t = some (.slice e)) (hu : P.underlying u = some (.slice e'))
   (hsz : tsz E.T e = some sz) (hpos : 0 < sz) {s x : AV} {sv xv : Value} (hs : g.R s sv) (hx : g.R x xv) {r : AV × Ups} (h : (aAppend E.T site e sz s x).run g.H = some r) (ty : TypeId) :
   Done E g r ((Builtin.append_ ts ty #[sv, xv]).run P g.w) := by
 obtain ⟨inf, hi, hsize⟩ := Z0n hE hsz
 unfold aAppend at h
 obtain ⟨⟨n, news⟩, k1, k2⟩ := Rd.run_bind_some h
 obtain ⟨ao, c, vs, rfl, hnl, hnv, hnf, hnd⟩ := Z80 (P := P) hI k1 hx
 have hvl := Zy hnv
 simp only at k2
 have hvs0 : n = 0 → vs = [] := by
   intro h; subst h
   exact List.length_eq_zero_iff.1 (by rw [← hvl, hnl]; simp)
 have hn0 : n = 0 → (Builtin.firstCells inf.size n (.slice ao n c)).run P g.w = .ok #[] g.w := by
   intro h
   rw [hsize]
   have := hvs0 h; subst this
   exact hnf
 cases s <;> simp only at k2 <;> try (simp [Rd.run] at k2; done)
 · -- nil
   simp only [Gh.R, VR] at hs
   subst hs
   split at k2
   · rename_i hz
     simp only [Rd.run, Option.some.injEq] at k2; subst k2
     subst hz
     have := Z16 (P := P) (w' := g.w) (base := none) (sLen := 0) (sCap := 0) h0 h1 ht hu hi (hn0 rfl) (by omega) rfl ty
     exact Done.same hI (by simpa using this) (by simp only [Gh.R, VR])
   · rename_i hz
     split at k2
     · rename_i hroom
       obtain ⟨us, m1, m2⟩ := Rd.run_bind_some k2
       obtain ⟨m3, rfl⟩ := Z1m m1
       simp only [Rd.run, Option.some.injEq] at m2; subst m2
       obtain ⟨inf', zv, r1, r2, r3, r4, r5⟩ := Zd7 hE hroom
       rw [hi] at r1; obtain rfl := Option.some.inj r1
       have hrun := Z1t (P := P) (w := g.w) (base := none) (sLen := 0) (sCap := 0) (olds := #[]) h0 h1 ht hu hi r2 (by rw [hsize]; exact hnd) (by simp [Builtin.firstCells]) (by omega) r3 (by simpa using r5) ty
       simp only [Nat.zero_add] at hrun
       have hd := Z84 (site := site) (need := n) (sz := sz) (cap := grownCap g.w n 0 e) (e := e) (C := vs) (rest := (Builtin.zeroCells zv.cells (grownCap g.w n 0 e - n)).toList) hI m3 hnv hnl
         (cs := #[] ++ vs.toArray ++ Builtin.zeroCells zv.cells (grownCap g.w n 0 e - n)) (by simp) (by
           have := grownCap_ge g.w n 0 e
           simp only [Array.size_append, Z62, List.size_toArray, ← hvl, hnl, r4, hsize]
           rw [Nat.sub_mul]
           have := Nat.mul_le_mul_right sz this
           simp; omega) (grownCap_ge _ _ _ _) hrun
       rw [hnl]
       exact hd
     · simp [Rd.run] at k2
 · -- nobody writes it
   rename_i cells len ex
   have hsR := hs
   simp only [Gh.R, VR] at hs
   obtain ⟨b, o, cap, rfl, c1, c2, c3⟩ := hs
   split at k2
   · rename_i hz
     simp only [Rd.run, Option.some.injEq] at k2; subst k2
     subst hz
     have := Z16 (P := P) (w' := g.w) (base := some ⟨b, o, none⟩) (sLen := len) (sCap := cap) h0 h1 ht hu hi (hn0 rfl) (by omega) rfl ty
     exact Done.same hI (by simpa using this) hsR
   · rename_i hz
     split at k2
     · rename_i hb
       obtain ⟨hex, hcl, hroom⟩ := hb
       obtain ⟨us, m1, m2⟩ := Rd.run_bind_some k2
       obtain ⟨m3, rfl⟩ := Z1m m1
       simp only [Rd.run, Option.some.injEq] at m2; subst m2
       have := c2 hex; subst this
       obtain ⟨inf', zv, r1, r2, r3, r4, r5⟩ := Zd7 hE hroom
       rw [hi] at r1; obtain rfl := Option.some.inj r1
       obtain ⟨ao1, c1', olds, e1, e2, e3, _, e5⟩ := Z80 (P := P) (x := .imm cells cap ex) (sz := sz) (n := cap) (cells := cells) hI (by simp [srcOf, hcl, Rd.run]) hsR
       have hrun := Z1t (P := P) (w := g.w) (base := some ⟨b, o, none⟩) (sLen := cap) (sCap := cap) (olds := olds.toArray) h0 h1 ht hu hi r2 (by rw [hsize]; exact hnd) (by rw [hsize]; exact e5) (by omega) r3 r5 ty
       have hol := Zy e3
       have hd := Z84 (site := site) (need := cap + n) (sz := sz) (cap := grownCap g.w (cap + n) cap e) (e := e) (C := olds ++ vs) (rest := (Builtin.zeroCells zv.cells (grownCap g.w (cap + n) cap e - (cap + n))).toList) hI m3
         (Z5a e3 hnv) (by rw [List.length_append, e2, hnl, Nat.add_mul])
         (cs := olds.toArray ++ vs.toArray ++ Builtin.zeroCells zv.cells (grownCap g.w (cap + n) cap e - (cap + n))) ZdS (by
           have := grownCap_ge g.w (cap + n) cap e
           simp only [Array.size_append, Z62, List.size_toArray, ← hvl, hnl, r4, hsize, ← hol, e2]
           rw [Nat.sub_mul]
           have := Nat.mul_le_mul_right sz this
           rw [Nat.add_mul] at this ⊢
           omega) (grownCap_ge _ _ _ _) hrun
       rw [e2, hnl, ← Nat.add_mul]
       exact hd
     · simp [Rd.run] at k2
 · -- ours
   rename_i id off len cap gl s ex
   have hsR := hs
   split at k2
   · rename_i hss; subst hss
     obtain ⟨bl, j1, j2⟩ := Rd.run_bind_some k2
     obtain ⟨q1, q2, o, cap', rfl, c0, c1, c2, c3⟩ := Z1g hs j1
     split at j2
     · rename_i hz
       simp only [Rd.run, Option.some.injEq] at j2; subst j2
       subst hz
       have := Z16 (P := P) (w' := g.w) (base := some ⟨(g.mu id).1, o, none⟩) (sLen := len) (sCap := cap') h0 h1 ht hu hi (hn0 rfl) (by omega) rfl ty
       exact Done.same hI (by simpa using this) hsR
     · rename_i hz
       split at j2
       · -- in place
         rename_i hin
         cases hst : bl.st <;> rw [hst] at j2 <;> simp only at j2 <;> try (simp [Rd.run] at j2; done)
         split at j2
         · rename_i hle
           simp only [Rd.run, Option.some.injEq] at j2; subst j2
           have hcap : cap' ≠ 0 := by omega
           obtain ⟨d1, d2⟩ := c3.resolve_left hcap
           obtain ⟨w', e1, e2, e3⟩ := Z19 (P := P) (vs := news) (us := vs) (off := off + len * s) hI q1 (by rw [hst]; rfl) (by rw [hst]; simp) (by rw [hnl, Nat.add_assoc, ← Nat.add_mul]; omega) (by rw [hst]; exact hnv)
           rw [hst] at e2 e3
           have hrun := Z16 (P := P) (w' := w') (base := some ⟨(g.mu id).1, o, none⟩) (sLen := len) (sCap := cap') h0 h1 ht hu hi (by rw [hsize]; exact hnf) (by omega) (by
             simp only [Z06, hsize, d1]
             rw [Nat.add_assoc]
             exact e1) ty
           refine ⟨_, _, hrun, rfl, e2, e3, ?_⟩
           have hb : bsz w' (g.mu id).1 = bsz g.w (g.mu id).1 := by
             have h3 := e3.vr _ _ hsR
             obtain ⟨cs, tt, y1, y2⟩ := (hI.blk id bl q1).cells (by rw [hst]; simp)
             by_cases hnil : vs = []
             · subst hnil
               have : g.w = w' := by
                 have := ZOV (P := P) (a := ⟨(g.mu id).1, (g.mu id).2 + (off + len * s), none⟩) (w := g.w)
                 rw [this] at e1; injection e1
               rw [this]
             · have y3 := ZdM y2 (by rw [← q2]; have := Nat.mul_pos (show 0 < len + n from by omega) hpos; omega)
               have y4 : bsz g.w (g.mu id).1 = cs.size := by simp [bsz, y1]
               obtain ⟨w2, cs', z1, z2, z3, _⟩ := Z1q (P := P) vs g.w (g.mu id).1 ((g.mu id).2 + (off + len * s)) 0 cs tt y1 (by
                 rw [← hvl, hnl, ← y4]
                 rw [Nat.add_mul] at hle
                 omega) (fun v hv => by
                   obtain ⟨i, hi⟩ := List.getElem?_of_mem hv
                   have := (ZD news vs).1 hnv
                   have hlt : i < news.length := by rw [hvl]; exact (List.getElem?_eq_some_iff.1 hi).1
                   exact (this.2 i _ v (List.getElem?_eq_getElem hlt) hi).1)
               rw [e1] at z1
               injection z1 with _ z1
               subst z1
               rw [y4]; simp [bsz, z2, z3]
           simp only [Gh.R, VR, RF]
           refine ⟨rfl, ⟨.row, putC bl.cells (off + len * s) news⟩, by simp [Gh.put, ZO], by simp only [Z1x]; omega, fun _ => ⟨o, cap', rfl, by omega, c1, c2, .inr ⟨d1, ?_⟩⟩⟩
           show o + cap' * s ≤ bsz w' (g.mu id).1
           rw [hb]; exact d2
         · simp [Rd.run] at j2
       · rename_i hout
         split at j2
         · rename_i hb
           obtain ⟨hroom, hle⟩ := hb
           obtain ⟨inf', zv, r1, r2, r3, r4, r5⟩ := Zd7 hE hroom
           rw [hi] at r1; obtain rfl := Option.some.inj r1
           have hold : ∀ (hst : bl.st ≠ .box), ∃ olds : List Value, VRo g.fz g.w (window bl.cells off (len * s)) noRef olds ∧ (Builtin.firstCells inf.size len (.slice (some ⟨(g.mu id).1, o, none⟩) len cap')).run P g.w.drew = .ok olds.toArray g.w.drew := by
             intro hst
             obtain ⟨ao1, c1', olds, e1, e2, e3, _, e5⟩ := Z80 (P := P) (x := .ref id off len cap gl s ex) (sz := s) (n := len) (cells := window bl.cells off (len * s)) hI (by
               simp only [srcOf, if_true]
               rw [Rd.run_bind, j1]
               simp only
               cases hs2 : bl.st
               · exact absurd hs2 hst
               · simp only [if_pos (show off + len * s ≤ bl.cells.length from by omega), Rd.run]
               · simp only [if_pos (show off + len * s ≤ bl.cells.length from by omega), Rd.run]
               · exact absurd hs2 (Z0E j1)) hsR
             exact ⟨olds, e3, by rw [hsize]; exact e5⟩
           have hwl := ZU bl.cells off (len * s) (by omega)
           split at j2
           · -- to a new place
             rename_i hex
             have hcc := c2 hex
             have main : bl.st ≠ .box → ((fresh site ⟨.row, window bl.cells off (len * s) ++ news⟩).bind fun f => (Rd.pure (.ref site 0 (len + n) (len + n) ((len + n) * s) s false, f) : Rd (AV × Ups))).run g.H = some r →
                 Done E g r ((Builtin.append_ ts ty #[.slice (some ⟨(g.mu id).1, o, none⟩) len cap', .slice ao n c]).run P g.w) := by
               intro hst j2
               obtain ⟨us, m1, m2⟩ := Rd.run_bind_some j2
               obtain ⟨m3, rfl⟩ := Z1m m1
               simp only [Rd.run, Option.some.injEq] at m2; subst m2
               obtain ⟨olds, e3, e5⟩ := hold hst
               have hol := Zy e3
               have hrun := Z1t (P := P) (w := g.w) (base := some ⟨(g.mu id).1, o, none⟩) (sLen := len) (sCap := cap') (olds := olds.toArray) h0 h1 ht hu hi r2 (by rw [hsize]; exact hnd) e5 (by omega) r3 r5 ty
               exact Z84 (site := site) (need := len + n) (sz := s) (cap := grownCap g.w (len + n) cap' e) (e := e) (C := olds ++ vs) (rest := (Builtin.zeroCells zv.cells (grownCap g.w (len + n) cap' e - (len + n))).toList) hI m3
                 (Z5a e3 hnv) (by rw [List.length_append, hwl, hnl, Nat.add_mul])
                 (cs := olds.toArray ++ vs.toArray ++ Builtin.zeroCells zv.cells (grownCap g.w (len + n) cap' e - (len + n))) ZdS (by
                   have := grownCap_ge g.w (len + n) cap' e
                   simp only [Array.size_append, Z62, List.size_toArray, ← hvl, hnl, r4, hsize, ← hol, hwl]
                   rw [Nat.sub_mul]
                   have := Nat.mul_le_mul_right s this
                   rw [Nat.add_mul] at this ⊢
                   omega) (grownCap_ge _ _ _ _) hrun
             cases hst : bl.st <;> rw [hst] at j2 <;> simp only at j2
             · simp [Rd.run] at j2
             · exact main (by rw [hst]; simp) j2
             · exact main (by rw [hst]; simp) j2
             · exact absurd hst (Z0E j1)
           · -- at its own place or at another one
             cases hst : bl.st <;> rw [hst] at j2 <;> simp only at j2 <;> try (simp [Rd.run] at j2; done)
             split at j2
             · rename_i hb2
               obtain ⟨rfl, hgl⟩ := hb2
               simp only [Rd.run, Option.some.injEq] at j2; subst j2
               obtain ⟨olds, e3, e5⟩ := hold (by rw [hst]; simp)
               have hol := Zy e3
               have hlt : gl < (len + n) * s := by rw [← hgl]; exact Nat.mul_lt_mul_of_pos_right (by omega) hpos
               refine regrow (P := P) (e := e) hI (bl := bl) q1 hst q2 hsR hol e3 hnv (by rw [hwl]) hnl hlt (by omega) hpos c0 c1 c3 ?_ ?_ (grownCap_ge g.w (len + n) cap' e)
               · intro hle2 w' hw
                 refine Z16 (P := P) (w' := w') (base := some ⟨(g.mu id).1, o, none⟩) (sLen := len) (sCap := cap') h0 h1 ht hu hi (by rw [hsize]; exact hnf) hle2 ?_ ty
                 simp only [Z06, hsize]
                 exact hw
               · intro hgt
                 refine ⟨_, Z1t (P := P) (w := g.w) (base := some ⟨(g.mu id).1, o, none⟩) (sLen := len) (sCap := cap') (olds := olds.toArray) h0 h1 ht hu hi r2 (by rw [hsize]; exact hnd) e5 hgt r3 r5 ty, ⟨_, ZdS⟩, ?_⟩
                 have := grownCap_ge g.w (len + n) cap' e
                 simp only [Array.size_append, Z62, List.size_toArray, ← hvl, hnl, r4, hsize, ← hol, hwl]
                 rw [Nat.sub_mul]
                 have := Nat.mul_le_mul_right s this
                 rw [Nat.add_mul] at this ⊢
                 omega
             · simp [Rd.run] at j2
         · simp [Rd.run] at j2
   · simp [Rd.run] at k2
end
end Go.AM
namespace Go.AM
noncomputable section
variable {P : Program} {E : Env} {g : Gh}
theorem ZDO {fz : Nat → Prop} {w : World} {rf : RFt} {asx : List AV} {vs : List Value} (h : VRo fz w asx noRef vs) : VRo fz w asx rf vs := by
 rw [ZD] at h ⊢
 exact ⟨h.1, fun i a v h1 h2 => ⟨(h.2 i a v h1 h2).1, VR.mono (K := fun _ => True) (fun _ hk => ⟨hk, rfl⟩) (fun _ _ _ h => h.elim) a v (fun _ _ => trivial) (h.2 i a v h1 h2).2⟩⟩
theorem Z8i (hI : Inv E g) {sz n : Nat} {x : AV} {xv : Value} {cells : List AV} (h : (srcOf sz x).run g.H = some (n, cells)) (hx : g.R x xv) {m : Nat} (hm : m ≤ n) :
   ∃ (ao : Option Addr) (c : Nat) (vs : List Value), xv = .slice ao n c ∧ cells.length = n * sz ∧ VRo g.fz g.w (cells.take (m * sz)) noRef vs ∧ (Builtin.firstCells sz m xv).run P g.w = .ok vs.toArray g.w := by
 have hms := Nat.mul_le_mul_right sz hm
 cases x <;> simp only [srcOf] at h <;> try (simp [Rd.run] at h; done)
 · simp only [Rd.run, Option.some.injEq, Prod.mk.injEq] at h
   obtain ⟨rfl, rfl⟩ := h
   simp only [Gh.R, VR] at hx
   subst hx
   exact ⟨none, 0, [], rfl, by simp, by simp [VRo], by simp [Builtin.firstCells]⟩
 · rename_i cs len ex
   split at h
   · rename_i hl
     simp only [Rd.run, Option.some.injEq, Prod.mk.injEq] at h
     obtain ⟨rfl, rfl⟩ := h
     simp only [Gh.R, VR] at hx
     obtain ⟨b, o, cap, rfl, h1, h2, h3⟩ := hx
     by_cases h0 : m * sz = 0
     · refine ⟨_, _, [], rfl, hl, by rw [h0]; simp [VRo], ?_⟩
       simp only [Builtin.firstCells]
       rw [h0]
       rfl
     · have hc : VRc g.fz g.w cs noRef b o := by
         rcases h3 with h3 | h3
         · exfalso
           have : m = 0 := by omega
           subst this
           simp at h0
         · exact h3.2
       have hw := ZK hc 0 (m * sz)
       obtain ⟨vs, e1, e2⟩ := Z0f (P := P) hw
       rw [ZU _ _ _ (by omega)] at e1
       exact ⟨_, _, vs, rfl, hl, by simpa [window] using e2, by simp only [Builtin.firstCells]; exact e1⟩
   · simp [Rd.run] at h
 · rename_i id off len cap gl s ex
   split at h
   · rename_i hs; subst hs
     obtain ⟨bl, k1, k2⟩ := Rd.run_bind_some h
     obtain ⟨q1, q2, o, cap', rfl, c0, c1, c2, c3⟩ := Z1g hx k1
     have hnm := Z0E k1
     have hcells := Z1l hI q1 hnm
     have main : ∀ (hst : rfOf g bl.st = noRef), (if off + len * s ≤ bl.cells.length then (Rd.pure (len, window bl.cells off (len * s)) : Rd (Nat × List AV)) else .fail).run g.H = some (n, cells) →
         ∃ (ao : Option Addr) (c : Nat) (vs : List Value), Value.slice (some ⟨(g.mu id).1, o, none⟩) len cap' = .slice ao n c ∧ cells.length = n * s ∧ VRo g.fz g.w (cells.take (m * s)) noRef vs ∧ (Builtin.firstCells s m (.slice (some ⟨(g.mu id).1, o, none⟩) len cap')).run P g.w = .ok vs.toArray g.w := by
       intro hst k2
       split at k2
       · rename_i hle
         simp only [Rd.run, Option.some.injEq, Prod.mk.injEq] at k2
         obtain ⟨rfl, rfl⟩ := k2
         have hwl := ZU bl.cells off (len * s) hle
         by_cases h0 : m * s = 0
         · refine ⟨_, _, [], rfl, hwl, by rw [h0]; simp [VRo], ?_⟩
           simp only [Builtin.firstCells]
           rw [h0]
           rfl
         · have hcap : cap' ≠ 0 := by
             intro h
             have : m = 0 := by omega
             subst this
             simp at h0
           have hw := ZK (ZK hcells off (len * s)) 0 (m * s)
           rw [← (c3.resolve_left hcap).1, hst] at hw
           obtain ⟨vs, e1, e2⟩ := Z0f (P := P) hw
           rw [ZU _ _ _ (by omega)] at e1
           exact ⟨_, _, vs, rfl, hwl, by simpa [window] using e2, e1⟩
       · simp [Rd.run] at k2
     cases hst : bl.st <;> rw [hst] at k2 <;> simp only at k2
     · split at k2
       · rename_i hle
         simp only [Rd.run, Option.some.injEq, Prod.mk.injEq] at k2
         obtain ⟨rfl, rfl⟩ := k2
         have hwl := ZU bl.cells off (len * s) hle.1
         by_cases h0 : m * s = 0
         · refine ⟨_, _, [], rfl, hwl, by rw [h0]; simp [VRo], ?_⟩
           simp only [Builtin.firstCells]
           rw [h0]
           rfl
         · have hcap : cap' ≠ 0 := by
             intro h
             have : m = 0 := by omega
             subst this
             simp at h0
           have hw := ZK (Za9 hle.2 (rf' := noRef) (ZK hcells off (len * s))) 0 (m * s)
           rw [← (c3.resolve_left hcap).1] at hw
           obtain ⟨vs, e1, e2⟩ := Z0f (P := P) hw
           rw [ZU _ _ _ (by omega)] at e1
           exact ⟨_, _, vs, rfl, hwl, by simpa [window] using e2, e1⟩
       · simp [Rd.run] at k2
     · exact main (by rw [hst]; rfl) k2
     · exact main (by rw [hst]; rfl) k2
     · exact absurd hst hnm
   · simp [Rd.run] at h
theorem ZTh (hI : Inv E g) {ts : Array TypeId} {t e : TypeId} {i : TypeInfo} (h0 : ts[0]? = some t) (ht : P.underlying t = some (.slice e)) (hi : P.info? e = some i)
   {d s : AV} {dv sv : Value} (hd : g.R d dv) (hs : g.R s sv) {r : AV × Ups} (h : (aCopy i.size d s).run g.H = some r) (ty : TypeId) :
   Done E g r ((Builtin.copy_ ts ty #[dv, sv]).run P g.w) := by
 unfold aCopy at h
 obtain ⟨⟨n, cells⟩, k1, k2⟩ := Rd.run_bind_some h
 simp only at k2
 cases d <;> simp only at k2 <;> try (simp [Rd.run] at k2; done)
 · simp only [Rd.run, Option.some.injEq] at k2; subst k2
   simp only [Gh.R, VR] at hd
   subst hd
   obtain ⟨ao, c, vs, rfl, hl, hv, hf⟩ := Z8i (P := P) (m := 0) hI k1 hs (Nat.zero_le _)
   refine Done.same (v := .int .i64 0) hI ?_ (by simp only [Gh.R, VR])
   simp [Builtin.copy_, h0, Za ht, ZA hi, Builtin.lenOf, hf, goInt]
 · rename_i id off len cap gl z ex
   split at k2
   · rename_i hz; subst hz
     obtain ⟨bl, j1, j2⟩ := Rd.run_bind_some k2
     obtain ⟨q1, q2, o, cap', rfl, c0, c1, c2, c3⟩ := Z1g hd j1
     cases hst : bl.st <;> rw [hst] at j2 <;> simp only at j2 <;> try (simp [Rd.run] at j2; done)
     · split at j2
       · rename_i hle
         simp only [Rd.run, Option.some.injEq] at j2; subst j2
         obtain ⟨ao, c, vs, rfl, hl, hv, hf⟩ := Z8i (P := P) (m := min n len) hI k1 hs (Nat.min_le_left _ _)
         have hm1 := Nat.mul_le_mul_right i.size (Nat.min_le_left n len)
         have hm2 := Nat.mul_le_mul_right i.size (Nat.min_le_right n len)
         have htl : (cells.take (min n len * i.size)).length = min n len * i.size := by rw [List.length_take, hl]; omega
         obtain ⟨w', e1, e2, e3⟩ := Z19 (P := P) (vs := cells.take (min n len * i.size)) (us := vs) (off := off) hI q1 (by rw [hst]; rfl) (by rw [hst]; simp) (by rw [htl]; omega) (by rw [hst]; exact ZDO hv)
         rw [hst] at e2 e3
         have hstore : (storeCells ⟨(g.mu id).1, o, none⟩ vs).run P g.w = .ok () w' := by
           by_cases hc0 : cap' = 0
           · have : vs = [] := by
               apply List.length_eq_zero_iff.1
               rw [← Zy hv, htl, show len = 0 from by omega]
               simp
             subst this
             exact e1
           · rw [(c3.resolve_left hc0).1]; exact e1
         refine ⟨.int .i64 (min n len : Nat), _, ?_, rfl, e2, e3, by simp only [Gh.R, VR]⟩
         have hmin : Nat.min n len = min n len := rfl
         simp [Builtin.copy_, h0, Za ht, ZA hi, Builtin.lenOf, hf, goInt, hstore, hmin, Gh.put]
       · simp [Rd.run] at j2
     · split at j2
       · rename_i hle
         simp only [Rd.run, Option.some.injEq] at j2; subst j2
         obtain ⟨ao, c, vs, rfl, hl, hv, hf⟩ := Z8i (P := P) (m := min n len) hI k1 hs (Nat.min_le_left _ _)
         have hm1 := Nat.mul_le_mul_right i.size (Nat.min_le_left n len)
         have hm2 := Nat.mul_le_mul_right i.size (Nat.min_le_right n len)
         have htl : (cells.take (min n len * i.size)).length = min n len * i.size := by rw [List.length_take, hl]; omega
         obtain ⟨w', e1, e2, e3⟩ := Z19 (P := P) (vs := cells.take (min n len * i.size)) (us := vs) (off := off) hI q1 (by rw [hst]; rfl) (by rw [hst]; simp) (by rw [htl]; omega) (by rw [hst]; exact hv)
         rw [hst] at e2 e3
         have hstore : (storeCells ⟨(g.mu id).1, o, none⟩ vs).run P g.w = .ok () w' := by
           by_cases hc0 : cap' = 0
           · have : vs = [] := by
               apply List.length_eq_zero_iff.1
               rw [← Zy hv, htl, show len = 0 from by omega]
               simp
             subst this
             exact e1
           · rw [(c3.resolve_left hc0).1]; exact e1
         refine ⟨.int .i64 (min n len : Nat), _, ?_, rfl, e2, e3, by simp only [Gh.R, VR]⟩
         have hmin : Nat.min n len = min n len := rfl
         simp [Builtin.copy_, h0, Za ht, ZA hi, Builtin.lenOf, hf, goInt, hstore, hmin, Gh.put]
       · simp [Rd.run] at j2
   · simp [Rd.run] at k2
theorem ZN3 (hE : EnvOK P E) (hI : Inv E g) {ts : Array TypeId} {t e : TypeId} {sz : Nat} (h0 : ts[0]? = some t) (ht : P.underlying t = some (.slice e)) 
   {s : AV} {sv : Value} (hs : g.R s sv) {r : AV × Ups} (h : (aClear E.T e sz s).run g.H = some r) (ty : TypeId) :
   Done E g r ((Builtin.clear_ ts ty #[sv]).run P g.w) := by
 unfold aClear at h
 split at h
 · simp only [Rd.run, Option.some.injEq] at h; subst h
   simp only [Gh.R, VR] at hs
   subst hs
   refine Done.same (v := .tuple #[]) hI ?_ (by simp only [Gh.R, VR, VRs]; exact ⟨#[], rfl, rfl⟩)
   simp [Builtin.clear_, h0, Za ht]
 · rename_i id off len cap gl z ex zs hz
   split at h
   · rename_i hb
     obtain ⟨rfl, b2, b3, b4⟩ := hb
     obtain ⟨i, inf, zv, hTe, h1, h2, h3, h4, h5, h6⟩ := Z3N g hE hz
     obtain ⟨bl, j1, j2⟩ := Rd.run_bind_some h
     obtain ⟨q1, q2, o, cap', rfl, c0, c1, c2, c3⟩ := Z1g hs j1
     cases hst : bl.st <;> rw [hst] at j2 <;> simp only at j2 <;> try (simp [Rd.run] at j2; done)
     split at j2
     · rename_i hle
       simp only [Rd.run, Option.some.injEq] at j2; subst j2
       have hZ := Z8h (h6 g.fz g.w noRef) (by omega) len
       obtain ⟨w', e1, e2, e3⟩ := Z19 (P := P) (vs := repC zs len) (us := (Builtin.zeroCells zv.cells len).toList) (off := off) hI q1 (by rw [hst]; rfl) (by rw [hst]; simp) (by rw [Z1z, b2]; omega) (by rw [hst]; exact hZ)
       rw [hst] at e2 e3
       refine ⟨.tuple #[], _, ?_, rfl, e2, e3, by simp only [Gh.R, VR, VRs]; exact ⟨#[], rfl, rfl⟩⟩
       by_cases hl0 : len = 0
       · subst hl0
         have hw : g.w = w' := by
           have : (Builtin.zeroCells zv.cells 0).toList = [] := by simp [Builtin.zeroCells, show Array.range 0 = #[] from rfl]
           rw [this] at e1
           injection e1
         simp [Builtin.clear_, h0, Za ht, Gh.put, hw]
       · have hcap : cap' ≠ 0 := by omega
         rw [← (c3.resolve_left hcap).1] at e1
         simp [Builtin.clear_, h0, Za ht, zeroValue, Z1R h1, h2, e1, hl0, Gh.put]
     · simp [Rd.run] at j2
   · simp [Rd.run] at h
 · simp [Rd.run] at h
theorem Z2o {r : Rd AV} {H : AHeap} {x : AV × Ups} (h : (just r).run H = some x) : r.run H = some x.1 ∧ x.2 = [] := by
 obtain ⟨a, h1, h2⟩ := Rd.run_bind_some h
 simp only [Rd.run, Option.some.injEq] at h2; subst h2
 exact ⟨h1, rfl⟩
theorem Z0U {r : Option AV} {H : AHeap} {x : AV × Ups} (h : (justO r).run H = some x) : r = some x.1 ∧ x.2 = [] := by
 cases r with
 | none => simp [justO, Rd.run] at h
 | some a => simp only [justO, Rd.run, Option.some.injEq] at h; subst h; exact ⟨rfl, rfl⟩
theorem Done.of {x : AV × Ups} {r : Result Value} (hI : Inv E g) (he : x.2 = []) (h : ∃ v', r = .ok v' g.w ∧ g.R x.1 v') : Done E g x r := by
 obtain ⟨v', h1, h2⟩ := h
 obtain ⟨a, us⟩ := x
 simp only at he; subst he
 exact Done.same hI h1 h2
theorem ZNH (hE : EnvOK P E) {t : TypeId} (h : Zu E.T t = true) : ∃ e, P.underlying t = some (.slice e) := by
 unfold Zu at h
 split at h
 · rename_i hT
   exact ⟨_, Z0A hE hT⟩
 · exact absurd h (by simp)
theorem ZDh (hE : EnvOK P E) (hI : Inv E g) {b : Builtin} {ts : Array TypeId} {site : Nat} {asx : List AV} {vs : List Value} (hs : g.Rs asx vs) {r : AV × Ups} (h : (Z2 E.T site b ts asx).run g.H = some r) (ty : TypeId) (consts : Array Bool) :
   ∃ s : Sem Value, builtin b ts ty consts vs.toArray = (do pure (.value (← s))) ∧ Done E g r (s.run P g.w) := by
 unfold Z2 at h
 split at h
 · -- len
   rename_i x
   simp only [Gh.Rs, VRs] at hs
   obtain ⟨v, _, rfl, hv, rfl⟩ := hs
   split at h
   · rename_i t ht
     obtain ⟨h1, h2⟩ := Z2o h
     exact ⟨_, rfl, Done.of hI h2 (ZJb hE ht h1 hv)⟩
   · simp [Rd.run] at h
 · -- append
   rename_i s x
   simp only [Gh.Rs, VRs] at hs
   obtain ⟨v, _, rfl, hv, u, _, rfl, hu, rfl⟩ := hs
   split at h
   · rename_i t u' ht0 ht1
     split at h
     · rename_i e he hsl
       split at h
       · rename_i sz hsz
         obtain ⟨e', hu'⟩ := ZNH hE hsl
         exact ⟨_, rfl, ZDZ hE hI ht0 ht1 (Z7p hE he) hu' hsz (Nat.succ_pos _) hv hu h ty⟩
       · simp [Rd.run] at h
     · simp [Rd.run] at h
   · simp [Rd.run] at h
 · -- copy
   rename_i d s
   simp only [Gh.Rs, VRs] at hs
   obtain ⟨v, _, rfl, hv, u, _, rfl, hu, rfl⟩ := hs
   split at h
   · rename_i t ht0
     split at h
     · rename_i e he
       split at h
       · rename_i sz hsz
         obtain ⟨inf, hi, hsize⟩ := Z0n hE hsz
         have hsize' : inf.size = sz + 1 := hsize
         rw [← hsize'] at h
         exact ⟨_, rfl, ZTh hI ht0 (Z7p hE he) hi hv hu h ty⟩
       · simp [Rd.run] at h
     · simp [Rd.run] at h
   · simp [Rd.run] at h
 · -- clear
   rename_i s
   simp only [Gh.Rs, VRs] at hs
   obtain ⟨v, _, rfl, hv, rfl⟩ := hs
   split at h
   · rename_i t ht0
     split at h
     · rename_i e he
       split at h
       · rename_i sz hsz
         exact ⟨_, rfl, ZN3 hE hI ht0 (Z7p hE he) hv h ty⟩
       · simp [Rd.run] at h
     · simp [Rd.run] at h
   · simp [Rd.run] at h
 · -- min
   rename_i x rest
   simp only [Gh.Rs, VRs] at hs
   obtain ⟨v, t, rfl, hv, ht⟩ := hs
   obtain ⟨h1, h2⟩ := Z0U h
   exact ⟨_, rfl, Done.of hI h2 (ZEi rest x _ v t h1 hv ht)⟩
 · rename_i x rest
   simp only [Gh.Rs, VRs] at hs
   obtain ⟨v, t, rfl, hv, ht⟩ := hs
   obtain ⟨h1, h2⟩ := Z0U h
   exact ⟨_, rfl, Done.of hI h2 (ZGO rest x _ v t h1 hv ht)⟩
 · simp [Rd.run] at h
end
end Go.AM
namespace Go.AM
noncomputable section
variable {P : Program} {E : Env} {g : Gh}
mutual
theorem Z1u {fz fz' : Nat → Prop} {w w' : World} {rf rf' : RFt} : ∀ (a : AV) (v : Value), a.leads = false → VR fz w a rf v → VR fz' w' a rf' v
 | .int .., _, _, h => by simpa only [VR] using h
 | .bool .., _, _, h => by simpa only [VR] using h
 | .str .., _, _, h => by simpa only [VR] using h
 | .nilsl, _, _, h => by simpa only [VR] using h
 | .nilptr, _, _, h => by simpa only [VR] using h
 | .nilfunc, _, _, h => by simpa only [VR] using h
 | .nilmap, _, _, h => by simpa only [VR] using h
 | .agg vs, _, hl, h => by
   simp only [VR] at h ⊢; obtain ⟨a, e, h⟩ := h
   exact ⟨a, e, Z7P vs _ (by simpa only [AV.leads] using hl) h⟩
 | .tup vs, _, hl, h => by
   simp only [VR] at h ⊢; obtain ⟨a, e, h⟩ := h
   exact ⟨a, e, Z7T vs _ (by simpa only [AV.leads] using hl) h⟩
 | .clo .., _, hl, _ => by simp [AV.leads] at hl
 | .imm .., _, hl, _ => by simp [AV.leads] at hl
 | .iptr .., _, hl, _ => by simp [AV.leads] at hl
 | .ref .., _, hl, _ => by simp [AV.leads] at hl
 | .ptr .., _, hl, _ => by simp [AV.leads] at hl
 | .any, _, hl, _ => by simp [AV.leads] at hl
theorem Z7T {fz fz' : Nat → Prop} {w w' : World} {rf rf' : RFt} : ∀ (asx : List AV) (vs : List Value), AV.leads.leadsL asx = false → VRs fz w asx rf vs → VRs fz' w' asx rf' vs
 | [], _, _, h => by simpa only [VRs] using h
 | a :: asx, _, hl, h => by
   simp only [AV.leads.leadsL, Bool.or_eq_false_iff] at hl
   simp only [VRs] at h ⊢; obtain ⟨v, t, e, h1, h2⟩ := h
   exact ⟨v, t, e, Z1u a v hl.1 h1, Z7T asx t hl.2 h2⟩
theorem Z7P {fz fz' : Nat → Prop} {w w' : World} {rf rf' : RFt} : ∀ (asx : List AV) (vs : List Value), AV.leads.leadsL asx = false → VRo fz w asx rf vs → VRo fz' w' asx rf' vs
 | [], _, _, h => by simpa only [VRo] using h
 | a :: asx, _, hl, h => by
   simp only [AV.leads.leadsL, Bool.or_eq_false_iff] at hl
   simp only [VRo] at h ⊢; obtain ⟨v, t, e, h0, h1, h2⟩ := h
   exact ⟨v, t, e, h0, Z1u a v hl.1 h1, Z7P asx t hl.2 h2⟩
end
mutual
theorem Zna {Hc : AHeap} {site : Nat → Nat} : ∀ (d : Nat) (a : AV) (s : List Nat) (u : Ups) (x : AV × List Nat × Ups), a.leads = false → imp Hc site d a s u = some x → x = (a, s, u)
 | 0, _, _, _, _, _, h => by simp [imp] at h
 | d + 1, a, s, u, x, hl, h => by
   cases a <;> simp only [AV.leads] at hl <;> try (simp at hl; done)
   all_goals simp only [imp] at h
   case agg vs =>
     cases hi : imps Hc site d vs s u with
     | none => rw [hi] at h; simp at h
     | some y =>
       rw [hi] at h
       have := Z5O d vs s u y hl hi
       subst this
       simp only [Option.some.injEq] at h; exact h.symm
   case tup vs =>
     cases hi : imps Hc site d vs s u with
     | none => rw [hi] at h; simp at h
     | some y =>
       rw [hi] at h
       have := Z5O d vs s u y hl hi
       subst this
       simp only [Option.some.injEq] at h; exact h.symm
   all_goals (simp only [Option.some.injEq] at h; exact h.symm)
theorem Z5O {Hc : AHeap} {site : Nat → Nat} : ∀ (d : Nat) (asx : List AV) (s : List Nat) (u : Ups) (x : List AV × List Nat × Ups), AV.leads.leadsL asx = false → imps Hc site d asx s u = some x → x = (asx, s, u)
 | 0, _, _, _, _, _, h => by simp [imps] at h
 | d + 1, [], s, u, x, _, h => by simp only [imps, Option.some.injEq] at h; exact h.symm
 | d + 1, a :: asx, s, u, x, hl, h => by
   simp only [AV.leads.leadsL, Bool.or_eq_false_iff] at hl
   simp only [imps] at h
   cases h1 : imp Hc site d a s u with
   | none => rw [h1] at h; simp at h
   | some y =>
     rw [h1] at h
     have := Zna d a s u y hl.1 h1
     subst this
     simp only at h
     cases h2 : imps Hc site d asx s u with
     | none => rw [h2] at h; simp at h
     | some z =>
       rw [h2] at h
       have := Z5O d asx s u z hl.2 h2
       subst this
       simp only [Option.some.injEq] at h; exact h.symm
end
def Par (g1 : Gh) : List Nat → Ups → Prop
 | [], [] => True
 | id :: is, p :: ps => (hget g1.H id = some p.2 ∧ p.2.st = .row) ∧ Par g1 is ps
 | _, _ => False
def Links (g1 g2 : Gh) : List Nat → Ups → Prop
 | [], [] => True
 | id :: is, p :: ps => (hget g1.H id = some p.2 ∧ hget g2.H p.1 = some p.2 ∧ g2.mu p.1 = g1.mu id) ∧ Links g1 g2 is ps
 | _, _ => False
mutual
theorem ZAp {g1 : Gh} {site : Nat → Nat} : ∀ (d : Nat) (a a' : AV) (s s' : List Nat) (u u' : Ups), imp g1.H site d a s u = some (a', s', u') → Par g1 s u ∧ s.Nodup → Par g1 s' u' ∧ s'.Nodup
 | 0, _, _, _, _, _, _, h, _ => by simp [imp] at h
 | d + 1, a, a', s, s', u, u', h, hp => by
   cases a
   case agg vs =>
     simp only [imp] at h
     cases hi : imps g1.H site d vs s u with
     | none => rw [hi] at h; simp at h
     | some y =>
       obtain ⟨xs, s2, u2⟩ := y
       rw [hi] at h; simp only [Option.some.injEq, Prod.mk.injEq] at h
       obtain ⟨_, rfl, rfl⟩ := h
       exact Z83 d vs xs s s2 u u2 hi hp
   case tup vs =>
     simp only [imp] at h
     cases hi : imps g1.H site d vs s u with
     | none => rw [hi] at h; simp at h
     | some y =>
       obtain ⟨xs, s2, u2⟩ := y
       rw [hi] at h; simp only [Option.some.injEq, Prod.mk.injEq] at h
       obtain ⟨_, rfl, rfl⟩ := h
       exact Z83 d vs xs s s2 u u2 hi hp
   case clo f caps =>
     cases caps with
     | nil => simp only [imp, Option.some.injEq, Prod.mk.injEq] at h; obtain ⟨_, rfl, rfl⟩ := h; exact hp
     | cons c cs =>
       simp only [imp] at h
       split at h
       · simp only [Option.some.injEq, Prod.mk.injEq] at h; obtain ⟨_, rfl, rfl⟩ := h; exact hp
       · exact absurd h (by simp)
   case ref id off len cap gl sz ex =>
     simp only [imp] at h
     split at h
     · rename_i b hb
       split at h
       · rename_i hst
         split at h
         · rename_i hc
           simp only [Option.some.injEq, Prod.mk.injEq] at h
           obtain ⟨_, rfl, rfl⟩ := h
           exact ⟨⟨⟨hb, hst⟩, hp.1⟩, List.nodup_cons.2 ⟨hc.2, hp.2⟩⟩
         · exact absurd h (by simp)
       · split at h
         · simp only [Option.some.injEq, Prod.mk.injEq] at h; obtain ⟨_, rfl, rfl⟩ := h; exact hp
         · exact absurd h (by simp)
       · exact absurd h (by simp)
     · exact absurd h (by simp)
   case ptr => simp [imp] at h
   case any => simp [imp] at h
   case mapv => simp [imp] at h
   case bnd => simp [imp] at h
   all_goals (simp only [imp, Option.some.injEq, Prod.mk.injEq] at h; obtain ⟨_, rfl, rfl⟩ := h; exact hp)
theorem Z83 {g1 : Gh} {site : Nat → Nat} : ∀ (d : Nat) (asx as' : List AV) (s s' : List Nat) (u u' : Ups), imps g1.H site d asx s u = some (as', s', u') → Par g1 s u ∧ s.Nodup → Par g1 s' u' ∧ s'.Nodup
 | 0, _, _, _, _, _, _, h, _ => by simp [imps] at h
 | d + 1, [], _, s, _, u, _, h, hp => by simp only [imps, Option.some.injEq, Prod.mk.injEq] at h; obtain ⟨_, rfl, rfl⟩ := h; exact hp
 | d + 1, a :: asx, _, s, _, u, _, h, hp => by
   simp only [imps] at h
   cases h1 : imp g1.H site d a s u with
   | none => rw [h1] at h; simp at h
   | some y =>
     obtain ⟨x, s2, u2⟩ := y
     rw [h1] at h
     simp only at h
     cases h2 : imps g1.H site d asx s2 u2 with
     | none => rw [h2] at h; simp at h
     | some z =>
       obtain ⟨xs, s3, u3⟩ := z
       rw [h2] at h
       simp only [Option.some.injEq, Prod.mk.injEq] at h; obtain ⟨_, rfl, rfl⟩ := h
       exact Z83 d asx xs s2 s3 u2 u3 h2 (ZAp d a x s s2 u u2 h1 hp)
end
mutual
theorem ZGH {g1 g2 : Gh} (hI1 : Inv E g1) (hw : g2.w = g1.w) (hfz : ∀ k, g1.fz k → g2.fz k) {site : Nat → Nat} : ∀ (d : Nat) (a a' : AV) (s s' : List Nat) (u u' : Ups), imp g1.H site d a s u = some (a', s', u') → Links g1 g2 s' u' →
   Links g1 g2 s u ∧ ∀ v, g1.R a v → g2.R a' v
 | 0, _, _, _, _, _, _, h, _ => by simp [imp] at h
 | d + 1, a, a', s, s', u, u', h, hl => by
   have hf : ∀ k, g1.fz k → g2.fz k ∧ g2.w.heap[k]? = g1.w.heap[k]? := fun k hk => ⟨hfz k hk, by rw [hw]⟩
   cases a
   case agg vs =>
     simp only [imp] at h
     cases hi : imps g1.H site d vs s u with
     | none => rw [hi] at h; simp at h
     | some y =>
       obtain ⟨xs, s2, u2⟩ := y
       rw [hi] at h; simp only [Option.some.injEq, Prod.mk.injEq] at h
       obtain ⟨rfl, rfl, rfl⟩ := h
       obtain ⟨k1, k2, k3⟩ := ZdQ hI1 hw hfz d vs xs s s2 u u2 hi hl
       refine ⟨k1, fun v hv => ?_⟩
       simp only [Gh.R, VR] at hv ⊢
       obtain ⟨A, rfl, hA⟩ := hv
       refine ⟨A, rfl, ?_⟩
       rw [ZD] at hA ⊢
       refine ⟨k2.trans hA.1, fun i a v q1 q2 => ?_⟩
       have hlt : i < vs.length := by rw [← k2]; exact (List.getElem?_eq_some_iff.1 q1).1
       obtain ⟨r1, r2⟩ := hA.2 i _ v (List.getElem?_eq_getElem hlt) q2
       exact ⟨r1, k3 i _ _ (List.getElem?_eq_getElem hlt) q1 v r2⟩
   case tup vs =>
     simp only [imp] at h
     cases hi : imps g1.H site d vs s u with
     | none => rw [hi] at h; simp at h
     | some y =>
       obtain ⟨xs, s2, u2⟩ := y
       rw [hi] at h; simp only [Option.some.injEq, Prod.mk.injEq] at h
       obtain ⟨rfl, rfl, rfl⟩ := h
       obtain ⟨k1, k2, k3⟩ := ZdQ hI1 hw hfz d vs xs s s2 u u2 hi hl
       refine ⟨k1, fun v hv => ?_⟩
       simp only [Gh.R, VR] at hv ⊢
       obtain ⟨A, rfl, hA⟩ := hv
       refine ⟨A, rfl, ?_⟩
       rw [Z0v] at hA ⊢
       refine ⟨k2.trans hA.1, fun i a v q1 q2 => ?_⟩
       have hlt : i < vs.length := by rw [← k2]; exact (List.getElem?_eq_some_iff.1 q1).1
       exact k3 i _ _ (List.getElem?_eq_getElem hlt) q1 v (hA.2 i _ v (List.getElem?_eq_getElem hlt) q2)
   case clo f caps =>
     cases caps with
     | nil =>
       simp only [imp, Option.some.injEq, Prod.mk.injEq] at h; obtain ⟨rfl, rfl, rfl⟩ := h
       exact ⟨hl, fun v hv => by simpa only [Gh.R, VR, VRs] using hv⟩
     | cons c cs =>
       simp only [imp] at h
       split at h
       · rename_i hfl
         simp only [Option.some.injEq, Prod.mk.injEq] at h; obtain ⟨rfl, rfl, rfl⟩ := h
         refine ⟨hl, fun v hv => ?_⟩
         simp only [Gh.R, VR] at hv ⊢
         obtain ⟨A, e, hA⟩ := hv
         refine ⟨A, e, ?_⟩
         rw [Z0v] at hA ⊢
         refine ⟨hA.1, fun i a u q1 q2 => ?_⟩
         have hfa : a.flat = true := List.all_eq_true.1 hfl a (List.mem_of_getElem? q1)
         exact Z0x (VR.mono (K := fun _ => True) hf (fun _ _ _ h => h) _ u (fun _ _ => trivial) (Z56 (rf' := noRef) hfa (hA.2 i a u q1 q2)))
       · exact absurd h (by simp)
   case ref id off len cap gl sz ex =>
     simp only [imp] at h
     split at h
     · rename_i b hb
       split at h
       · rename_i hst
         split at h
         · rename_i hc
           simp only [Option.some.injEq, Prod.mk.injEq] at h
           obtain ⟨rfl, rfl, rfl⟩ := h
           obtain ⟨⟨l1, l2, l3⟩, l4⟩ := hl
           refine ⟨l4, fun v hv => ?_⟩
           simp only [Gh.R, VR, RF] at hv ⊢
           obtain ⟨o1, b', q1, q2, q3⟩ := hv
           rw [hb] at q1; obtain rfl := Option.some.inj q1
           refine ⟨o1, b, l2, q2, fun e => ?_⟩
           simp only at l3
           rw [l3, hw]
           exact q3 e
         · exact absurd h (by simp)
       · rename_i hst
         split at h
         · rename_i hc
           simp only [Option.some.injEq, Prod.mk.injEq] at h; obtain ⟨rfl, rfl, rfl⟩ := h
           refine ⟨hl, fun v hv => ?_⟩
           simp only [Gh.R, VR, RF] at hv ⊢
           obtain ⟨o1, b', q1, q2, q3⟩ := hv
           rw [hb] at q1; obtain rfl := Option.some.inj q1
           obtain ⟨o, cap', rfl, c0, c1, c2, c3⟩ := q3 hc.1
           refine ⟨(g1.mu id).1, o, cap', rfl, c0, ?_, ?_⟩
           · simp only [Bool.and_eq_true, decide_eq_true_eq]
             rintro ⟨r3, r4⟩
             rw [c2 r3, r4]
           · by_cases h0 : cap' = 0
             · exact .inl h0
             · refine .inr ⟨hfz _ (hI1.frz id b hb (by rw [hst]; rfl)), ?_⟩
               have hcells := ZK (Z1l hI1 hb (by rw [hst]; simp)) off (len * sz)
               rw [← (c3.resolve_left h0).1, hst] at hcells
               exact VRc.mono (K := fun _ => True) hf (fun _ _ _ h => h) _ _ _ (by rw [hw]) (fun _ _ => trivial) hcells
         · exact absurd h (by simp)
       · exact absurd h (by simp)
     · exact absurd h (by simp)
   case ptr => simp [imp] at h
   case any => simp [imp] at h
   case mapv => simp [imp] at h
   case bnd => simp [imp] at h
   all_goals
     simp only [imp, Option.some.injEq, Prod.mk.injEq] at h
     obtain ⟨rfl, rfl, rfl⟩ := h
     refine ⟨hl, fun v hv => ?_⟩
     exact Z0x (VR.mono (K := fun _ => True) hf (fun _ _ _ h => h) _ v (fun _ _ => trivial) (Z56 (rf' := noRef) rfl hv))
theorem ZdQ {g1 g2 : Gh} (hI1 : Inv E g1) (hw : g2.w = g1.w) (hfz : ∀ k, g1.fz k → g2.fz k) {site : Nat → Nat} : ∀ (d : Nat) (asx as' : List AV) (s s' : List Nat) (u u' : Ups), imps g1.H site d asx s u = some (as', s', u') → Links g1 g2 s' u' →
   Links g1 g2 s u ∧ as'.length = asx.length ∧ ∀ (i : Nat) (a a' : AV), asx[i]? = some a → as'[i]? = some a' → ∀ v, g1.R a v → g2.R a' v
 | 0, _, _, _, _, _, _, h, _ => by simp [imps] at h
 | d + 1, [], _, s, _, u, _, h, hl => by
   simp only [imps, Option.some.injEq, Prod.mk.injEq] at h; obtain ⟨rfl, rfl, rfl⟩ := h
   exact ⟨hl, rfl, fun i a a' h => by simp at h⟩
 | d + 1, a :: asx, _, s, _, u, _, h, hl => by
   simp only [imps] at h
   cases h1 : imp g1.H site d a s u with
   | none => rw [h1] at h; simp at h
   | some y =>
     obtain ⟨x, s2, u2⟩ := y
     rw [h1] at h
     simp only at h
     cases h2 : imps g1.H site d asx s2 u2 with
     | none => rw [h2] at h; simp at h
     | some z =>
       obtain ⟨xs, s3, u3⟩ := z
       rw [h2] at h
       simp only [Option.some.injEq, Prod.mk.injEq] at h; obtain ⟨rfl, rfl, rfl⟩ := h
       obtain ⟨k1, k2, k3⟩ := ZdQ hI1 hw hfz d asx xs s2 s3 u2 u3 h2 hl
       obtain ⟨j1, j2⟩ := ZGH hI1 hw hfz d a x s s2 u u2 h1 k1
       refine ⟨j1, by simp [k2], fun i b b' e1 e2 => ?_⟩
       cases i with
       | zero => simp at e1 e2; subst e1; subst e2; exact j2
       | succ i => simp at e1 e2; exact k3 i b b' e1 e2
end
theorem Z2q : ∀ {l : List Nat}, AM.apart l = true → l.Nodup
 | [], _ => List.nodup_nil
 | a :: l, h => by
   simp only [AM.apart, Bool.and_eq_true, Bool.not_eq_true'] at h
   exact List.nodup_cons.2 ⟨fun hm => by rw [List.elem_eq_true_of_mem hm] at h; exact absurd h.1 (by simp), Z2q h.2⟩
theorem Z7W : ∀ {l : List Nat} {H : AHeap} {u : Unit}, (freeAll l).run H = some u → ∀ i ∈ l, hget H i = none
 | [], _, _, _, i, hi => by simp at hi
 | j :: l, H, u, h, i, hi => by
   simp only [freeAll, Rd.run] at h
   cases hj : hget H j with
   | some b => rw [hj] at h; simp [Rd.run] at h
   | none =>
     rw [hj] at h
     rcases List.mem_cons.1 hi with rfl | hi
     · exact hj
     · exact Z7W h i hi
theorem Zw : ∀ (us : Ups) (H : AHeap) (j : Nat), j ∉ us.map (·.1) → hget (upds H us) j = hget H j
 | [], _, _, _ => rfl
 | (i, b) :: us, H, j, h => by
   simp only [List.map_cons, List.mem_cons, not_or] at h
   simp only [upds]
   rw [Zw us _ j h.2, ZO, if_neg h.1]
theorem Z1H : ∀ (us : Ups) (H : AHeap), (us.map (·.1)).Nodup → ∀ p ∈ us, hget (upds H us) p.1 = some p.2
 | [], _, _, p, hp => by simp at hp
 | (i, b) :: us, H, hn, p, hp => by
   simp only [List.map_cons, List.nodup_cons] at hn
   simp only [upds]
   rcases List.mem_cons.1 hp with rfl | hp
   · rw [Zw us _ _ hn.1, ZO, if_pos rfl]
   · exact Z1H us _ hn.2 p hp
def muImp (g g1 : Gh) : List Nat → Ups → Nat → Nat × Nat
 | id :: is, p :: ps, j => if j = p.1 then g1.mu id else muImp g g1 is ps j
 | _, _, j => g.mu j
theorem Z5P (g g1 : Gh) : ∀ (s : List Nat) (u : Ups) (j : Nat), j ∉ u.map (·.1) → muImp g g1 s u j = g.mu j
 | [], _, _, _ => by simp [muImp]
 | _ :: _, [], _, _ => by simp [muImp]
 | id :: is, p :: ps, j, h => by
   simp only [List.map_cons, List.mem_cons, not_or] at h
   simp only [muImp, if_neg h.1]
   exact Z5P g g1 is ps j h.2
theorem Ze2 {g g1 : Gh} : ∀ (s : List Nat) (u : Ups), Par g1 s u → s.Nodup → (u.map (·.1)).Nodup → ∀ p ∈ u, ∃ id ∈ s, hget g1.H id = some p.2 ∧ p.2.st = .row ∧ muImp g g1 s u p.1 = g1.mu id
 | [], [], _, _, _, p, hp => by simp at hp
 | [], _ :: _, h, _, _, _, _ => h.elim
 | _ :: _, [], h, _, _, _, _ => h.elim
 | id :: is, q :: ps, h, hs, hu, p, hp => by
   simp only [List.map_cons, List.nodup_cons] at hu hs
   rcases List.mem_cons.1 hp with rfl | hp
   · exact ⟨id, by simp, h.1.1, h.1.2, by simp [muImp]⟩
   · obtain ⟨i, h1, h2, h3, h4⟩ := Ze2 (g := g) is ps h.2 hs.2 hu.2 p hp
     refine ⟨i, by simp [h1], h2, h3, ?_⟩
     have : p.1 ≠ q.1 := fun e => hu.1 (e ▸ List.mem_map_of_mem hp)
     simp only [muImp, if_neg this]
     exact h4
theorem Zg9 {g g1 : Gh} {H : AHeap} {fz : Nat → Prop} {w : World} : ∀ (s : List Nat) (u : Ups) (mu : Nat → Nat × Nat), Par g1 s u → (u.map (·.1)).Nodup → (∀ p ∈ u, hget H p.1 = some p.2) → (∀ j ∈ u.map (·.1), mu j = muImp g g1 s u j) →
   Links g1 { mu := mu, fz := fz, H := H, w := w } s u
 | [], [], _, _, _, _, _ => trivial
 | [], _ :: _, _, h, _, _, _ => h.elim
 | _ :: _, [], _, h, _, _, _ => h.elim
 | id :: is, q :: ps, mu, h, hu, hH, hm => by
   simp only [List.map_cons, List.nodup_cons] at hu
   refine ⟨⟨h.1.1, hH q (by simp), ?_⟩, Zg9 (g := g) is ps mu h.2 hu.2 (fun p hp => hH p (by simp [hp])) (fun j hj => ?_)⟩
   · exact (hm q.1 (by simp)).trans (by simp [muImp])
   · rw [hm j (by simp only [List.map_cons, List.mem_cons]; exact .inr hj)]
     have : j ≠ q.1 := fun e => hu.1 (e ▸ hj)
     simp [muImp, this]
mutual
theorem ZNj {H : AHeap} : ∀ (d : Nat) (a a' : AV) (V : List Nat), (snap d a).run H = some (a', V) → ∀ id ∈ V, ∃ b, hget H id = some b
 | 0, a, a', V, h, id, hid => by simp [snap, Rd.run] at h
 | d + 1, a, a', V, h, id, hid => by
   cases a <;> simp only [snap] at h
   case agg vs =>
     obtain ⟨⟨xs, V2⟩, h1, h2⟩ := Rd.run_bind_some h
     simp only [Rd.run, Option.some.injEq, Prod.mk.injEq] at h2
     obtain ⟨rfl, rfl⟩ := h2
     exact Z0X d vs xs V2 h1 id hid
   case tup vs =>
     obtain ⟨⟨xs, V2⟩, h1, h2⟩ := Rd.run_bind_some h
     simp only [Rd.run, Option.some.injEq, Prod.mk.injEq] at h2
     obtain ⟨rfl, rfl⟩ := h2
     exact Z0X d vs xs V2 h1 id hid
   case clo f vs =>
     obtain ⟨⟨xs, V2⟩, h1, h2⟩ := Rd.run_bind_some h
     simp only [Rd.run, Option.some.injEq, Prod.mk.injEq] at h2
     obtain ⟨rfl, rfl⟩ := h2
     exact Z0X d vs xs V2 h1 id hid
   case ref id' off len cap gl sz ex =>
     obtain ⟨b, h1, h2⟩ := Rd.run_bind_some h
     obtain ⟨k1, k2⟩ := Z0k h1
     split at h2
     · cases hs : b.st <;> rw [hs] at h2 <;> simp only at h2
       · obtain ⟨⟨xs, V2⟩, h3, h4⟩ := Rd.run_bind_some h2
         simp only [Rd.run, Option.some.injEq, Prod.mk.injEq] at h4
         obtain ⟨rfl, rfl⟩ := h4
         rcases List.mem_cons.1 hid with rfl | hid
         · exact ⟨b, k1⟩
         · exact Z0X d _ xs V2 h3 id hid
       all_goals
         simp only [Rd.run, Option.some.injEq, Prod.mk.injEq] at h2
         obtain ⟨rfl, rfl⟩ := h2
         simp only [List.mem_singleton] at hid
         subst hid; exact ⟨b, k1⟩
     · simp [Rd.run] at h2
   case ptr id' off gl =>
     obtain ⟨b, h1, h2⟩ := Rd.run_bind_some h
     obtain ⟨k1, k2⟩ := Z0k h1
     cases hs : b.st <;> rw [hs] at h2 <;> simp only at h2
     · obtain ⟨⟨xs, V2⟩, h3, h4⟩ := Rd.run_bind_some h2
       simp only [Rd.run, Option.some.injEq, Prod.mk.injEq] at h4
       obtain ⟨rfl, rfl⟩ := h4
       rcases List.mem_cons.1 hid with rfl | hid
       · exact ⟨b, k1⟩
       · exact Z0X d _ xs V2 h3 id hid
     all_goals
       simp only [Rd.run, Option.some.injEq, Prod.mk.injEq] at h2
       obtain ⟨rfl, rfl⟩ := h2
       simp only [List.mem_singleton] at hid
       subst hid; exact ⟨b, k1⟩
   case any => simp [Rd.run] at h
   case mapv => simp [Rd.run] at h
   case bnd => simp [Rd.run] at h
   all_goals
     simp only [Rd.run, Option.some.injEq, Prod.mk.injEq] at h
     obtain ⟨rfl, rfl⟩ := h
     simp at hid
theorem Z0X {H : AHeap} : ∀ (d : Nat) (asx as' : List AV) (V : List Nat), (snaps d asx).run H = some (as', V) → ∀ id ∈ V, ∃ b, hget H id = some b
 | 0, asx, as', V, h, id, hid => by simp [snaps, Rd.run] at h
 | d + 1, [], as', V, h, id, hid => by
   simp only [snaps, Rd.run, Option.some.injEq, Prod.mk.injEq] at h
   obtain ⟨rfl, rfl⟩ := h
   simp at hid
 | d + 1, a :: asx, as', V, h, id, hid => by
   simp only [snaps] at h
   obtain ⟨⟨x, V1⟩, h1, h2⟩ := Rd.run_bind_some h
   obtain ⟨⟨y, V2⟩, h3, h4⟩ := Rd.run_bind_some h2
   simp only [Rd.run, Option.some.injEq, Prod.mk.injEq] at h4
   obtain ⟨rfl, rfl⟩ := h4
   rcases List.mem_append.1 hid with hid | hid
   · exact ZNj d a x V1 h1 id hid
   · exact Z0X d asx y V2 h3 id hid
end
end
end Go.AM
namespace Go.AM
noncomputable section
variable {P : Program} {E : Env} {g : Gh}
theorem ZyR {g g1 : Gh} (hI1 : Inv E g1) : ∀ (s : List Nat) (u : Ups), Par g1 s u → s.Nodup → (u.map (·.1)).Nodup → ∀ p ∈ u, ∀ q ∈ u, p.1 ≠ q.1 → (muImp g g1 s u p.1).1 ≠ (muImp g g1 s u q.1).1
 | [], [], _, _, _, p, hp, _, _, _ => by simp at hp
 | [], _ :: _, h, _, _, _, _, _, _, _ => h.elim
 | _ :: _, [], h, _, _, _, _, _, _, _ => h.elim
 | id :: is, c :: ps, h, hs, hu, p, hp, q, hq, hne => by
   have hu' := hu
   have hs' := hs
   simp only [List.map_cons, List.nodup_cons] at hu hs
   have key : ∀ x ∈ ps, (muImp g g1 (id :: is) (c :: ps) c.1).1 ≠ (muImp g g1 (id :: is) (c :: ps) x.1).1 := by
     intro x hx
     obtain ⟨i, h1, h2, h3, h4⟩ := Ze2 (g := g) is ps h.2 hs.2 hu.2 x hx
     have hxc : x.1 ≠ c.1 := fun e => hu.1 (e ▸ List.mem_map_of_mem hx)
     simp only [muImp, if_neg hxc, if_true]
     rw [h4]
     exact hI1.inj id i _ _ h.1.1 h2 (fun e => hs.1 (e ▸ h1))
   rcases List.mem_cons.1 hp with ep | hp2
   · rcases List.mem_cons.1 hq with eq | hq2
     · exact absurd (by rw [ep, eq]) hne
     · rw [ep]; exact key q hq2
   · rcases List.mem_cons.1 hq with eq | hq2
     · rw [eq]; exact (key p hp2).symm
     · have h1 : p.1 ≠ c.1 := fun e => hu.1 (e ▸ List.mem_map_of_mem hp2)
       have h2 : q.1 ≠ c.1 := fun e => hu.1 (e ▸ List.mem_map_of_mem hq2)
       simp only [muImp, if_neg h1, if_neg h2]
       exact ZyR hI1 is ps h.2 hs.2 hu.2 p hp2 q hq2 hne
theorem ZfN (hI : Inv E g) {g1 : Gh} (hI1 : Inv E g1) (hs : g.w.heap.size ≤ g1.w.heap.size) (hold : ∀ k, k < g.w.heap.size → g1.w.heap[k]? = g.w.heap[k]?) (hos : g1.w.os = g.w.os) (htape : g1.w.tape = g.w.tape) (hout : g1.w.output = g.w.output)
   (h1 : ∀ k, g.fz k → g1.fz k) (h2 : ∀ k, g1.fz k → g.fz k ∨ g.w.heap.size ≤ k) (hrow : ∀ id b, hget g1.H id = some b → b.st.open_ = true → g.w.heap.size ≤ (g1.mu id).1)
   {s : List Nat} {u : Ups} (hp : Par g1 s u) (hsn : s.Nodup) (hun : (u.map (·.1)).Nodup) (hfree : ∀ i ∈ u.map (·.1), hget g.H i = none) :
   Inv E ⟨muImp g g1 s u, g1.fz, upds g.H u, g1.w⟩ ∧ Adv g ⟨muImp g g1 s u, g1.fz, upds g.H u, g1.w⟩ ∧ Links g1 ⟨muImp g g1 s u, g1.fz, upds g.H u, g1.w⟩ s u := by
 have hlt : ∀ j b, hget g.H j = some b → (g.mu j).1 < g.w.heap.size := by
   intro j b h
   exact (hI.blk j b h).lt
 have hold' : ∀ j b, hget g.H j = some b → hget (upds g.H u) j = some b ∧ muImp g g1 s u j = g.mu j := by
   intro j b h
   have hn : j ∉ u.map (·.1) := fun hm => by rw [hfree j hm] at h; exact absurd h (by simp)
   exact ⟨(Zw u g.H j hn).trans h, Z5P g g1 s u j hn⟩
 have hcase : ∀ j b, hget (upds g.H u) j = some b → (hget g.H j = some b ∧ muImp g g1 s u j = g.mu j) ∨ (∃ id, hget g1.H id = some b ∧ b.st = .row ∧ muImp g g1 s u j = g1.mu id ∧ (j, b) ∈ u) := by
   intro j b h
   by_cases hm : j ∈ u.map (·.1)
   · obtain ⟨p, hpu, rfl⟩ := List.mem_map.1 hm
     have e := Z1H u g.H hun p hpu
     rw [e] at h; obtain rfl := Option.some.inj h
     obtain ⟨id, _, k2, k3, k4⟩ := Ze2 (g := g) s u hp hsn hun p hpu
     exact .inr ⟨id, k2, k3, k4, hpu⟩
   · rw [Zw u g.H j hm] at h
     exact .inl ⟨h, Z5P g g1 s u j hm⟩
 have hf : ∀ k, g.fz k → g1.fz k ∧ g1.w.heap[k]? = g.w.heap[k]? := fun k hk => ⟨h1 k hk, hold k (hI.lt k hk)⟩
 have hrf : ∀ a v, RF g a v → RF ⟨muImp g g1 s u, g1.fz, upds g.H u, g1.w⟩ a v := by
   intro a v h
   cases a <;> simp only [RF] at h ⊢ <;> try exact h
   · rename_i i off len cap gl sz ex
     obtain ⟨b, k1, k2, k3⟩ := h
     obtain ⟨e1, e2⟩ := hold' _ b k1
     refine ⟨b, e1, k2, fun e => ?_⟩
     have eb : bsz g1.w (g.mu i).1 = bsz g.w (g.mu i).1 := by simp only [bsz, hold _ (hlt i b k1)]
     rw [e2, eb]
     exact k3 e
   · obtain ⟨b, k1, k2, k3⟩ := h
     obtain ⟨e1, e2⟩ := hold' _ b k1
     refine ⟨b, e1, k2, fun e => ?_⟩
     rw [e2]
     exact k3 e
   · obtain ⟨b, k1, k2, k3⟩ := h
     obtain ⟨e1, e2⟩ := hold' _ b k1
     exact ⟨b, e1, k2, by rw [e2]; exact k3⟩
 refine ⟨⟨?_, ?_, ?_, ?_, hI1.lt, hI1.glob⟩, ⟨fun a v h => VR.mono (K := fun _ => True) hf (fun a v _ => hrf a v) a v (fun _ _ => trivial) h, hos, htape, hout, hs, fun k hk _ => hold k hk, ?_, h1, ?_⟩, Zg9 (g := g) s u _ hp hun (Z1H u g.H hun) (fun _ _ => rfl)⟩
 · intro j b h
   rcases hcase j b h with ⟨k1, k2⟩ | ⟨id, k1, k2, k3, _⟩
   · exact (hI.blk j b k1).mono k2 (hold _ (hlt j b k1)) hf hrf
   · obtain ⟨cs, t, q1, q2⟩ := (hI1.blk id b k1).cells (by rw [k2]; simp)
     refine Z4I (by rw [k2]; simp) ?_
     simp only [k3]
     refine ⟨cs, t, q1, ?_⟩
     rw [k2] at q2 ⊢
     exact q2
 · intro j j' b b' h h' hne
   rcases hcase j b h with ⟨k1, k2⟩ | ⟨id, k1, k2, k3, k4⟩
   · rcases hcase j' b' h' with ⟨m1, m2⟩ | ⟨id', m1, m2, m3, m4⟩
     · simp only [k2, m2]; exact hI.inj j j' b b' k1 m1 hne
     · simp only [k2, m3]
       have := hlt j b k1
       have := hrow id' b' m1 (by rw [m2]; rfl)
       omega
   · rcases hcase j' b' h' with ⟨m1, m2⟩ | ⟨id', m1, m2, m3, m4⟩
     · simp only [k3, m2]
       have := hlt j' b' m1
       have := hrow id b k1 (by rw [k2]; rfl)
       omega
     · exact ZyR hI1 s u hp hsn hun _ k4 _ m4 hne
 · intro j b h ho hz
   rcases hcase j b h with ⟨k1, k2⟩ | ⟨id, k1, k2, k3, _⟩
   · simp only [k2] at hz
     rcases h2 _ hz with q | q
     · exact hI.opn j b k1 ho q
     · have := hlt j b k1; omega
   · simp only [k3] at hz
     exact hI1.opn id b k1 ho hz
 · intro j b h ho
   rcases hcase j b h with ⟨k1, k2⟩ | ⟨id, k1, k2, k3, _⟩
   · simp only [k2]; exact h1 _ (hI.frz j b k1 ho)
   · rw [k2] at ho; simp [BS.open_] at ho
 · rintro k ⟨j, b, h, ho, e⟩
   rcases hcase j b h with ⟨k1, k2⟩ | ⟨id, k1, k2, k3, _⟩
   · simp only [k2] at e; exact .inl ⟨j, b, k1, ho, e⟩
   · simp only [k3] at e
     have := hrow id b k1 (by rw [k2]; rfl)
     exact .inr (by omega)
 · intro k hk
   rcases h2 k hk with q | q
   · exact .inl q
   · exact .inr (.inr q)
def CS (P : Program) (E : Env) (C : Callee) : Prop := ∀ (f : FuncId) (args : List AV) (H : AHeap) (B : Nat) (r : AV) (H' : AHeap), C f args H B = some (r, H') →
 ∀ (g : Gh) (vs : List Value), g.H = H → Inv E g → g.Rs args vs → Calls P f vs.toArray g.w fun
   | .returned v, w' => ∃ g', g'.w = w' ∧ g'.H = H' ∧ Inv E g' ∧ Adv g g' ∧ g'.R r v
   | _, _ => False
theorem ZEG (hI : Inv E g) {fz' : Nat → Prop} (h1 : ∀ k, g.fz k → fz' k) (h2 : ∀ k, fz' k → k < g.w.heap.size) : Inv E ⟨g.mu, fz', [], g.w⟩ := by
 refine ⟨fun _ _ h => by simp [ZS] at h, fun _ _ _ _ h => by simp [ZS] at h, fun _ _ h => by simp [ZS] at h, fun _ _ h => by simp [ZS] at h, h2, fun k cells h => ?_⟩
 obtain ⟨q1, q2⟩ := hI.glob k cells h
 exact ⟨h1 k q1, VRc.mono (K := fun _ => True) (fun k hk => ⟨h1 k hk, rfl⟩) (fun _ _ _ h => h) _ _ _ rfl (fun _ _ => trivial) q2⟩
theorem snapsRs {fz fz' : Nat → Prop} {w : World} {rf : RFt} {asx as' : List AV} {vs : List Value} (hl : as'.length = asx.length)
   (hs : ∀ (i : Nat) (a a' : AV), asx[i]? = some a → as'[i]? = some a' → ∀ v, VR fz w a rf v → VR fz' w a' noRef v) (h : VRs fz w asx rf vs) : VRs fz' w as' noRef vs := by
 rw [Z0v] at h ⊢
 refine ⟨hl.trans h.1, fun i a u q1 q2 => ?_⟩
 have hlt : i < asx.length := by rw [← hl]; exact (List.getElem?_eq_some_iff.1 q1).1
 exact hs i _ _ (List.getElem?_eq_getElem hlt) q1 u (h.2 i _ u (List.getElem?_eq_getElem hlt) q2)
theorem ZWd {C : Callee} (hC : CS P E C) : CS P E (thaw C) := by
 intro f args H B r H' h g vs hH hI hs
 unfold thaw at h
 cases hc : C f args H B with
 | none => rw [hc] at h; exact absurd h (by simp)
 | some rH =>
   obtain ⟨r0, Hc⟩ := rH
   rw [hc] at h
   simp only at h
   refine (hC f args H B r0 Hc hc g vs hH hI hs).mono ?_
   intro e w' he
   cases e with
   | panicked => exact he.elim
   | outgrown => exact he.elim
   | returned v =>
     obtain ⟨g1, rfl, rfl, k3, k4, k5⟩ := he
     unfold frzRet at h
     split at h
     · rename_i fn c cs
       cases hs1 : (snap 200 (.clo fn (c :: cs))).run g1.H with
       | none => rw [hs1] at h; exact absurd h (by simp)
       | some y =>
         obtain ⟨r', V⟩ := y
         rw [hs1] at h
         simp only at h
         cases hf1 : (frz V).run g1.H with
         | none => rw [hf1] at h; exact absurd h (by simp)
         | some us =>
           rw [hf1] at h
           simp only [Option.some.injEq, Prod.mk.injEq] at h
           obtain ⟨rfl, rfl⟩ := h
           obtain ⟨g', d1, _, d3, d4, d5, d6, _⟩ := Z9h k3 hf1
           obtain ⟨z, _⟩ := Zx5 k3 (fz' := g'.fz) d5.fz' 200 (.clo fn (c :: cs)) r' V hs1 d6 v k5
           rw [← d1] at z
           exact ⟨g', d1, d3, d4, k4.trans d5, Z0x z⟩
     · simp only [Option.some.injEq, Prod.mk.injEq] at h
       obtain ⟨rfl, rfl⟩ := h
       exact ⟨g1, rfl, rfl, k3, k4, k5⟩
def Back (E : Env) (g : Gh) (x : AV × Ups) : Ending → World → Prop
 | .returned v, w' => ∃ g', g'.w = w' ∧ g'.H = upds g.H x.2 ∧ Inv E g' ∧ Adv g g' ∧ g'.R x.1 v
 | _, _ => False
theorem Z3E {mu : Nat → Nat × Nat} {fz : Nat → Prop} {w : World} {k : Nat} : ¬ wr ⟨mu, fz, [], w⟩ k := by
 rintro ⟨id, b, h, _⟩
 simp [ZS] at h
theorem Zyu {C : Callee} (hC : CS P E C) (hI : Inv E g) {site : Nat → Nat} {keep : Bool} {f : FuncId} {args : List AV} {vs : List Value} (hs : g.Rs args vs) {x : AV × Ups} (h : (aCall C site keep f args).run g.H = some x) :
   Calls P f vs.toArray g.w (Back E g x) := by
 unfold aCall at h
 replace hC := ZWd hC
 generalize thaw C = C at h hC
 obtain ⟨⟨xs, V⟩, m1, m2⟩ := Rd.run_bind_some h
 simp only at m2
 unfold aBack at m2
 obtain ⟨off, _, m2⟩ := Rd.run_bind_some m2
 generalize (fun j => site j + off) = site at m2
 cases hc : C f xs [] 0 with
 | none => rw [hc] at m2; simp [aBackAt, Rd.run] at m2
 | some rH =>
   obtain ⟨r, Hc⟩ := rH
   rw [hc] at m2
   have hgo : ∀ (fz' : Nat → Prop), (∀ k, g.fz k → fz' k) → (∀ k, fz' k → k < g.w.heap.size) → (∀ id ∈ V, fz' (g.mu id).1) →
       Calls P f vs.toArray g.w fun
         | .returned v, w' => ∃ g1, g1.w = w' ∧ g1.H = Hc ∧ Inv E g1 ∧ Adv ⟨g.mu, fz', [], g.w⟩ g1 ∧ g1.R r v
         | _, _ => False := by
     intro fz' h1 h2 h3
     obtain ⟨s1, s2⟩ := Z0Z hI (fz' := fz') h1 200 args xs V m1 h3
     have hx := snapsRs s1 s2 hs
     have hrs : (Gh.mk g.mu fz' [] g.w).Rs xs vs := by
       rw [Gh.Rs, Z0v]
       rw [Z0v] at hx
       exact ⟨hx.1, fun i a v q1 q2 => Z0x (g := ⟨g.mu, fz', [], g.w⟩) (hx.2 i a v q1 q2)⟩
     exact hC f xs [] 0 r Hc hc ⟨g.mu, fz', [], g.w⟩ vs rfl (ZEG hI h1 h2) hrs
   have hplain : ∀ (fz' : Nat → Prop) (g1 : Gh), Adv ⟨g.mu, fz', [], g.w⟩ g1 → Inv E ⟨g.mu, g.fz, g.H, g1.w⟩ ∧ Adv g ⟨g.mu, g.fz, g.H, g1.w⟩ := by
     intro fz' g1 hA
     have hold : ∀ k, k < g.w.heap.size → g1.w.heap[k]? = g.w.heap[k]? := fun k hk => hA.old k hk Z3E
     have hI0 : Inv E ⟨g.mu, g.fz, [], g1.w⟩ := by
       refine ⟨fun _ _ h => by simp [ZS] at h, fun _ _ _ _ h => by simp [ZS] at h, fun _ _ h => by simp [ZS] at h, fun _ _ h => by simp [ZS] at h, fun k hk => Nat.lt_of_lt_of_le (hI.lt k hk) hA.size, fun k cells h => ?_⟩
       obtain ⟨q1, q2⟩ := hI.glob k cells h
       exact ⟨q1, VRc.mono (K := fun _ => True) (fun k hk => ⟨hk, hold k (hI.lt k hk)⟩) (fun _ _ _ h => h) _ _ _ (hold k (hI.lt k q1)) (fun _ _ => trivial) q2⟩
     have := ZfN (g1 := ⟨g.mu, g.fz, [], g1.w⟩) (s := []) (u := []) hI hI0 hA.size hold hA.os hA.tape hA.out (fun _ h => h) (fun _ h => .inl h) (fun _ _ h => by simp [ZS] at h) trivial List.nodup_nil List.nodup_nil (fun _ h => by simp at h)
     exact ⟨this.1, this.2.1⟩
   have hmuV : ∀ id ∈ V, True → True := fun _ _ h => h
   cases keep with
   | false =>
     simp only [aBackAt, Rd.run, Option.some.injEq] at m2; subst m2
     refine (hgo (fun k => g.fz k ∨ (k < g.w.heap.size ∧ ∃ id ∈ V, (g.mu id).1 = k)) (fun _ h => .inl h) (fun k hk => hk.elim (hI.lt k) (·.1)) ?_).mono ?_
     · intro id hid
       refine .inr ⟨?_, id, hid, rfl⟩
       obtain ⟨b, hb⟩ := Z0X 200 args xs V m1 id hid
       exact (hI.blk id b hb).lt
     · intro e w' he
       cases e with
       | returned v =>
         obtain ⟨g1, rfl, _, k3, k4, k5⟩ := he
         obtain ⟨p1, p2⟩ := hplain _ g1 k4
         exact ⟨⟨g.mu, g.fz, g.H, g1.w⟩, rfl, rfl, p1, p2, by simp only [Gh.R, VR]⟩
       | panicked => exact he.elim
       | outgrown => exact he.elim
   | true =>
     simp only [aBackAt] at m2
     cases hi : imp Hc site 200 r [] [] with
     | none => rw [hi] at m2; simp [Rd.run] at m2
     | some y =>
       obtain ⟨r', seen, ups⟩ := y
       rw [hi] at m2
       simp only at m2
       split at m2
       · rename_i hap
         obtain ⟨_, m3, m4⟩ := Rd.run_bind_some m2
         have hfree := Z7W m3
         have hnd := Z2q hap
         cases hl : r.leads with
         | false =>
           rw [hl] at m4
           simp only [Rd.run, Option.some.injEq] at m4; subst m4
           have he := Zna 200 r [] [] _ hl hi
           simp only [Prod.mk.injEq] at he
           obtain ⟨rfl, rfl, rfl⟩ := he
           refine (hgo (fun k => g.fz k ∨ (k < g.w.heap.size ∧ ∃ id ∈ V, (g.mu id).1 = k)) (fun _ h => .inl h) (fun k hk => hk.elim (hI.lt k) (·.1)) ?_).mono ?_
           · intro id hid
             refine .inr ⟨?_, id, hid, rfl⟩
             obtain ⟨b, hb⟩ := Z0X 200 args xs V m1 id hid
             exact (hI.blk id b hb).lt
           · intro e w' he
             cases e with
             | returned v =>
               obtain ⟨g1, rfl, _, k3, k4, k5⟩ := he
               obtain ⟨p1, p2⟩ := hplain _ g1 k4
               exact ⟨⟨g.mu, g.fz, g.H, g1.w⟩, rfl, rfl, p1, p2, Z1u _ v hl k5⟩
             | panicked => exact he.elim
             | outgrown => exact he.elim
         | true =>
           rw [hl] at m4
           obtain ⟨us, m5, m6⟩ := Rd.run_bind_some m4
           simp only [Rd.run, Option.some.injEq] at m6; subst m6
           obtain ⟨g', d1, d2, d3, d4, d5, d6, d7, d8, d9⟩ := Z9h hI m5
           refine (hgo g'.fz d5.fz' (fun k hk => by have := d4.lt k hk; rwa [d1] at this) d6).mono ?_
           intro e w' he
           cases e with
           | returned v =>
             obtain ⟨g1, rfl, rfl, k3, k4, k5⟩ := he
             have hold : ∀ k, k < g'.w.heap.size → g1.w.heap[k]? = g'.w.heap[k]? := fun k hk => by rw [d1] at hk ⊢; exact k4.old k hk Z3E
             obtain ⟨hp, hsn⟩ := ZAp 200 r r' [] seen [] ups hi ⟨trivial, List.nodup_nil⟩
             have hrow : ∀ id b, hget g1.H id = some b → b.st.open_ = true → g'.w.heap.size ≤ (g1.mu id).1 := by
               intro id b hb ho
               rw [d1]
               rcases k4.wr' _ ⟨id, b, hb, ho, rfl⟩ with q | q
               · exact absurd q Z3E
               · exact q
             obtain ⟨p1, p2, p3⟩ := ZfN (g := g') (g1 := g1) (s := seen) (u := ups) d4 k3 (by rw [d1]; exact k4.size) hold (by rw [d1]; exact k4.os) (by rw [d1]; exact k4.tape) (by rw [d1]; exact k4.out) k4.fz'
               (fun k hk => by
                 rcases k4.fz2 k hk with q | q | q
                 · exact .inl q
                 · exact absurd q Z3E
                 · exact .inr (by rw [d1]; exact q)) hrow hp hsn hnd (fun i hi => by
                 rw [d7 i]
                 · exact hfree i hi
                 · intro hm
                   obtain ⟨b, hb⟩ := d8 i hm
                   rw [hfree i hi] at hb
                   exact absurd hb (by simp))
             obtain ⟨_, z⟩ := ZGH (g1 := g1) (g2 := ⟨muImp g' g1 seen ups, g1.fz, upds g'.H ups, g1.w⟩) k3 rfl (fun _ h => h) 200 r r' [] seen [] ups hi p3
             refine ⟨⟨muImp g' g1 seen ups, g1.fz, upds g'.H ups, g1.w⟩, rfl, ?_, p1, d5.trans p2, z v k5⟩
             show upds g'.H ups = upds g.H (us ++ ups)
             rw [Z4A, ← d3]
           | panicked => exact he.elim
           | outgrown => exact he.elim
       · simp [Rd.run] at m2
end
end Go.AM
namespace Go.AM
noncomputable section
variable {P : Program} {E : Env} {g : Gh}
theorem Z7S {k : IntKind} : ∀ {xs ys : List AV}, eqInts k xs ys = some true → xs = ys ∧ ∀ x ∈ xs, ∃ n, x = .int k n
 | [], [], _ => ⟨rfl, by simp⟩
 | [], _ :: _, h => by simp [eqInts] at h
 | x :: xs, [], h => by cases x <;> simp [eqInts] at h
 | x :: xs, y :: ys, h => by
   cases x <;> cases y <;> simp only [eqInts] at h <;> try (simp at h; done)
   rename_i k1 a k2 b
   split at h
   · rename_i hk
     obtain ⟨rfl, rfl⟩ := hk
     split at h
     · rename_i hab
       obtain ⟨h1, h2⟩ := Z7S h
       refine ⟨by rw [h1, show a = b from by simpa using hab], fun z hz => ?_⟩
       rcases List.mem_cons.1 hz with rfl | hz
       · exact ⟨a, rfl⟩
       · exact h2 z hz
     · split at h <;> simp at h
   · simp at h
theorem Z5I (hE : EnvOK P E) {t : TypeId} {x y : AV} (h : eqK E.T t x y = some true) : x = y ∧ ((∃ k n, x = .int k n ∧ P.underlying t = some (.int k)) ∨
   ∃ k n e xs, x = .agg xs ∧ P.underlying t = some (.array n e) ∧ P.cellsOf e = 1 ∧ P.underlying e = some (.int k) ∧ (∃ i, P.info? e = some i) ∧ xs.length = n ∧ ∀ a ∈ xs, ∃ m, a = .int k m) := by
 unfold eqK at h
 split at h
 · rename_i k a k' b
   split at h
   · rename_i q _ _ _ hT
     split at h
     · rename_i hk
       obtain ⟨rfl, rfl⟩ := hk
       simp only [Option.some.injEq, beq_iff_eq] at h; subst h
       exact ⟨rfl, .inl ⟨_, _, rfl, Z8a hE hT⟩⟩
     · simp at h
   · simp at h
 · rename_i xs ys
   split at h
   · rename_i n e q _ _ _ hT
     unfold eqArr at h
     rw [hT] at h
     cases q with
     | false => simp at h
     | true =>
       simp only at h
       obtain ⟨inf, h1, h2, _, _, h3⟩ := hE.ty t _ hT
       simp only [KindOK] at h3
       split at h
       · rename_i k _ _ _ hT2
         split at h
         · rename_i hn
           obtain ⟨q1, q2⟩ := Z7S h
           obtain ⟨inf2, r1, _⟩ := hE.ty e _ hT2
           exact ⟨by rw [q1], .inr ⟨k, n, e, xs, rfl, h3.1, (h3.2 trivial).2, Z8a hE hT2, ⟨inf2, r1⟩, hn, q2⟩⟩
         · simp at h
       · simp at h
   · simp at h
 · simp at h
theorem Z5E {fz : Nat → Prop} {w : World} {rf : RFt} {k : IntKind} : ∀ {xs : List AV} {X : List Value}, (∀ a ∈ xs, ∃ m, a = .int k m) → VRo fz w xs rf X → ∃ ns : List Int, xs = ns.map (AV.int k) ∧ X = ns.map (Value.int k)
 | [], X, _, h => by simp only [VRo] at h; exact ⟨[], rfl, h⟩
 | x :: xs, X, h1, h => by
   simp only [VRo] at h
   obtain ⟨v, t, rfl, _, h2, h3⟩ := h
   obtain ⟨m, rfl⟩ := h1 x (by simp)
   obtain ⟨ns, rfl, rfl⟩ := Z5E (fun a ha => h1 a (by simp [ha])) h3
   simp only [VR] at h2; subst h2
   exact ⟨m :: ns, rfl, rfl⟩
theorem Zgf (n : Nat) (k : IntKind) (ns : List Int) : Instr.sameBits (n + 2) (.agg (ns.map (Value.int k)).toArray) (.agg (ns.map (Value.int k)).toArray) = true := by
 simp only [Instr.sameBits, beq_self_eq_true, Bool.true_and]
 induction ns with
 | nil => rfl
 | cons a ns ih => simp only [List.map_cons, List.zip_cons_cons, List.all_cons, Instr.sameBits, beq_self_eq_true, Bool.and_self, Bool.true_and]; exact ih
theorem Zql {k : IntKind} {e : TypeId} (he : P.underlying e = some (.int k)) {A : Array Value} {i : Nat} {v : Value} (h : A[i]? = some v) (w : World) : (part e A i).run P w = .ok v w := by
 simp only [part, Sem.run_bind, Z1k he, aggD, Result.andThen_ok, Bool.false_eq_true, if_false, h, Sem.run_pure]
theorem Zf8 (em : Bool) (d : Nat) {k : IntKind} {e : TypeId} (he : P.underlying e = some (.int k)) (n : Int) (w : World) : (Instr.checkKey em (d + 1) e (.int k n)).run P w = .ok () w := by
 simp [Instr.checkKey, Za he]
theorem ZFq (em : Bool) (d : Nat) {k : IntKind} {t e : TypeId} {n : Nat} (hu : P.underlying t = some (.array n e)) (he : P.underlying e = some (.int k)) (hi : ∃ i, P.info? e = some i) (hc : P.cellsOf e = 1) (ns : List Int) (hn : n = ns.length) (w : World) :
   (Instr.checkKey em (d + 2) t (.agg (ns.map (Value.int k)).toArray)).run P w = .ok () w := by
 obtain ⟨inf, hi⟩ := hi
 have hsz : inf.size = 1 := by simpa [Program.cellsOf, hi] using hc
 rw [show d + 2 = (d + 1) + 1 from rfl, Instr.checkKey]
 simp only [Sem.run_bind, Za hu, Result.andThen_ok]
 simp only [Std.Legacy.Range.forIn_eq_forIn_range', Std.Legacy.Range.size, Nat.sub_zero, Nat.add_one_sub_one, Nat.div_one]
 have each : ∀ i ∈ List.range' 0 n, i < ns.length := fun i hi => by rw [List.mem_range'] at hi; obtain ⟨j, h1, h2⟩ := hi; omega
 generalize List.range' 0 n = is at each
 induction is with
 | nil => simp
 | cons j is ih =>
   have hlt := each j (by simp)
   have hA : (ns.map (Value.int k)).toArray[j * 1]? = some (.int k (ns[j]'hlt)) := by simp [hlt]
   simp only [List.forIn_cons, Sem.run_bind, ZA hi, hsz, Result.andThen_ok, Zql he hA, Zf8 em d he, Sem.run_pure]
   exact ih (fun y hy => each y (by simp [hy]))
theorem Zak (hE : EnvOK P E) {t : TypeId} {x : AV} (h : eqK E.T t x x = some true) {fz : Nat → Prop} {w0 : World} {rf : RFt} {v : Value} (hv : VR fz w0 x rf v) (w : World) :
   (∀ em, (Instr.checkKey em 10000 t v).run P w = .ok () w) ∧ (Instr.keyThatStays v v).run P w = .ok v w ∧ (∀ (fz' : Nat → Prop) (w' : World) (rf' : RFt) v', VR fz' w' x rf' v' → v' = v) ∧ x.leads = false := by
 obtain ⟨h0, h⟩ := Z5I hE h
 rcases h with ⟨k, n, rfl, hu⟩ | ⟨k, n, e, xs, rfl, hu, hc, he, hi, hn, hx⟩
 · simp only [VR] at hv; subst hv
   refine ⟨fun em => Zf8 em 9999 hu _ w, by simp only [Instr.keyThatStays, show Instr.sameBits 10000 (.int k n) (.int k n) = true from by simp only [Instr.sameBits, beq_self_eq_true, Bool.and_self], if_true, Sem.run_pure], fun _ _ _ v' h => by simpa only [VR] using h, rfl⟩
 · simp only [VR] at hv
   obtain ⟨X, rfl, hX⟩ := hv
   obtain ⟨ns, rfl, hns⟩ := Z5E hx hX
   obtain rfl : X = (ns.map (Value.int k)).toArray := by rw [← hns]
   refine ⟨fun em => ZFq em 9998 hu he hi hc ns (by simpa using hn.symm) w, ?_, fun _ _ _ v' h => ?_, ?_⟩
   · simp only [Instr.keyThatStays, Zgf 9998 k ns, if_true, Sem.run_pure]
   · simp only [VR] at h
     obtain ⟨Y, rfl, hY⟩ := h
     obtain ⟨ms, h1, h2⟩ := Z5E hx hY
     have : ms = ns := (List.map_inj_right (by intro a b h; injection h)).1 h1.symm
     rw [this] at h2
     rw [show Y = (ns.map (Value.int k)).toArray from by rw [← h2]]
   · simp only [AV.leads]
     clear hx hX hns hn h0 h
     induction ns with
     | nil => rfl
     | cons a ns ih => simp only [List.map_cons, AV.leads.leadsL, AV.leads, Bool.false_or]; exact ih
theorem Z5b {t : TypeId} {x : AV} (h : keyA E.T t x = true) : eqK E.T t x x = some true := by
 unfold keyA at h
 split at h
 · rename_i b hb; rw [hb, h]
 · simp at h
def Found (es : List MapEntry) (key : Value) (i : Nat) : Option (Nat × AV) → Option (Nat × Value) → Prop
 | none, r => r = none
 | some (j, v), r => ∃ e, i ≤ j ∧ es[j - i]? = some e ∧ e.key = key ∧ (v.leads = false ∧ v.oneCellA = true ∧ ∀ fz w rf, VR fz w v rf e.val) ∧ r = some (j, e.val)
theorem Found.step {e : MapEntry} {es : List MapEntry} {key : Value} {i : Nat} {r : Option (Nat × AV)} {r' : Option (Nat × Value)} (h : Found es key (i + 1) r r') : Found (e :: es) key i r r' := by
 cases r with
 | none => exact h
 | some x =>
   obtain ⟨j, v⟩ := x
   obtain ⟨e', h1, h2, h3⟩ := h
   refine ⟨e', by omega, ?_, h3⟩
   rw [show j - i = (j - (i + 1)) + 1 from by omega, List.getElem?_cons_succ]
   exact h2
theorem Z8A (hE : EnvOK P E) {t : TypeId} {k : IntKind} {a : Int} : ∀ (cs : List AV) (es : List MapEntry) (b i : Nat) (r : Option (Nat × AV)), MapR b cs es → findA E.T t (.int k a) cs i = some r →
   ∃ r', Instr.findNow (.int k) (.int k a) es i = some r' ∧ Found es (.int k a) i r r'
 | [], [], _, i, r, _, h => by simp only [findA, Option.some.injEq] at h; subst h; exact ⟨none, rfl, rfl⟩
 | [], _ :: _, _, _, _, h, _ => by simp [MapR] at h
 | [_], _, _, _, _, _, h => by simp [findA] at h
 | _ :: _ :: _, [], _, _, _, h, _ => by simp [MapR] at h
 | x :: v :: cs, e :: es, b, i, r, hm, h => by
   simp only [MapR] at hm
   obtain ⟨⟨m8, m9, m1, m2, m3, m4⟩, m5⟩ := hm
   simp only [findA] at h
   cases x <;> simp only [eqK] at h <;> try (simp at h; done)
   rename_i k' c
   have m6 := m3 (fun _ => False) default noRef
   simp only [VR] at m6
   cases hT : E.T t with
   | none => rw [hT] at h; simp at h
   | some ti =>
     rw [hT] at h
     obtain ⟨tk, z1, z2, z3⟩ := ti
     cases tk <;> try (simp at h; done)
     rename_i q
     simp only at h
     by_cases hq : k = q ∧ k' = q
     · obtain ⟨rfl, rfl⟩ := hq
       simp only [and_self, if_true] at h
       cases hac : (a == c) with
       | true =>
         rw [hac] at h
         simp only [Option.some.injEq] at h; subst h
         refine ⟨some (i, e.val), by simp [Instr.findNow, m6, Instr.sameNow, hac], e, Nat.le_refl _, by simp, ?_, ⟨m1, m2, m4⟩, rfl⟩
         rw [m6, show a = c from by simpa using hac]
       | false =>
         rw [hac] at h
         obtain ⟨r', h1, h2⟩ := Z8A hE cs es _ (i + 1) r m5 h
         exact ⟨r', by simp [Instr.findNow, m6, Instr.sameNow, hac, h1], h2.step⟩
     · rw [if_neg hq] at h; simp at h
theorem ZcH (hE : EnvOK P E) {t : TypeId} {xs : List AV} {key : Value} (hk : g.R (.agg xs) key) : ∀ (cs : List AV) (es : List MapEntry) (b i : Nat) (r : Option (Nat × AV)), MapR b cs es → findA E.T t (.agg xs) cs i = some r →
   ∃ r', (Instr.findAsking t key es i).run P g.w = .ok r' g.w ∧ Found es key i r r'
 | [], [], _, i, r, _, h => by simp only [findA, Option.some.injEq] at h; subst h; exact ⟨none, rfl, rfl⟩
 | [], _ :: _, _, _, _, h, _ => by simp [MapR] at h
 | [_], _, _, _, _, _, h => by simp [findA] at h
 | _ :: _ :: _, [], _, _, _, h, _ => by simp [MapR] at h
 | x :: v :: cs, e :: es, b, i, r, hm, h => by
   simp only [MapR] at hm
   obtain ⟨⟨m8, m9, m1, m2, m3, m4⟩, m5⟩ := hm
   simp only [findA] at h
   cases hq : eqK E.T t (.agg xs) x with
   | none => rw [hq] at h; simp at h
   | some bb =>
     have hq0 := hq
     cases x <;> simp only [eqK] at hq <;> try (simp at hq; done)
     rename_i ys
     split at hq
     · have hk' := hk
       simp only [Gh.R, VR] at hk'
       obtain ⟨X, rfl, hX⟩ := hk'
       have m6 := m3 g.fz g.w (RF g)
       simp only [VR] at m6
       obtain ⟨Y, hY, m6⟩ := m6
       obtain ⟨he, _⟩ := Z87 hE hq hX m6
       have he' : (Op.equal t (.agg X) (.agg Y)).run P g.w = .ok bb g.w := he
       rw [hq0] at h
       cases bb with
       | true =>
         simp only [Option.some.injEq] at h; subst h
         refine ⟨some (i, e.val), by simp only [Instr.findAsking, hY, Sem.run_bind, he', Result.andThen_ok, if_true, Sem.run_pure], e, Nat.le_refl _, by simp, ?_, ⟨m1, m2, m4⟩, rfl⟩
         obtain ⟨hxy, _⟩ := Z5I hE hq0
         have hs : eqK E.T t (.agg xs) (.agg xs) = some true := by rw [← hxy] at hq0; exact hq0
         obtain ⟨_, _, hd, _⟩ := Zak hE hs hk g.w
         rw [← hxy] at m3
         exact hd (fun _ => False) default noRef _ (m3 _ _ _)
       | false =>
         simp only at h
         obtain ⟨r', h1, h2⟩ := ZcH hE hk cs es _ (i + 1) r m5 h
         exact ⟨r', by simp only [Instr.findAsking, hY, Sem.run_bind, he', Result.andThen_ok, Bool.false_eq_true, if_false, h1], h2.step⟩
     · simp at hq
theorem Z00l (hE : EnvOK P E) {t : TypeId} {x : AV} {key : Value} (hkA : keyA E.T t x = true) (hk : g.R x key) {cs : List AV} {es : List MapEntry} {r : Option (Nat × AV)} (hm : MapR 0 cs es) (h : findA E.T t x cs 0 = some r) :
   ∃ r', (Instr.findKey t key es).run P g.w = .ok r' g.w ∧ Found es key 0 r r' := by
 obtain ⟨_, hs⟩ := Z5I hE (Z5b hkA)
 rcases hs with ⟨k, n, rfl, hu⟩ | ⟨k, n, e, xs, rfl, hu, _⟩
 · have hk' := hk
   simp only [Gh.R, VR] at hk'; subst hk'
   obtain ⟨r', h1, h2⟩ := Z8A hE cs es 0 0 r hm h
   exact ⟨r', by simp only [Instr.findKey, Sem.run_bind, Za hu, Result.andThen_ok, h1, Sem.run_pure], h2⟩
 · obtain ⟨r', h1, h2⟩ := ZcH hE hk cs es 0 0 r hm h
   exact ⟨r', by rw [run_findKey_eq g.w (by rw [hu]) key es]; exact h1, h2⟩
theorem Z8b : ∀ {cs : List AV} {es : List MapEntry} {b : Nat}, MapR b cs es → cs.length = 2 * es.length
 | [], [], _, _ => rfl
 | [], _ :: _, _, h => by simp [MapR] at h
 | [_], _, _, h => by simp [MapR] at h
 | _ :: _ :: _, [], _, h => by simp [MapR] at h
 | _ :: _ :: cs, _ :: es, b, h => by
   have := Z8b h.2
   simp only [List.length_cons]; omega
theorem Z5D {k v : AV} {e : MapEntry} : ∀ {cs : List AV} {es : List MapEntry} {b : Nat}, MapR b cs es → e.born = b + es.length → k.leads = false → v.leads = false → v.oneCellA = true →
   (∀ fz w rf, VR fz w k rf e.key) → (∀ fz w rf, VR fz w v rf e.val) → MapR b (cs ++ [k, v]) (es ++ [e])
 | [], [], _, _, h, h1, h2, h3, h4, h5 => ⟨⟨by simpa using h, h1, h2, h3, h4, h5⟩, trivial⟩
 | [], _ :: _, _, h, _, _, _, _, _, _ => by simp [MapR] at h
 | [_], _, _, h, _, _, _, _, _, _ => by simp [MapR] at h
 | _ :: _ :: _, [], _, h, _, _, _, _, _, _ => by simp [MapR] at h
 | _ :: _ :: cs, _ :: es, b, h, hb, h1, h2, h3, h4, h5 =>
   ⟨h.1, Z5D h.2 (by simp only [List.length_cons] at hb; omega) h1 h2 h3 h4 h5⟩
theorem Z7Z {v : AV} {f : MapEntry → MapEntry} (hb : ∀ e, (f e).born = e.born) (h1 : v.leads = false) (h2 : v.oneCellA = true) :
   ∀ {cs : List AV} {es : List MapEntry} {b : Nat} (j : Nat), MapR b cs es → (∀ e, es[j]? = some e → (f e).key = e.key ∧ ∀ fz w rf, VR fz w v rf (f e).val) → MapR b (cs.set (2 * j + 1) v) (es.modify j f)
 | [], [], _, j, _, _ => by cases j <;> exact trivial
 | [], _ :: _, _, _, h, _ => by simp [MapR] at h
 | [_], _, _, _, h, _ => by simp [MapR] at h
 | _ :: _ :: _, [], _, _, h, _ => by simp [MapR] at h
 | k :: u :: cs, e :: es, b, 0, h, hf => by
   obtain ⟨q1, q2⟩ := hf e rfl
   obtain ⟨⟨m0, m1, _, _, m4, _⟩, m6⟩ := h
   simp only [Nat.mul_zero, Nat.zero_add, List.set_cons_succ, List.set_cons_zero, List.modify_zero_cons, MapR]
   exact ⟨⟨by rw [hb]; exact m0, m1, h1, h2, by rw [q1]; exact m4, q2⟩, m6⟩
 | k :: u :: cs, e :: es, b, j + 1, h, hf => by
   rw [show 2 * (j + 1) + 1 = (2 * j + 1) + 1 + 1 from by omega]
   simp only [List.set_cons_succ, List.modify_succ_cons, MapR]
   exact ⟨h.1, Z7Z hb h1 h2 j h.2 (fun e he => hf e (by simpa using he))⟩
theorem Z42 : ∀ {cs : List AV} {es : List MapEntry} {b : Nat}, MapR b cs es → ∀ {j : Nat} {e : MapEntry}, es[j]? = some e → e.born = b + j
 | [], [], _, _, _, _, h => by simp at h
 | [], _ :: _, _, h, _, _, _ => by simp [MapR] at h
 | [_], _, _, h, _, _, _ => by simp [MapR] at h
 | _ :: _ :: _, [], _, h, _, _, _ => by simp [MapR] at h
 | _ :: _ :: cs, e :: es, b, h, j, e', he => by
   cases j with
   | zero => simp only [List.getElem?_cons_zero, Option.some.injEq] at he; subst he; exact h.1.1
   | succ j => rw [List.getElem?_cons_succ] at he; have := Z42 h.2 he; omega
theorem Zkk {f : MapEntry → MapEntry} (hb : ∀ e, (f e).born = e.born ∧ (f e).val = e.val) :
   ∀ {cs : List AV} {es : List MapEntry} {b : Nat} (j : Nat), MapR b cs es → (∀ e, es[j]? = some e → (f e).key = e.key) → MapR b cs (es.modify j f)
 | [], [], _, j, _, _ => by cases j <;> exact trivial
 | [], _ :: _, _, _, h, _ => by simp [MapR] at h
 | [_], _, _, _, h, _ => by simp [MapR] at h
 | _ :: _ :: _, [], _, _, h, _ => by simp [MapR] at h
 | k :: u :: cs, e :: es, b, 0, h, hf => by
   have q1 := hf e rfl
   obtain ⟨⟨m0, m1, m2, m3, m4, m5⟩, m6⟩ := h
   simp only [List.modify_zero_cons, MapR]
   exact ⟨⟨by rw [(hb e).1]; exact m0, m1, m2, m3, by rw [q1]; exact m4, by rw [(hb e).2]; exact m5⟩, m6⟩
 | k :: u :: cs, e :: es, b, j + 1, h, hf => by
   simp only [List.modify_succ_cons, MapR]
   exact ⟨h.1, Zkk hb j h.2 (fun e he => hf e (by simpa using he))⟩
theorem Z3V (hI : Inv E g) {id : Nat} {cs cs' : List AV} {es es' : Array MapEntry} (h : hget g.H id = some ⟨.mp, cs⟩) (hh : g.w.heap[(g.mu id).1]? = some (.map es es.size)) (hl : cs.length ≤ cs'.length) (hr : MapR 0 cs' es'.toList) :
   Inv E ⟨g.mu, g.fz, hset g.H id ⟨.mp, cs'⟩, { g.w with heap := g.w.heap.setIfInBounds (g.mu id).1 (.map es' es'.size) }⟩ ∧ Adv g ⟨g.mu, g.fz, hset g.H id ⟨.mp, cs'⟩, { g.w with heap := g.w.heap.setIfInBounds (g.mu id).1 (.map es' es'.size) }⟩ := by
 have hlt : (g.mu id).1 < g.w.heap.size := (Array.getElem?_eq_some_iff.1 hh).1
 have hbs : bsz { g.w with heap := g.w.heap.setIfInBounds (g.mu id).1 (.map es' es'.size) } (g.mu id).1 = bsz g.w (g.mu id).1 := by
   simp only [bsz, hh, Array.getElem?_setIfInBounds_self_of_lt hlt]
 refine Z4B hI id ⟨.mp, cs'⟩ rfl (fun _ _ => rfl) (fun k => by simp [BS.open_]) rfl rfl rfl (by simp) (fun k hk hne => ?_) (.inl ⟨_, h, rfl, rfl⟩) (.inl hbs) (fun b hb => ?_) (by simpa using hlt) (fun _ _ => ?_)
 · simp only
   rw [Array.getElem?_setIfInBounds_ne (Ne.symm hne)]
 · rw [h] at hb; obtain rfl := Option.some.inj hb
   exact ⟨fun _ => ⟨rfl, rfl⟩, rfl, hl, fun _ => ⟨rfl, hbs⟩⟩
 · exact Z3U rfl ⟨es', by simp [hlt], hr⟩
theorem ZRT (hI : Inv E g) {site : Nat} {t : TypeId} {x : AV × Ups} (h : (opMkMap site none).run g.H = some x) : Done E g x ((Instr.makeMap t none).run P g.w) := by
 unfold opMkMap at h
 obtain ⟨us, h1, h2⟩ := Rd.run_bind_some h
 obtain ⟨hfree, rfl⟩ := Z1m h1
 simp only [Rd.run, Option.some.injEq] at h2; subst h2
 have hs : Inv E (⟨fun j => if j = site then (g.w.heap.size, 0) else g.mu j, g.fz, hset g.H site ⟨.mp, []⟩, g.w.alloc (.map #[] 0)⟩ : Gh) ∧ Adv g ⟨fun j => if j = site then (g.w.heap.size, 0) else g.mu j, g.fz, hset g.H site ⟨.mp, []⟩, g.w.alloc (.map #[] 0)⟩ := by
   have ea : (g.w.alloc (.map #[] 0)).heap = g.w.heap.push (.map #[] 0) := rfl
   refine Z4B hI site ⟨.mp, []⟩ rfl (fun j hj => by simp [hj]) (fun k => by simp [BS.open_]) rfl rfl rfl (by simp [ea]) (fun k hk hne => ?_) (.inr (by simp)) (.inr (by simp)) (fun b hb => by rw [hfree] at hb; exact absurd hb (by simp)) (by simp [ea]) (fun _ _ => ?_)
   · simp only [ea]
     rw [Array.getElem?_push, if_neg (by simpa using hne)]
   · exact Z3U rfl ⟨#[], by simp [ea], trivial⟩
 refine ⟨.map (some g.w.heap.size), _, rfl, rfl, hs.1, hs.2, ?_⟩
 simp only [Gh.R, VR, RF]
 exact ⟨rfl, ⟨.mp, []⟩, by rw [ZO, if_pos rfl], rfl, by simp⟩
theorem Z7Q {i : Nat} {H : AHeap} {cs : List AV} (h : (liveMap i).run H = some cs) : hget H i = some ⟨.mp, cs⟩ := by
 simp only [liveMap, Rd.run] at h
 split at h
 · rename_i c hc; simp only [Rd.run, Option.some.injEq] at h; subst h; exact hc
 · simp [Rd.run] at h
theorem ZDN (hI : Inv E g) {id : Nat} {mv : Value} (hm : g.R (.mapv id) mv) {cs : List AV} (h : hget g.H id = some ⟨.mp, cs⟩) :
   mv = .map (some (g.mu id).1) ∧ ∃ es, g.w.heap[(g.mu id).1]? = some (.map es es.size) ∧ MapR 0 cs es.toList := by
 simp only [Gh.R, VR, RF] at hm
 obtain ⟨_, b, _, _, h3⟩ := hm
 exact ⟨h3, (hI.blk id _ h).map rfl⟩
theorem Z89 (hE : EnvOK P E) (hI : Inv E g) {t : TypeId} {m key : AV} {mv kv : Value} (hm : g.R m mv) (hk : g.R key kv) {f : Nat → List AV → AV → Option (Nat × AV) → Rd (AV × Ups)} {x : AV × Ups} (h : (aFind E.T t m key f).run g.H = some x) :
   ∃ k e id cs es r r' zv, P.underlying t = some (.map k e) ∧ (∀ w, (zeroValue e).run P w = .ok zv w) ∧ mv = .map (some (g.mu id).1) ∧ hget g.H id = some ⟨.mp, cs⟩ ∧
     g.w.heap[(g.mu id).1]? = some (.map es es.size) ∧ MapR 0 cs es.toList ∧ (∀ em w, (Instr.checkKey em 10000 k kv).run P w = .ok () w) ∧ (∀ w, (Instr.keyThatStays kv kv).run P w = .ok kv w) ∧
     (key.leads = false ∧ ∀ fz w rf, VR fz w key rf kv) ∧ (Instr.findKey k kv es.toList).run P g.w = .ok r' g.w ∧ Found es.toList kv 0 r r' ∧ (f id cs (ofV zv) r).run g.H = some x := by
 unfold aFind at h
 split at h
 · rename_i k e z id hT
   unfold mapTy at hT
   split at hT
   · rename_i k' e' z' _ _ _ hT2
     simp only [Option.some.injEq, Prod.mk.injEq] at hT
     obtain ⟨rfl, rfl, rfl⟩ := hT
     obtain ⟨inf, _, _, _, _, hu, inf2, zv, q1, q2, rfl⟩ := hE.ty t _ hT2
     obtain ⟨cs, h1, h2⟩ := Rd.run_bind_some h
     have h3 := Z7Q h1
     obtain ⟨h4, es, h5, h6⟩ := ZDN hI hm h3
     split at h2
     · rename_i hkA
       split at h2
       · rename_i r hr
         obtain ⟨r', h7, h8⟩ := Z00l hE hkA hk h6 hr
         obtain ⟨_, _, _, k4⟩ := Zak hE (Z5b hkA) hk g.w
         exact ⟨_, _, id, cs, es, r, r', zv, hu, fun w => by simp only [zeroValue, Sem.run_bind, Z1R q1, Result.andThen_ok, q2, Sem.run_pure], h4, h3, h5, h6,
           fun em w => (Zak hE (Z5b hkA) hk w).1 em, fun w => (Zak hE (Z5b hkA) hk w).2.1, ⟨k4, fun fz w rf => Z1u _ _ k4 hk⟩, h7, h8, h2⟩
       · simp [Rd.run] at h2
     · simp [Rd.run] at h2
   · simp at hT
 · simp [Rd.run] at h
theorem ZGZ (hE : EnvOK P E) (hI : Inv E g) {t : TypeId} {m key : AV} {mv kv : Value} {ok : Bool} (hm : g.R m mv) (hk : g.R key kv) {x : AV × Ups} (h : (ZpC E.T t m key ok).run g.H = some x) :
   Done E g x ((Instr.lookup t mv kv ok).run P g.w) := by
 obtain ⟨k, e, id, cs, es, r, r', zv, hu, hz, rfl, h3, h5, h6, hck, hks, hkl, h7, h8, h9⟩ := Z89 hE hI hm hk h
 cases r with
 | none =>
   simp only [Found] at h8; subst h8
   simp only [Rd.run, Option.some.injEq] at h9; subst h9
   refine ⟨if ok then .tuple #[zv, .bool false] else zv, g, ?_, rfl, hI, Adv.refl g, ?_⟩
   · simp only [Instr.lookup, Sem.run_bind, Za hu, Result.andThen_ok, MapKept.run_getObj_map h5, hck, h7, hz, Sem.run_pure]
   · cases ok
     · exact Z3C zv _ _ _
     · simp only [Gh.R, cond_true, VR, VRs]
       exact ⟨#[zv, .bool false], rfl, zv, [.bool false], rfl, Z3C zv _ _ _, .bool false, [], rfl, rfl, rfl⟩
 | some y =>
   obtain ⟨j, v⟩ := y
   obtain ⟨e0, _, _, _, ⟨hv1, hv2, hv3⟩, rfl⟩ := h8
   simp only [Rd.run, Option.some.injEq] at h9; subst h9
   refine ⟨if ok then .tuple #[e0.val, .bool true] else e0.val, g, ?_, rfl, hI, Adv.refl g, ?_⟩
   · simp only [Instr.lookup, Sem.run_bind, Za hu, Result.andThen_ok, MapKept.run_getObj_map h5, hck, h7, Sem.run_pure]
   · cases ok
     · exact hv3 _ _ _
     · simp only [Gh.R, cond_true, VR, VRs]
       exact ⟨#[e0.val, .bool true], rfl, e0.val, [.bool true], rfl, hv3 _ _ _, .bool true, [], rfl, rfl, rfl⟩
theorem Z5h {v : AV} (h : plainA v = true) : v.leads = false ∧ v.oneCellA = true := by
 simpa [plainA] using h
theorem Zfc (hE : EnvOK P E) (hI : Inv E g) {t : TypeId} {m key v : AV} {mv kv vv : Value} (hm : g.R m mv) (hk : g.R key kv) (hv : g.R v vv) {x : AV × Ups} (h : (Z8g E.T t m key v).run g.H = some x) :
   ∃ g', (Instr.mapUpdate t mv kv vv).run P g.w = .ok () g'.w ∧ g'.H = upds g.H x.2 ∧ Inv E g' ∧ Adv g g' ∧ x.1 = .tup [] := by
 obtain ⟨k, e, id, cs, es, r, r', zv, hu, hz, rfl, h3, h5, h6, hck, hks, hkl, h7, h8, h9⟩ := Z89 hE hI hm hk h
 split at h9
 · rename_i hp
   obtain ⟨p1, p2⟩ := Z5h hp
   have hvv : ∀ fz w rf, VR fz w v rf vv := fun fz w rf => Z1u _ _ p1 hv
   cases r with
   | none =>
     simp only [Found] at h8; subst h8
     simp only [Rd.run, Option.some.injEq] at h9; subst h9
     have hs := Z3V (es' := es.push { key := kv, val := vv, born := es.size }) (cs' := cs ++ [key, v]) hI h3 h5 (by simp) (by
       rw [Array.toList_push]; exact Z5D h6 (by simp) hkl.1 p1 p2 hkl.2 hvv)
     refine ⟨_, ?_, rfl, hs.1, hs.2, rfl⟩
     simp only [Instr.mapUpdate, Sem.run_bind, Za hu, Result.andThen_ok, MapKept.run_getObj_map h5, hck, h7, MapKept.run_setObj_map _ h5, Array.size_push]
   | some y =>
     obtain ⟨j, u⟩ := y
     obtain ⟨e0, _, he, hek, _, rfl⟩ := h8
     simp only [Rd.run, Option.some.injEq] at h9; subst h9
     simp only [Nat.sub_zero] at he
     have he' : es[j]? = some e0 := by simpa using he
     have hs := Z3V (es' := es.modify j fun e => { e with key := kv, val := vv }) (cs' := cs.set (2 * j + 1) v) hI h3 h5 (by simp) (by
       rw [Array.toList_modify]
       exact Z7Z (f := fun e => { e with key := kv, val := vv }) (fun _ => rfl) p1 p2 j h6 (fun e1 he1 => by rw [he] at he1; obtain rfl := Option.some.inj he1; exact ⟨hek.symm, hvv⟩))
     refine ⟨_, ?_, rfl, hs.1, hs.2, rfl⟩
     simp only [Instr.mapUpdate, Sem.run_bind, Za hu, Result.andThen_ok, MapKept.run_getObj_map h5, hck, h7, he', Option.map_some, Option.getD_some, hek, hks, MapKept.run_setObj_map _ h5, Array.size_modify]
 · simp [Rd.run] at h9
theorem Zrx (hE : EnvOK P E) (hI : Inv E g) {t : TypeId} {m key : AV} {mv kv : Value} (hm : g.R m mv) (hk : g.R key kv) {x : AV × Ups} (h : (Z9d E.T t m key).run g.H = some x) :
   Done E g x ((Instr.mapEntry t mv kv).run P g.w) := by
 obtain ⟨k, e, id, cs, es, r, r', zv, hu, hz, rfl, h3, h5, h6, hck, hks, hkl, h7, h8, h9⟩ := Z89 hE hI hm hk h
 cases r with
 | none =>
   simp only [Found] at h8; subst h8
   simp only at h9
   split at h9
   · rename_i hp
     obtain ⟨p1, p2⟩ := Z5h hp
     simp only [Rd.run, Option.some.injEq] at h9; subst h9
     have hs := Z3V (es' := es.push { key := kv, val := zv, born := es.size }) (cs' := cs ++ [key, ofV zv]) hI h3 h5 (by simp) (by
       rw [Array.toList_push]; exact Z5D h6 (by simp) hkl.1 p1 p2 hkl.2 (fun fz w rf => Z3C zv fz w rf))
     refine ⟨.tuple #[zv, goInt es.size], _, ?_, rfl, hs.1, hs.2, ?_⟩
     · simp only [Instr.mapEntry, Sem.run_bind, Za hu, Result.andThen_ok, MapKept.run_getObj_map h5, hck, h7, hz, MapKept.run_setObj_map _ h5, Array.size_push, Sem.run_pure]
     · have hl := Z8b h6
       simp only [Gh.R, VR, VRs]
       exact ⟨#[zv, goInt es.size], rfl, zv, [goInt es.size], rfl, Z3C zv _ _ _, goInt es.size, [], rfl, by rw [hl]; simp [goInt], rfl⟩
   · simp [Rd.run] at h9
 | some y =>
   obtain ⟨j, u⟩ := y
   obtain ⟨e0, _, he, hek, ⟨_, _, hv3⟩, rfl⟩ := h8
   simp only [Rd.run, Option.some.injEq] at h9; subst h9
   simp only [Nat.sub_zero] at he
   have he' : es[j]? = some e0 := by simpa using he
   have hborn : e0.born = j := by simpa using Z42 h6 he
   have hs := Z3V (es' := es.modify j fun e => { e with key := kv }) (cs' := cs) hI h3 h5 (Nat.le_refl _) (by
     rw [Array.toList_modify]
     exact Zkk (f := fun e => { e with key := kv }) (fun _ => ⟨rfl, rfl⟩) j h6 (fun e1 he1 => by rw [he] at he1; obtain rfl := Option.some.inj he1; exact hek.symm))
   refine ⟨.tuple #[e0.val, goInt j], _, ?_, rfl, hs.1, hs.2, ?_⟩
   · simp only [Instr.mapEntry, Sem.run_bind, Za hu, Result.andThen_ok, MapKept.run_getObj_map h5, hck, h7, he', Option.map_some, Option.getD_some, hek, hks, MapKept.run_setObj_map _ h5, Array.size_modify, Sem.run_pure, hborn]
   · simp only [Gh.R, VR, VRs]
     exact ⟨#[e0.val, goInt j], rfl, e0.val, [goInt j], rfl, hv3 _ _ _, goInt j, [], rfl, rfl, rfl⟩
theorem Zgj (hI : Inv E g) {t : TypeId} {m s v : AV} {mv sv vv : Value} (hm : g.R m mv) (hs : g.R s sv) (hv : g.R v vv) {x : AV × Ups} (h : (Z3H m s v).run g.H = some x) :
   ∃ g', (Instr.entryStore t mv sv vv).run P g.w = .ok () g'.w ∧ g'.H = upds g.H x.2 ∧ Inv E g' ∧ Adv g g' ∧ x.1 = .tup [] := by
 unfold Z3H at h
 split at h
 · rename_i id k n
   obtain ⟨cs, h1, h2⟩ := Rd.run_bind_some h
   have h3 := Z7Q h1
   obtain ⟨rfl, es, h5, h6⟩ := ZDN hI hm h3
   simp only [Gh.R, VR] at hs; subst hs
   split at h2
   · rename_i hc
     obtain ⟨c1, c2, hp⟩ := hc
     obtain ⟨p1, p2⟩ := Z5h hp
     simp only [Rd.run, Option.some.injEq] at h2; subst h2
     have hl := Z8b h6
     have hlt : n.toNat < es.size := by simp only [Array.length_toList] at hl; omega
     have hfind : es.findIdx? (fun e => (e.born : Int) == n) = some n.toNat := by
       rw [Array.findIdx?_eq_some_iff_getElem]
       refine ⟨hlt, ?_, fun j hj => ?_⟩
       · have : es[n.toNat].born = n.toNat := by simpa using Z42 h6 (j := n.toNat) (e := es[n.toNat]) (by simp [hlt])
         rw [this]; simp only [beq_iff_eq]; omega
       · have : (es[j]'(by omega)).born = j := by simpa using Z42 h6 (j := j) (e := es[j]'(by omega)) (by simp)
         rw [this]; simp; omega
     have hs := Z3V (es' := es.modify n.toNat fun e => { e with val := vv }) (cs' := cs.set (2 * n.toNat + 1) v) hI h3 h5 (by simp) (by
       rw [Array.toList_modify]
       exact Z7Z (f := fun e => { e with val := vv }) (fun _ => rfl) p1 p2 n.toNat h6 (fun e1 he1 => ⟨rfl, fun fz w rf => Z1u _ _ p1 hv⟩))
     refine ⟨_, ?_, rfl, hs.1, hs.2, rfl⟩
     simp only [Instr.entryStore, asInt, asIntOf, Sem.run_bind, Sem.run_pure, Result.andThen_ok, MapKept.run_getObj_map h5, hfind, MapKept.run_setObj_map _ h5, Array.size_modify]
   · simp [Rd.run] at h2
 · simp [Rd.run] at h
end
end Go.AM
end
end
