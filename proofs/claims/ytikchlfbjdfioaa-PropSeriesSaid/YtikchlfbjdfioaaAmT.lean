/- One operation behind the other: the machine does what the abstract one told. Own work of this project. -/
import Derived.Test.YtikchlfbjdfioaaAmS
namespace Go.AM
section
variable {P : Program} {E : Env} {g : Gh}

/-- The call's slots. -/
structure ST (n : Nat) (g : Gh) (φ : AFr) (a : Act) : Prop where
  fr : FR g φ a.tmps
  def_ : a.defers = []
  size : n ≤ a.tmps.size

theorem FR.adv {g g' : Gh} {φ : AFr} {tmps : Array Value} (h : FR g φ tmps) (hA : Adv g g') : FR g' φ tmps := fun i => hA.vr _ _ (h i)
theorem ST.adv {n : Nat} {g g' : Gh} {φ : AFr} {a : Act} (h : ST n g φ a) (hA : Adv g g') : ST n g' φ a := ⟨h.fr.adv hA, h.def_, h.size⟩

theorem fin_ok {n : Nat} {g g' : Gh} {φ : AFr} {a : Act} (hst : ST n g φ a) (hA : Adv g g') {v : AV} {v' : Value} (hv : g'.R v v') {o : Oper} {H : AHeap} {s' : St} (h : fin n o φ v H = some s') : s'.2 = H ∧ ST n g' s'.1 (a.put o.dst v') := by
  unfold fin at h
  split at h
  · rename_i φ' hp
    obtain rfl := Option.some.inj h
    refine ⟨rfl, ?_⟩
    unfold putA at hp
    split at hp
    · rename_i d hd
      cases hb : Nat.ble n d with
      | true => rw [hb] at hp; simp at hp
      | false =>
        rw [hb] at hp
        simp only [cond_false, Option.some.injEq] at hp
        subst hp
        have hlt : d < n := by
          rcases Nat.lt_or_ge d n with h | h
          · exact h
          · rw [bleT h] at hb; exact absurd hb (by simp)
        have hsz := hst.size
        refine ⟨fun i => ?_, by rw [hd]; exact hst.def_, by rw [hd]; simpa [Act.put] using hsz⟩
        rw [fget_fput, hd]
        simp only [Act.put]
        by_cases hi : i = d
        · subst hi
          rw [if_pos rfl]
          simp only [Array.getD_eq_getD_getElem?]
          rw [Array.getElem?_setIfInBounds_self_of_lt (Nat.lt_of_lt_of_le hlt hsz)]
          exact hv
        · rw [if_neg hi]
          simp only [Array.getD_eq_getD_getElem?]
          rw [Array.getElem?_setIfInBounds_ne (Ne.symm hi)]
          have := hA.vr _ _ (hst.fr i)
          simpa only [Array.getD_eq_getD_getElem?] using this
    · rename_i hd
      obtain rfl := Option.some.inj hp
      rw [hd]
      exact hst.adv hA
  · exact absurd h (by simp)

theorem want_ok {n : Nat} {φ : AFr} {a : Act} (hst : ST n g φ a) {ops : Array Oper} {o : Oper} {b : Bool} (h : wantA ops φ o = some b) : Region.wanted o (yielded ops a.tmps) = b := by
  unfold wantA at h
  unfold Region.wanted
  split at h
  · rename_i hg
    obtain rfl := Option.some.inj h
    rw [hg]
  · rename_i j want hg
    rw [hg]
    simp only
    split at h
    · rename_i hj
      obtain rfl := Option.some.inj h
      simp [yielded, hj]
    · rename_i oj hj
      split at h
      · rename_i hd
        obtain rfl := Option.some.inj h
        simp [yielded, hj, hd]
      · rename_i d hd
        have hR := hst.fr d
        split at h
        · rename_i c hc
          obtain rfl := Option.some.inj h
          rw [hc] at hR
          simp only [Gh.R, VR] at hR
          cases ht : a.tmps[d]? with
          | none => rw [Array.getD_eq_getD_getElem?, ht] at hR; simp [undef] at hR
          | some v =>
            rw [Array.getD_eq_getD_getElem?, ht] at hR
            simp only [Option.getD_some] at hR
            subst hR
            cases c <;> cases want <;> simp [yielded, hj, hd, ht]
        · rename_i vs hc
          obtain rfl := Option.some.inj h
          rw [hc] at hR
          simp only [Gh.R, VR] at hR
          obtain ⟨A, hA, _⟩ := hR
          cases ht : a.tmps[d]? with
          | none => simp [yielded, hj, hd, ht]
          | some v =>
            rw [Array.getD_eq_getD_getElem?, ht] at hA
            simp only [Option.getD_some] at hA
            subst hA
            simp [yielded, hj, hd, ht]
        · exact absurd h (by simp)

section
variable {C : Callee} {B n : Nat} {ops : Array Oper} {o : Oper} {φ : AFr} {a : Act} {s' : St}

theorem goR_ok (hE : EnvOK P E) (hI : Inv E g) (hC : CS P E C) (hst : ST n g φ a) (h : goR E C B n o (φ, g.H) = some s') (next : Act → World → Prop) (Q : Exit → Act → World → Prop)
    (hn : ∀ a' g', g'.H = s'.2 → Inv E g' → Adv g g' → ST n g' s'.1 a' → next a' g'.w) : o.wp P a g.w next Q := by
  unfold goR at h
  split at h
  · rename_i v us hr
    refine op_ok hE hI hC hst.fr hr next Q ?_
    intro v' g' h1 h2 h3 h4
    obtain ⟨k1, k2⟩ := fin_ok hst h3 h4 h
    exact hn _ g' (h1.trans k1.symm) h2 h3 k2
  · exact absurd h (by simp)

theorem goA_ok (hE : EnvOK P E) (hI : Inv E g) (hC : CS P E C) (hst : ST n g φ a) (h : goA E C B n o (φ, g.H) = some s') (next : Act → World → Prop) (Q : Exit → Act → World → Prop)
    (hn : ∀ a' g', g'.H = s'.2 → Inv E g' → Adv g g' → ST n g' s'.1 a' → next a' g'.w) : o.wp P a g.w next Q := by
  unfold goA at h
  split at h
  · rename_i x ho
    obtain ⟨k1, k2⟩ := fin_ok hst (Adv.refl g) (ev_ok (E := E) hI hst.fr x) h
    have : (execOp a.eval o).run P g.w = .ok (.value (a.eval x)) g.w := by simp [execOp, ho]
    simp only [Oper.wp, this, Oper.upon_value]
    exact hn _ g k1.symm hI (Adv.refl g) k2
  · rename_i x ho
    obtain ⟨k1, k2⟩ := fin_ok hst (Adv.refl g) (ev_ok (E := E) hI hst.fr x) h
    have : (execOp a.eval o).run P g.w = .ok (.value (a.eval x)) g.w := by simp [execOp, ho]
    simp only [Oper.wp, this, Oper.upon_value]
    exact hn _ g k1.symm hI (Adv.refl g) k2
  · rename_i c ho
    split at h
    · rename_i f args hm
      unfold mutC at hm
      split at hm
      · rename_i fv hfv
        unfold mutV at hm
        split at hm
        · rename_i f' caps he
          split at hm
          · split at hm
            · rename_i fi hf
              simp only [Option.some.injEq, Prod.mk.injEq] at hm
              obtain ⟨rfl, rfl⟩ := hm
              unfold goM at h
              split at h
              · rename_i r H' hc
                have hv := ev_ok (E := E) hI hst.fr fv
                simp only at he
                rw [he] at hv
                simp only [Gh.R, VR] at hv
                obtain ⟨A, q1, q2⟩ := hv
                have hargs := VRs_append (ers_ok hI hst.fr c.args) q2
                have hcalls := hC _ _ _ _ _ _ hc g _ rfl hI hargs
                rw [show ((c.args.map a.eval).toList ++ A.toList).toArray = #[] ++ c.args.map a.eval ++ A from by simp] at hcalls
                simp only [Oper.wp, enter_ok hE ho hfv q1 hf g.w, Oper.upon_enter]
                refine hcalls.mono ?_
                intro e w' hb
                cases e with
                | returned v =>
                  obtain ⟨g', rfl, h1, h2, h3, h4⟩ := hb
                  obtain ⟨k1, k2⟩ := fin_ok hst h3 h4 h
                  exact hn _ g' (h1.trans k1.symm) h2 h3 k2
                | panicked => exact hb.elim
                | outgrown => exact hb.elim
              · exact absurd h (by simp)
            · exact absurd hm (by simp)
          · exact absurd hm (by simp)
        · rename_i f' caps he
          split at hm
          · split at hm
            · rename_i fi hf
              simp only [Option.some.injEq, Prod.mk.injEq] at hm
              obtain ⟨rfl, rfl⟩ := hm
              unfold goM at h
              split at h
              · rename_i r H' hc
                have hv := ev_ok (E := E) hI hst.fr fv
                simp only at he
                rw [he] at hv
                simp only [Gh.R, VR] at hv
                obtain ⟨A, q1, q2⟩ := hv
                have hargs := VRs_append q2 (ers_ok hI hst.fr c.args)
                have hcalls := hC _ _ _ _ _ _ hc g _ rfl hI hargs
                rw [show (A.toList ++ (c.args.map a.eval).toList).toArray = A ++ c.args.map a.eval ++ #[] from by simp] at hcalls
                simp only [Oper.wp, enter_ok hE ho hfv q1 hf g.w, Oper.upon_enter]
                refine hcalls.mono ?_
                intro e w' hb
                cases e with
                | returned v =>
                  obtain ⟨g', rfl, h1, h2, h3, h4⟩ := hb
                  obtain ⟨k1, k2⟩ := fin_ok hst h3 h4 h
                  exact hn _ g' (h1.trans k1.symm) h2 h3 k2
                | panicked => exact hb.elim
                | outgrown => exact hb.elim
              · exact absurd h (by simp)
            · exact absurd hm (by simp)
          · exact absurd hm (by simp)
        · exact absurd hm (by simp)
      · exact absurd hm (by simp)
    · exact goR_ok hE hI hC hst h next Q hn
  · exact goR_ok hE hI hC hst h next Q hn

theorem step_ok (hE : EnvOK P E) (hI : Inv E g) (hC : CS P E C) (hst : ST n g φ a) (h : stepA E C B n ops o (φ, g.H) = some s') (next : Act → World → Prop) (Q : Exit → Act → World → Prop)
    (hn : ∀ a' g', g'.H = s'.2 → Inv E g' → Adv g g' → ST n g' s'.1 a' → next a' g'.w) :
    if Region.wanted o (yielded ops a.tmps) = true then o.wp P a g.w next Q ∨ (o.asks P a g.w ∧ LetsOut Q) else next (a.put o.dst undef) g.w := by
  unfold stepA at h
  split at h
  · rename_i hg
    rw [if_pos (by simp [Region.wanted, hg])]
    exact .inl (goA_ok hE hI hC hst h next Q hn)
  · split at h
    · exact absurd h (by simp)
    · rename_i hw
      have := want_ok hst hw
      rw [this, if_neg (by simp)]
      obtain ⟨k1, k2⟩ := fin_ok (v' := undef) hst (Adv.refl g) (by simp only [Gh.R, VR, VRs]; exact ⟨#[], rfl, rfl⟩) h
      exact hn _ g k1.symm hI (Adv.refl g) k2
    · rename_i hw
      have := want_ok hst hw
      rw [this, if_pos rfl]
      exact .inl (goA_ok hE hI hC hst h next Q hn)

end

/-- The operations by their numbers, in some order. -/
noncomputable def runI (E : Env) (C : Callee) (B n : Nat) (ops : Array Oper) : List Nat → St → Option St
  | [], s => some s
  | i :: il, s => match ops[i]? with
    | none => none
    | some o => match stepA E C B n ops o s with
      | some s' => runI E C B n ops il s'
      | none => none

theorem runI_ok (hE : EnvOK P E) {C : Callee} (hC : CS P E C) {B n : Nat} {ops : Array Oper} {Q : Exit → Act → World → Prop} : ∀ (il : List Nat) (g : Gh) (φ : AFr) (a : Act) (s' : St), Inv E g → ST n g φ a → runI E C B n ops il (φ, g.H) = some s' →
    (∀ a' g', g'.H = s'.2 → Inv E g' → Adv g g' → ST n g' s'.1 a' → Q .normal a' g'.w) → wpOps P ops Q il a g.w
  | [], g, φ, a, s', hI, hst, h, hn => by
    simp only [runI, Option.some.injEq] at h; subst h
    exact hn a g rfl hI (Adv.refl g) hst
  | i :: il, g, φ, a, s', hI, hst, h, hn => by
    simp only [runI] at h
    cases ho : ops[i]? with
    | none => rw [ho] at h; simp at h
    | some o =>
      rw [ho] at h
      simp only at h
      split at h
      · rename_i s1 hs1
        simp only [wpOps, ho]
        refine step_ok hE hI hC hst hs1 _ Q ?_
        intro a1 g1 h1 h2 h3 h4
        refine runI_ok hE hC il g1 s1.1 a1 s' h2 h4 (by rw [h1]; exact h) ?_
        intro a' g' k1 k2 k3 k4
        exact hn a' g' k1 k2 (h3.trans k3) k4
      · exact absurd h (by simp)

theorem runA_runI {C : Callee} {B n : Nat} {ops : Array Oper} : ∀ (l : List Oper) (il : List Nat) (s : St), il.map (fun i => ops[i]?) = l.map some → runA E C B n ops l s = runI E C B n ops il s
  | [], [], s, _ => rfl
  | [], _ :: _, s, h => by simp at h
  | _ :: _, [], s, h => by simp at h
  | o :: l, i :: il, s, h => by
    simp only [List.map_cons, List.cons.injEq] at h
    simp only [runA, runI, h.1]
    cases stepA E C B n ops o s with
    | none => rfl
    | some s1 => exact runA_runI l il s1 h.2

theorem range_ops (ops : Array Oper) : (List.range ops.size).map (fun i => ops[i]?) = ops.toList.map some := by
  apply List.ext_getElem?
  intro i
  rw [List.getElem?_map, List.getElem?_map]
  by_cases h : i < ops.size
  · simp [h]
  · simp [h]

end
end Go.AM
