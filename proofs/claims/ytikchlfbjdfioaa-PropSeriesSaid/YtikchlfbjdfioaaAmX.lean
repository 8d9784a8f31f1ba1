/- Regions: the machine does what the abstract one told, in the text's order or in a drawn one. Own work of this project. -/
import Derived.Test.YtikchlfbjdfioaaAmW
namespace Go.AM
section
variable {P : Program} {E : Env} {C : Callee} {B n : Nat} {ops : Array Oper}

theorem runT_runL : ∀ (l : List Oper) (i : Nat) (s s' : St) (tr : List (Nat × Tr)), (∀ k o, l[k]? = some o → ops[i + k]? = some o) → runT E C B n ops l i s = some (s', tr) → RunL E C B n ops tr s s' ∧ tr.map (·.1) = List.range' i l.length
  | [], i, s, s', tr, _, h => by
    simp only [runT, Option.some.injEq, Prod.mk.injEq] at h
    obtain ⟨rfl, rfl⟩ := h
    exact ⟨rfl, rfl⟩
  | o :: l, i, s, s', tr, ho, h => by
    simp only [runT] at h
    cases h1 : stepA E C B n ops o s with
    | none => rw [h1] at h; simp at h
    | some s1 =>
      rw [h1] at h
      simp only at h
      cases h2 : neat n s1 with
      | false => rw [h2] at h; simp at h
      | true =>
        rw [h2] at h
        simp only at h
        cases h3 : runT E C B n ops l (i + 1) s1 with
        | none => rw [h3] at h; simp at h
        | some y =>
          obtain ⟨s2, tr2⟩ := y
          rw [h3] at h
          simp only [Option.some.injEq, Prod.mk.injEq] at h
          obtain ⟨rfl, rfl⟩ := h
          obtain ⟨q1, q2⟩ := runT_runL l (i + 1) s1 s2 tr2 (fun k p hp => by
            have := ho (k + 1) p (by simpa using hp)
            rwa [show i + (k + 1) = i + 1 + k from by omega] at this) h3
          refine ⟨⟨o, s1, by simpa using ho 0 o rfl, h1, rfl, h2, q1⟩, ?_⟩
          simp only [List.map_cons, q2, List.length_cons]
          rfl

theorem apartAll_spec (an : List (List Nat)) (i : Nat) (oi : Oper) : ∀ (os : List Oper) (j : Nat), apartAll ops an i oi os j = true → ∀ (k : Nat) (o : Oper), os[k]? = some o → i ∈ an.getD (j + k) [] ∨ apartO ops oi o = true
  | [], _, _, k, o, h => by simp at h
  | p :: os, j, ha, k, o, h => by
    simp only [apartAll, Bool.and_eq_true, Bool.or_eq_true] at ha
    cases k with
    | zero =>
      simp only [List.getElem?_cons_zero, Option.some.injEq] at h; subst h
      exact ha.1.imp (fun h => by simpa using h) id
    | succ k =>
      have := apartAll_spec an i oi os (j + 1) ha.2 k o (by simpa using h)
      rwa [show j + 1 + k = j + (k + 1) from by omega] at this

theorem statPairs_spec (an : List (List Nat)) : ∀ (os : List Oper) (i : Nat), statPairs ops an os i = true → ∀ (k k' : Nat) (o o' : Oper), k < k' → os[k]? = some o → os[k']? = some o' → i + k ∈ an.getD (i + k') [] ∨ apartO ops o o' = true
  | [], _, _, k, _, o, _, _, h, _ => by simp at h
  | p :: os, i, ha, k, k', o, o', hk, h, h' => by
    simp only [statPairs, Bool.and_eq_true] at ha
    obtain ⟨m, rfl⟩ : ∃ m, k' = m + 1 := ⟨k' - 1, by omega⟩
    have h' : os[m]? = some o' := by simpa using h'
    cases k with
    | zero =>
      simp only [List.getElem?_cons_zero, Option.some.injEq] at h; subst h
      have := apartAll_spec an i p os (i + 1) ha.1 m o' h'
      rwa [show i + 1 + m = i + (m + 1) from by omega] at this
    | succ k =>
      have := statPairs_spec an os (i + 1) ha.2 k m o o' (by omega) (by simpa using h) h'
      rwa [show i + 1 + k = i + (k + 1) from by omega, show i + 1 + m = i + (m + 1) from by omega] at this

theorem apartT_left {a b : Tr} (h : a.empty = true) : apartT a b = true := by
  simp only [Tr.empty, Bool.and_eq_true, List.isEmpty_iff, Bool.not_eq_true'] at h
  obtain ⟨⟨h1, h2⟩, h3⟩ := h
  simp [apartT, disj, h1, h2, h3, Tr.empty]
theorem apartT_right {a b : Tr} (h : b.empty = true) : apartT a b = true := by
  have h' := h
  simp only [Tr.empty, Bool.and_eq_true, List.isEmpty_iff, Bool.not_eq_true'] at h
  obtain ⟨⟨h1, h2⟩, h3⟩ := h
  simp [apartT, disj, h1, h2, h3, Tr.empty]

theorem dyn_spec (an : List (List Nat)) : ∀ (l : List (Nat × Tr)), dynPairs an (touching l) = true → l.Pairwise (fun p q => p.1 ∈ an.getD q.1 [] ∨ apartT p.2 q.2 = true)
  | [], _ => List.Pairwise.nil
  | (i, t) :: l, h => by
    simp only [touching] at h
    cases he : t.empty with
    | true =>
      rw [he] at h
      exact List.pairwise_cons.2 ⟨fun q _ => .inr (apartT_left he), dyn_spec an l h⟩
    | false =>
      rw [he] at h
      simp only [dynPairs, Bool.and_eq_true, List.all_eq_true, Bool.or_eq_true] at h
      refine List.pairwise_cons.2 ⟨fun q hq => ?_, dyn_spec an l h.2⟩
      have hmem : q.2.empty = true ∨ q ∈ touching l := by
        clear h
        induction l with
        | nil => simp at hq
        | cons p l ih =>
          obtain ⟨j, u⟩ := p
          simp only [touching]
          rcases List.mem_cons.1 hq with rfl | hq
          · cases hu : u.empty with
            | true => exact .inl rfl
            | false => exact .inr (by simp)
          · rcases ih hq with r | r
            · exact .inl r
            · cases hu : u.empty with
              | true => exact .inr r
              | false => exact .inr (List.mem_cons_of_mem _ r)
      rcases hmem with r | r
      · exact .inr (apartT_right r)
      · exact (h.1 q r).imp (fun h => by simpa using h) id

theorem still_spec : ∀ (l : List (Nat × Tr)), writing l = false → l.Pairwise (fun p q => apartT p.2 q.2 = true)
  | [], _ => List.Pairwise.nil
  | (i, t) :: l, h => by
    simp only [writing, Bool.or_eq_false_iff, Bool.not_eq_false', List.isEmpty_iff] at h
    refine List.pairwise_cons.2 ⟨fun q hq => ?_, still_spec l h.2⟩
    have hq2 : q.2.all = false ∧ q.2.wr = [] := by
      have := h.2
      clear h
      induction l with
      | nil => simp at hq
      | cons p l ih =>
        obtain ⟨j, u⟩ := p
        simp only [writing, Bool.or_eq_false_iff, Bool.not_eq_false', List.isEmpty_iff] at this
        rcases List.mem_cons.1 hq with rfl | hq
        · exact ⟨this.1.1, this.1.2⟩
        · exact ih hq this.2
    simp [apartT, disj, h.1.1, h.1.2, hq2.1, hq2.2]

theorem dynOk_spec {l : List (Nat × Tr)} (h : dynOk ops l = true) : l.Pairwise (fun p q => p.1 ∈ anOf ops q.1 ∨ apartT p.2 q.2 = true) := by
  simp only [dynOk, Bool.or_eq_true, Bool.not_eq_true'] at h
  rcases h with h | h
  · exact (still_spec l h).imp (fun h => .inr h)
  · exact dyn_spec _ l h

theorem getD_replicate (k i : Nat) (b : Bool) (d : Bool) : (Array.replicate k b).getD i d = if i < k then b else d := by
  simp only [Array.getD_eq_getD_getElem?, Array.getElem?_replicate]
  split <;> rfl

theorem draw_runI {s s' : St} (h : drawA E C B n ops s = some s') (t : Nat) : runI E C B n ops (Region.linearise .any ops t) s = some s' := by
  unfold drawA at h
  cases h0 : neat n s with
  | false => rw [h0] at h; simp at h
  | true =>
    rw [h0] at h
    simp only at h
    cases h1 : runT E C B n ops ops.toList 0 s with
    | none => rw [h1] at h; simp at h
    | some y =>
      obtain ⟨s2, tr⟩ := y
      rw [h1] at h
      simp only at h
      cases h2 : statOk ops with
      | false => rw [h2] at h; simp at h
      | true =>
        rw [h2] at h
        simp only at h
        cases h3 : dynOk ops tr with
        | false => rw [h3] at h; simp at h
        | true =>
          rw [h3] at h
          simp only [Option.some.injEq] at h; subst h
          obtain ⟨q1, q2⟩ := runT_runL ops.toList 0 s s2 tr (fun k o hk => by simpa using hk) h1
          simp only [statOk, Bool.and_eq_true] at h2
          have hd := dynOk_spec h3
          have hlen : ops.toList.length = ops.size := by simp
          rw [hlen] at q2
          obtain ⟨l1, l2, l3, l4⟩ := lin_ok (ops := ops) h2.1 ops.size t (Array.replicate ops.size false) (by simp) (fun i hi => by
            rw [getD_replicate] at hi; split at hi <;> simp at hi) (by
            unfold cnt
            exact Nat.le_trans (List.length_filter_le _ _) (by simp))
          refine RunL.perm (fun i j => i ∈ anOf ops j) _ tr s s2 h0 q1 l2 (by rw [q2]; exact List.nodup_range') (fun j => ?_) ?_ ?_
          · rw [q2]
            constructor
            · intro hj
              have := l1 j hj
              rw [getD_replicate] at this
              split at this
              · rename_i hlt; simp [List.mem_range'_1, hlt]
              · simp at this
            · intro hj
              simp only [List.mem_range'_1] at hj
              exact l4 j (by omega) (by rw [getD_replicate, if_pos (by omega)])
          · exact l3
          · -- any two of the text
            have hsorted : tr.Pairwise (fun p q => p.1 < q.1) := by
              have : (tr.map (·.1)).Pairwise (· < ·) := by rw [q2]; exact List.pairwise_lt_range'
              exact (List.pairwise_map.1 this)
            refine (hd.and hsorted).imp ?_
            rintro p q ⟨r1, r2⟩
            rcases r1 with r1 | r1
            · exact .inl r1
            · by_cases hm : p.1 ∈ anOf ops q.1
              · exact .inl hm
              · refine .inr (fun op oq e1 e2 => ⟨?_, r1⟩)
                have := statPairs_spec _ ops.toList 0 h2.2 p.1 q.1 op oq r2 (by simpa using e1) (by simpa using e2)
                rw [Nat.zero_add, Nat.zero_add] at this
                exact this.resolve_left hm

/-- A region, as it is. -/
theorem region_ok (hE : EnvOK P E) (hC : CS P E C) (hm : P.follows .mixedOrders = true) {g : Gh} {φ : AFr} {a : Act} {s' : St} {draw : Bool} (hI : Inv E g) (hst : ST n g φ a) (h : regA E C B n ops (φ, g.H) draw = some s') {id : Nat} {Q : Exit → Act → World → Prop}
    (hn : ∀ a' g', g'.H = s'.2 → Inv E g' → Adv g g' → ST n g' s'.1 a' → Q .normal a' g'.w) : (Code.region id ops draw).wp P Q a g.w := by
  cases draw with
  | false =>
    simp only [regA] at h
    refine wp_region (runI_ok (B := B) hE hC _ g φ a s' hI hst ?_ hn)
    rw [← runA_runI ops.toList _ _ (range_ops ops)]
    exact h
  | true =>
    simp only [regA] at h
    refine wp_region_draw (fun t => ?_)
    simp only [Region.schedule, hm, Bool.true_or, if_true]
    have hI2 := hI.draw { g.w with drawn := g.w.drawn + 1 } rfl
    have hA2 := Adv.draw (g := g) { g.w with drawn := g.w.drawn + 1 } rfl rfl rfl rfl
    exact runI_ok hE hC _ { g with w := { g.w with drawn := g.w.drawn + 1 } } φ a s' hI2 (hst.adv hA2) (draw_runI h t) (fun a' g' k1 k2 k3 k4 => hn a' g' k1 k2 (hA2.trans k3) k4)

end
end Go.AM
