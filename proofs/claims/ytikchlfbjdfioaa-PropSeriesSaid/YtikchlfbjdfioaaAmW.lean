/- The orders that may be drawn, all legal; regions as they are. Own work of this project. -/
import Derived.Test.YtikchlfbjdfioaaAmV
namespace Go.AM

/-! ### What an operation waits for -/
def dsOf (o : Oper) : List Nat := (o.after.toList.filter (Region.binds .any)).map (·.on)
def anOf (ops : Array Oper) (i : Nat) : List Nat := (ancs ops.toList []).getD i []

theorem mask_spec (j : Nat) : ∀ (l : List Nat) (m : Nat), (l.foldl (fun m i => m ||| 1 <<< i) m).testBit j = true → m.testBit j = true ∨ j ∈ l
  | [], _, h => .inl h
  | a :: l, m, h => by
    rcases mask_spec j l _ h with h1 | h1
    · rw [Nat.testBit_or, Bool.or_eq_true] at h1
      rcases h1 with h1 | h1
      · exact .inl h1
      · simp only [Nat.testBit_shiftLeft, ge_iff_le, Bool.and_eq_true, decide_eq_true_eq, Nat.testBit_one_eq_true_iff_self_eq_zero] at h1
        have : j = a := by omega
        exact .inr (by simp [this])
    · exact .inr (by simp [h1])
theorem dd_mem {n j : Nat} {l : List Nat} (h : j ∈ dd n l) : j ∈ l := by
  simp only [dd, List.mem_filter] at h
  rcases mask_spec j l 0 h.2 with h1 | h1
  · simp at h1
  · exact h1

theorem ancs_spec : ∀ (os : List Oper) (acc : List (List Nat)), (∀ k, k < acc.length → (ancs os acc)[k]? = acc[k]?) ∧
    ∀ (k : Nat) (o : Oper), os[k]? = some o → ∀ j, j ∈ (ancs os acc).getD (acc.length + k) [] → j ∈ dsOf o ∨ ∃ d ∈ dsOf o, j ∈ (ancs os acc).getD d []
  | [], acc => ⟨fun _ _ => rfl, fun k o h => by simp at h⟩
  | o :: os, acc => by
    simp only [ancs]
    obtain ⟨h1, h2⟩ := ancs_spec os (acc ++ [dd acc.length (dsOf o ++ (dsOf o).flatMap fun d => acc.getD d [])])
    have h1' : ∀ k, k < acc.length → (ancs os (acc ++ [dd acc.length (dsOf o ++ (dsOf o).flatMap fun d => acc.getD d [])]))[k]? = acc[k]? := by
      intro k hk
      rw [h1 k (by simp; omega), List.getElem?_append_left hk]
    refine ⟨h1', fun k p hp j hj => ?_⟩
    cases k with
    | zero =>
      simp only [List.getElem?_cons_zero, Option.some.injEq] at hp
      subst hp
      have e := h1 acc.length (by simp)
      rw [List.getElem?_append_right (Nat.le_refl _)] at e
      simp only [Nat.sub_self, List.getElem?_cons_zero] at e
      change j ∈ (ancs os (acc ++ [dd acc.length (dsOf o ++ (dsOf o).flatMap fun d => acc.getD d [])])).getD (acc.length + 0) [] at hj
      rw [List.getD_eq_getElem?_getD, Nat.add_zero, e, Option.getD_some] at hj
      replace hj := dd_mem hj
      simp only [List.mem_append, List.mem_flatMap] at hj
      rcases hj with hj | ⟨d, hd, hj⟩
      · exact .inl hj
      · refine .inr ⟨d, hd, ?_⟩
        by_cases hlt : d < acc.length
        · change j ∈ (ancs os (acc ++ [dd acc.length (dsOf o ++ (dsOf o).flatMap fun d => acc.getD d [])])).getD d []
          rw [List.getD_eq_getElem?_getD, h1' d hlt, ← List.getD_eq_getElem?_getD]
          exact hj
        · rw [List.getD_eq_getElem?_getD, List.getElem?_eq_none (by omega)] at hj
          simp at hj
    | succ k =>
      refine h2 k p (by simpa using hp) j ?_
      rw [List.length_append, List.length_singleton, Nat.add_assoc, Nat.add_comm 1 k]
      exact hj

theorem anOf_spec {ops : Array Oper} {i : Nat} {o : Oper} (h : ops[i]? = some o) {j : Nat} (hj : j ∈ anOf ops i) : j ∈ dsOf o ∨ ∃ d ∈ dsOf o, j ∈ anOf ops d := by
  have := (ancs_spec ops.toList []).2 i o (by simpa using h) j
  simp only [List.length_nil, Nat.zero_add] at this
  exact this hj

theorem backward_spec : ∀ (os : List Oper) (k : Nat), backward os k = true → ∀ (i : Nat) (o : Oper), os[i]? = some o → ∀ e ∈ o.after, Region.binds .any e = true → e.on < k + i
  | [], _, _, i, o, h => by simp at h
  | p :: os, k, hb, i, o, h => by
    simp only [backward, Bool.and_eq_true, List.all_eq_true] at hb
    intro e he hbe
    cases i with
    | zero =>
      simp only [List.getElem?_cons_zero, Option.some.injEq] at h; subst h
      have := hb.1 e (by simpa using he)
      simpa [hbe] using this
    | succ i =>
      have := backward_spec os (k + 1) hb.2 i o (by simpa using h) e he hbe
      omega

section
variable {ops : Array Oper}

def cnt (ops : Array Oper) (listed : Array Bool) : Nat := ((List.range ops.size).filter fun j => !listed.getD j true).length

theorem cnt_set {listed : Array Bool} {i : Nat} (hi : i < ops.size) (h : listed.getD i true = false) : cnt ops (listed.setIfInBounds i true) < cnt ops listed := by
  have hlt : i < listed.size := by
    rcases Nat.lt_or_ge i listed.size with h' | h'
    · exact h'
    · simp [Array.getElem?_eq_none h'] at h
  have e : (List.range ops.size).filter (fun j => !(listed.setIfInBounds i true).getD j true) = ((List.range ops.size).filter fun j => !listed.getD j true).filter fun j => decide (j ≠ i) := by
    rw [List.filter_filter]
    apply List.filter_congr
    intro j _
    by_cases hj : i = j
    · subst hj; simp [hlt]
    · rw [getD_set_ne true hj]
      simp [Ne.symm hj]
  unfold cnt
  rw [e, List.length_filter_lt_length_iff_exists]
  exact ⟨i, List.mem_filter.2 ⟨List.mem_range.2 hi, by rw [h]; rfl⟩, by simp⟩

theorem ready_ne {listed : Array Bool} (hb : backward ops.toList 0 = true) (hsz : listed.size = ops.size) : ∀ j, j < ops.size → listed.getD j true = false → Region.ready .any ops listed ≠ [] := by
  intro j
  induction j using Nat.strongRecOn with
  | _ j ih =>
    intro hj hl
    have ho : ops[j]? = some ops[j] := Array.getElem?_eq_getElem hj
    by_cases hall : ∀ e ∈ ops[j].after, Region.binds .any e = true → listed.getD e.on false = true
    · intro hr
      have : j ∈ Region.ready .any ops listed := mem_ready.2 ⟨hl, _, ho, hall⟩
      rw [hr] at this; simp at this
    · obtain ⟨e, h1⟩ := Classical.not_forall.1 hall
      obtain ⟨he, h2⟩ := Classical.not_forall.1 h1
      obtain ⟨hbe, hne⟩ := Classical.not_forall.1 h2
      have hlt := backward_spec ops.toList 0 hb j _ (by simp) e he hbe
      refine ih e.on (by omega) (by omega) ?_
      have h3 : e.on < listed.size := by omega
      cases hv : listed[e.on] with
      | true => simp [h3, hv] at hne
      | false => simp [h3, hv]

theorem lin_ok (hb : backward ops.toList 0 = true) : ∀ (fuel t : Nat) (listed : Array Bool), listed.size = ops.size → (∀ i, listed.getD i false = true → ∀ j ∈ anOf ops i, listed.getD j false = true) → cnt ops listed ≤ fuel →
    (∀ i ∈ Region.linearise.go .any ops fuel t listed [], listed.getD i true = false) ∧ (Region.linearise.go .any ops fuel t listed []).Nodup ∧
    (Region.linearise.go .any ops fuel t listed []).Pairwise (fun i j => ¬ j ∈ anOf ops i) ∧ (∀ j, j < ops.size → listed.getD j true = false → j ∈ Region.linearise.go .any ops fuel t listed []) := by
  intro fuel
  induction fuel with
  | zero =>
    intro t listed hsz hcl hc
    simp only [Region.linearise.go, List.reverse_nil]
    refine ⟨fun i hi => by simp at hi, List.nodup_nil, List.Pairwise.nil, fun j hj hl => ?_⟩
    exfalso
    have : j ∈ (List.range ops.size).filter fun j => !listed.getD j true := by simp [hj]; simpa using hl
    have h0 : cnt ops listed = 0 := by omega
    unfold cnt at h0
    rw [List.length_eq_zero_iff.1 h0] at this
    simp at this
  | succ fuel ih =>
    intro t listed hsz hcl hc
    simp only [Region.linearise.go]
    change (∀ i ∈ (match (Region.ready .any ops listed)[t % (Region.ready .any ops listed).length]? with
      | some i => Region.linearise.go .any ops fuel (t / (Region.ready .any ops listed).length) (listed.setIfInBounds i true) [i]
      | none => [].reverse), listed.getD i true = false) ∧ (match (Region.ready .any ops listed)[t % (Region.ready .any ops listed).length]? with
      | some i => Region.linearise.go .any ops fuel (t / (Region.ready .any ops listed).length) (listed.setIfInBounds i true) [i]
      | none => [].reverse).Nodup ∧ (match (Region.ready .any ops listed)[t % (Region.ready .any ops listed).length]? with
      | some i => Region.linearise.go .any ops fuel (t / (Region.ready .any ops listed).length) (listed.setIfInBounds i true) [i]
      | none => [].reverse).Pairwise (fun i j => ¬ j ∈ anOf ops i) ∧ (∀ j, j < ops.size → listed.getD j true = false → j ∈ (match (Region.ready .any ops listed)[t % (Region.ready .any ops listed).length]? with
      | some i => Region.linearise.go .any ops fuel (t / (Region.ready .any ops listed).length) (listed.setIfInBounds i true) [i]
      | none => [].reverse))
    cases hi : (Region.ready .any ops listed)[t % (Region.ready .any ops listed).length]? with
    | none =>
      have hnil : Region.ready .any ops listed = [] := by
        cases hr : Region.ready .any ops listed with
        | nil => rfl
        | cons x xs =>
          rw [hr] at hi
          have hlt : t % (x :: xs).length < (x :: xs).length := Nat.mod_lt _ (by simp)
          simp at hi
          simp at hlt
          omega
      simp only [List.reverse_nil]
      exact ⟨fun i hi => by simp at hi, List.nodup_nil, List.Pairwise.nil, fun j hj hl => absurd hnil (ready_ne hb hsz j hj hl)⟩
    | some i =>
      simp only []
      rw [linearise_go_acc, List.reverse_singleton, List.singleton_append]
      obtain ⟨h0, o, ho, hall⟩ := mem_ready.1 (List.mem_of_getElem? hi)
      have hlt : i < ops.size := (Array.getElem?_eq_some_iff.1 ho).1
      have han : ∀ j ∈ anOf ops i, listed.getD j false = true := by
        intro j hj
        have hds : ∀ d ∈ dsOf o, listed.getD d false = true := by
          intro d hd
          simp only [dsOf, List.mem_map, List.mem_filter] at hd
          obtain ⟨e, ⟨he1, he2⟩, rfl⟩ := hd
          exact hall e (by simpa using he1) he2
        rcases anOf_spec ho hj with q | ⟨d, q1, q2⟩
        · exact hds j q
        · exact hcl d (hds d q1) j q2
      have hget : ∀ j, (listed.setIfInBounds i true).getD j false = true → j = i ∨ listed.getD j false = true := by
        intro j hj
        by_cases hji : i = j
        · exact .inl hji.symm
        · rw [getD_set_ne false hji] at hj; exact .inr hj
      have hc2 := cnt_set hlt h0
      obtain ⟨r1, r2, r3, r4⟩ := ih (t / (Region.ready .any ops listed).length) (listed.setIfInBounds i true) (by simpa using hsz) (fun k hk j hj => by
        rcases hget k hk with rfl | hk
        · exact getD_set_true (han j hj)
        · exact getD_set_true (hcl k hk j hj)) (by omega)
      have hunl : ∀ j, (listed.setIfInBounds i true).getD j true = false → j ≠ i ∧ listed.getD j true = false := by
        intro j hj
        by_cases hji : i = j
        · subst hji
          have : i < listed.size := by omega
          simp [this] at hj
        · rw [getD_set_ne true hji] at hj; exact ⟨Ne.symm hji, hj⟩
      refine ⟨fun j hj => ?_, List.nodup_cons.2 ⟨fun hm => (hunl i (r1 i hm)).1 rfl, r2⟩, List.pairwise_cons.2 ⟨fun j hj ha => ?_, r3⟩, fun j hj hl => ?_⟩
      · rcases List.mem_cons.1 hj with rfl | hj
        · exact h0
        · exact (hunl j (r1 j hj)).2
      · have h1 := han j ha
        have h2 := (hunl j (r1 j hj)).2
        rcases Nat.lt_or_ge j listed.size with h' | h'
        · simp [h'] at h1 h2; rw [h1] at h2; simp at h2
        · simp [Array.getElem?_eq_none h'] at h2
      · by_cases hji : i = j
        · subst hji; simp
        · exact List.mem_cons_of_mem _ (r4 j hj (by rw [getD_set_ne true hji]; exact hl))

end
end Go.AM
