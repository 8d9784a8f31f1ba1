/- Two operations that are apart may change places. Own work of this project. -/
import Derived.Test.YtikchlfbjdfioaaAmT
namespace Go.AM

/-! ### Lists in order -/
theorem ascH_lo {H : AHeap} : ∀ {lo : Nat}, ascH lo H = true → ∀ {j b}, hget H j = some b → lo ≤ j := by
  induction H with
  | nil => intro lo _ j b h; simp [hget_n] at h
  | cons x t ih =>
    obtain ⟨k, c⟩ := x
    intro lo h j b hj
    simp only [ascH_c, Bool.and_eq_true, ble_iff] at h
    rw [hget_cons] at hj
    split at hj
    · omega
    · have := ih h.2 hj; omega

theorem ascH_mono {H : AHeap} {lo lo' : Nat} (h : ascH lo H = true) (hl : lo' ≤ lo) : ascH lo' H = true := by
  cases H with
  | nil => rfl
  | cons x t =>
    obtain ⟨k, c⟩ := x
    simp only [ascH_c, Bool.and_eq_true, ble_iff] at h ⊢
    exact ⟨by omega, h.2⟩

theorem asc_hset {H : AHeap} : ∀ {lo i : Nat} {b : Blk}, ascH lo H = true → lo ≤ i → ascH lo (hset H i b) = true := by
  induction H with
  | nil => intro lo i b _ hi; simp only [hset_n, ascH_n, ascH_c, Bool.and_eq_true, ble_iff]; exact ⟨hi, trivial⟩
  | cons x t ih =>
    obtain ⟨k, c⟩ := x
    intro lo i b h hi
    simp only [ascH_c, Bool.and_eq_true, ble_iff] at h
    simp only [hset_c]
    by_cases h1 : k = i
    · subst h1
      simp only [beqT, cond_true, ascH_c, Bool.and_eq_true, ble_iff]; exact h
    · by_cases h2 : k ≤ i
      · simp only [beqF h1, bleT h2, cond_true, cond_false, ascH_c, Bool.and_eq_true, ble_iff]
        exact ⟨h.1, ih h.2 (by omega)⟩
      · simp only [beqF h1, bleF h2, cond_false, ascH_c, Bool.and_eq_true, ble_iff]
        exact ⟨hi, by omega, h.2⟩

theorem asc_ext : ∀ {H H' : AHeap} {lo lo' : Nat}, ascH lo H = true → ascH lo' H' = true → (∀ j, hget H j = hget H' j) → H = H'
  | [], [], _, _, _, _, _ => rfl
  | [], (k, c) :: t, _, _, _, _, h => by have := h k; simp [hget_n, hget_c] at this
  | (k, c) :: t, [], _, _, _, _, h => by have := h k; simp [hget_n, hget_c] at this
  | (k, c) :: t, (k', c') :: t', lo, lo', h1, h2, h => by
    simp only [ascH_c, Bool.and_eq_true, ble_iff] at h1 h2
    have e1 := h k
    have e2 := h k'
    simp only [hget_cons, if_true] at e1 e2
    have hk : k = k' := by
      by_cases hk : k = k'
      · exact hk
      · rw [if_neg hk] at e1
        rw [if_neg (Ne.symm hk)] at e2
        have := ascH_lo h2.2 e1.symm
        have := ascH_lo h1.2 e2
        omega
    subst hk
    simp only [if_true, Option.some.injEq] at e1
    subst e1
    rw [asc_ext h1.2 h2.2 (fun j => ?_)]
    have ej := h j
    simp only [hget_cons] at ej
    by_cases hj : j = k
    · subst hj
      cases ha : hget t j with
      | some b => have := ascH_lo h1.2 ha; omega
      | none =>
        cases hb : hget t' j with
        | some b => have := ascH_lo h2.2 hb; omega
        | none => rfl
    · rwa [if_neg hj, if_neg hj] at ej

theorem asc_upds : ∀ (us : Ups) {H : AHeap}, ascH 0 H = true → ascH 0 (upds H us) = true
  | [], _, h => h
  | (_, _) :: us, _, h => asc_upds us (asc_hset h (Nat.zero_le _))

theorem hget_upds_ne : ∀ (us : Ups) (H H' : AHeap), (∀ j, hget H j = hget H' j) → ∀ j, hget (upds H us) j = hget (upds H' us) j
  | [], _, _, h, j => h j
  | (i, b) :: us, H, H', h, j => hget_upds_ne us _ _ (fun k => by rw [hget_hset, hget_hset, h k]) j

theorem hget_upds_in : ∀ (us : Ups) (H H' : AHeap) (j : Nat), j ∈ us.map (·.1) → hget (upds H us) j = hget (upds H' us) j
  | [], _, _, _, h => by simp at h
  | (i, b) :: us, H, H', j, h => by
    simp only [upds]
    by_cases hm : j ∈ us.map (·.1)
    · exact hget_upds_in us _ _ j hm
    · have : j = i := by simpa [hm] using h
      subst this
      rw [hget_upds_not us _ j hm, hget_upds_not us _ j hm, hget_hset, hget_hset, if_pos rfl, if_pos rfl]

theorem upds_comm {H : AHeap} (hs : ascH 0 H = true) (us vs : Ups) (hd : ∀ x ∈ us.map (·.1), x ∉ vs.map (·.1)) : upds (upds H us) vs = upds (upds H vs) us := by
  refine asc_ext (lo := 0) (lo' := 0) (asc_upds vs (asc_upds us hs)) (asc_upds us (asc_upds vs hs)) (fun j => ?_)
  by_cases h1 : j ∈ us.map (·.1)
  · rw [hget_upds_not vs _ j (hd j h1)]
    exact hget_upds_in us _ _ j h1
  · rw [hget_upds_not us _ j h1]
    by_cases h2 : j ∈ vs.map (·.1)
    · exact hget_upds_in vs _ _ j h2
    · rw [hget_upds_not vs _ j h2, hget_upds_not vs _ j h2, hget_upds_not us _ j h1]

theorem fput_comm : ∀ {φ : AFr} {hi i j : Nat} {a b : AV}, descF hi φ = true → i ≠ j → fput (fput φ i a) j b = fput (fput φ j b) i a
  | [], hi, i, j, a, b, _, h => by
    by_cases h1 : j ≤ i
    · simp [fput_n, fput_c, beqF h, bleT h1, beqF (Ne.symm h), bleF (show ¬ i ≤ j from by omega)]
    · simp [fput_n, fput_c, beqF h, bleF h1, beqF (Ne.symm h), bleT (show i ≤ j from by omega)]
  | (k, c) :: t, hi, i, j, a, b, hd, h => by
    simp only [descF_c, Bool.and_eq_true, ble_iff] at hd
    have ih := fput_comm (i := i) (j := j) (a := a) (b := b) hd.2 h
    by_cases hi1 : k = i
    · subst hi1
      by_cases hj2 : j ≤ k
      · simp [fput_c, beqF h, bleT hj2]
      · simp [fput_c, beqF h, bleF hj2, beqF (Ne.symm h), bleT (show k ≤ j from by omega)]
    · by_cases hj1 : k = j
      · subst hj1
        by_cases hi2 : i ≤ k
        · simp [fput_c, beqF hi1, bleT hi2]
        · simp [fput_c, beqF hi1, bleF hi2, beqF h, bleT (show k ≤ i from by omega)]
      · by_cases hi2 : i ≤ k
        · by_cases hj2 : j ≤ k
          · simp [fput_c, beqF hi1, beqF hj1, bleT hi2, bleT hj2, ih]
          · simp [fput_c, beqF hi1, beqF hj1, bleT hi2, bleF hj2, beqF (Ne.symm h), bleT (show i ≤ j from by omega)]
        · by_cases hj2 : j ≤ k
          · simp [fput_c, beqF hi1, beqF hj1, bleF hi2, bleT hj2, beqF h, bleT (show j ≤ i from by omega)]
          · by_cases hij : j ≤ i
            · simp [fput_c, beqF hi1, beqF hj1, bleF hi2, bleF hj2, beqF h, bleT hij, beqF (Ne.symm h), bleF (show ¬ i ≤ j from by omega)]
            · simp [fput_c, beqF hi1, beqF hj1, bleF hi2, bleF hj2, beqF h, bleF hij, beqF (Ne.symm h), bleT (show i ≤ j from by omega)]

/-! ### Looks at a heap that differs elsewhere -/
theorem Rd.congr {α : Type} (r : Rd α) (H H' : AHeap) (h : ∀ i ∈ r.foot H, hget H' i = hget H i) : r.run H' = r.run H ∧ r.foot H' = r.foot H := by
  induction r with
  | pure a => exact ⟨rfl, rfl⟩
  | fail => exact ⟨rfl, rfl⟩
  | get i k ih =>
    have hi := h i (by simp [Rd.foot])
    obtain ⟨h1, h2⟩ := ih (hget H i) (fun j hj => h j (by simp [Rd.foot, hj]))
    exact ⟨by simp only [Rd.run, hi, h1], by simp only [Rd.foot, hi, h2]⟩

/-! ### What an operation is, once the slots are known that it looks at -/
inductive Ak where
  | const (v : AV)
  | rd (r : Rd (AV × Ups))
  | own (f : FuncId) (args : List AV)

section
variable (E : Env) (C : Callee) (B n : Nat) (ops : Array Oper)

noncomputable def actG (o : Oper) (φ : AFr) : Ak :=
  match o.op with
  | .move x => .const (evO E φ x)
  | .assign x => .const (evO E φ x)
  | .call c => match mutC E φ c with
    | some (f, args) => .own f args
    | none => .rd (aOp E C (siteOf B n o) φ o)
  | _ => .rd (aOp E C (siteOf B n o) φ o)
noncomputable def act (o : Oper) (φ : AFr) : Option Ak :=
  match o.guard with
  | none => some (actG E C B n o φ)
  | some _ => match wantA ops φ o with
    | none => none
    | some false => some (.const (.tup []))
    | some true => some (actG E C B n o φ)
noncomputable def runK (k : Ak) (H : AHeap) : Option (AV × AHeap) :=
  match k with
  | .const v => some (v, H)
  | .rd r => match r.run H with
    | some (v, us) => some (v, upds H us)
    | none => none
  | .own f args => C f args H (B + n * 8)
noncomputable def trK (k : Ak) (H : AHeap) : Tr :=
  match k with
  | .const _ => ⟨false, [], []⟩
  | .rd r => match r.run H with
    | some (_, us) => ⟨false, r.foot H, us.map (·.1)⟩
    | none => ⟨true, [], []⟩
  | .own .. => ⟨true, [], []⟩
noncomputable def stepK (k : Option Ak) (o : Oper) (s : St) : Option St :=
  match k with
  | none => none
  | some k => match runK C B n k s.2 with
    | some (v, H) => fin n o s.1 v H
    | none => none
end

section
variable {E : Env} {C : Callee} {B n : Nat} {ops : Array Oper}

theorem goA_eq (o : Oper) (s : St) : goA E C B n o s = stepK C B n (some (actG E C B n o s.1)) o s := by
  have hR : goR E C B n o s = stepK C B n (some (.rd (aOp E C (siteOf B n o) s.1 o))) o s := by
    simp only [goR, stepK, runK]
    cases (aOp E C (siteOf B n o) s.1 o).run s.2 with
    | none => rfl
    | some x => rfl
  unfold goA actG
  cases ho : o.op <;> simp only <;> try exact hR
  · rfl
  · rfl
  · rename_i c
    cases hm : mutC E s.1 c with
    | none => exact hR
    | some x =>
      obtain ⟨f, args⟩ := x
      simp only [goM, stepK, runK]
      cases C f args s.2 (B + n * 8) with
      | none => rfl
      | some y => rfl

theorem stepA_eq (o : Oper) (s : St) : stepA E C B n ops o s = stepK C B n (act E C B n ops o s.1) o s := by
  unfold stepA act
  cases hg : o.guard with
  | none => exact goA_eq o s
  | some x =>
    simp only
    cases hw : wantA ops s.1 o with
    | none => rfl
    | some b =>
      cases b
      · simp only [stepK, runK]
      · exact goA_eq o s

theorem trG_eq (o : Oper) (s : St) : trG E C B n o s = trK (actG E C B n o s.1) s.2 := by
  have hR : trR E C B n o s = trK (.rd (aOp E C (siteOf B n o) s.1 o)) s.2 := by
    simp only [trR, trK]
    cases (aOp E C (siteOf B n o) s.1 o).run s.2 with
    | none => rfl
    | some x => rfl
  unfold trG actG
  cases ho : o.op <;> simp only <;> try exact hR
  · rfl
  · rfl
  · rename_i c
    cases hm : mutC E s.1 c with
    | none => exact hR
    | some x => rfl

theorem trA_eq (o : Oper) (s : St) {k : Ak} (h : act E C B n ops o s.1 = some k) : trA E C B n ops o s = trK k s.2 := by
  unfold act at h
  unfold trA
  cases hg : o.guard with
  | none => rw [hg] at h; simp only [Option.some.injEq] at h; subst h; exact trG_eq o s
  | some x =>
    rw [hg] at h
    simp only at h ⊢
    cases hw : wantA ops s.1 o with
    | none => rw [hw] at h; simp at h
    | some b =>
      rw [hw] at h
      cases b
      · simp only [Option.some.injEq] at h; subst h; rfl
      · simp only [Option.some.injEq] at h; subst h; exact trG_eq o s

theorem disj_spec {a b : List Nat} (h : disj a b = true) : ∀ x ∈ a, x ∉ b := by
  intro x hx hb
  unfold disj at h
  rw [List.all_eq_true] at h
  have := h x hx
  simp [hb] at this

theorem trK_empty {k : Ak} {H : AHeap} {x : AV × AHeap} (h : runK C B n k H = some x) (he : (trK k H).empty = true) : x.2 = H ∧ ∀ H', runK C B n k H' = some (x.1, H') ∧ trK k H' = trK k H := by
  cases k with
  | const v =>
    simp only [runK, Option.some.injEq] at h; subst h
    exact ⟨rfl, fun _ => ⟨rfl, rfl⟩⟩
  | rd r =>
    simp only [runK, trK] at h he ⊢
    cases hr : r.run H with
    | none => rw [hr] at h; simp at h
    | some y =>
      obtain ⟨v, us⟩ := y
      rw [hr] at h he
      simp only [Option.some.injEq] at h; subst h
      simp only [Tr.empty, Bool.and_eq_true, List.isEmpty_iff, Bool.not_false, List.map_eq_nil_iff] at he
      obtain ⟨⟨_, h1⟩, h2⟩ := he
      subst h2
      refine ⟨rfl, fun H' => ?_⟩
      obtain ⟨q1, q2⟩ := Rd.congr r H H' (fun i hi => by rw [h1] at hi; simp at hi)
      rw [q1, hr, q2]
      exact ⟨rfl, rfl⟩
  | own f args => simp [trK, Tr.empty] at he

theorem swapK {k i : Ak} {H : AHeap} {x y : AV × AHeap} (hs : ascH 0 H = true) (h1 : runK C B n k H = some x) (h2 : runK C B n i x.2 = some y) (ha : apartT (trK k H) (trK i x.2) = true) (hy : ascH 0 y.2 = true) :
    ∃ H', ascH 0 H' = true ∧ runK C B n i H = some (y.1, H') ∧ runK C B n k H' = some (x.1, y.2) ∧ trK i H = trK i x.2 ∧ trK k H' = trK k H := by
  simp only [apartT, Bool.and_eq_true, Bool.or_eq_true, Bool.not_eq_true'] at ha
  obtain ⟨⟨⟨⟨a1, a2⟩, a3⟩, a4⟩, a5⟩ := ha
  by_cases hk : (trK k H).empty = true
  · obtain ⟨e1, e2⟩ := trK_empty h1 hk
    rw [e1] at h2
    obtain ⟨v, H'⟩ := y
    exact ⟨H', hy, h2, (e2 H').1, by rw [e1], (e2 H').2⟩
  · by_cases hi : (trK i x.2).empty = true
    · obtain ⟨e1, e2⟩ := trK_empty h2 hi
      obtain ⟨v, H1⟩ := x
      obtain ⟨u, H2⟩ := y
      simp only at e1; subst e1
      exact ⟨H, hs, (e2 H).1, h1, (e2 H).2, rfl⟩
    · -- both look
      have b1 : (trK k H).all = false := a1.resolve_right hi
      have b2 : (trK i x.2).all = false := a2.resolve_right hk
      cases k with
      | const v => simp [trK, Tr.empty] at hk
      | own f args => simp [trK] at b1
      | rd r =>
        cases i with
        | const v => simp [trK, Tr.empty] at hi
        | own f args => simp [trK] at b2
        | rd q =>
          simp only [runK, trK] at *
          cases hr : r.run H with
          | none => rw [hr] at h1; simp at h1
          | some p =>
            obtain ⟨v, us⟩ := p
            rw [hr] at h1 a3 a4 a5
            simp only [Option.some.injEq] at h1; subst h1
            simp only at h2 a3 a4 a5 ⊢
            cases hq : q.run (upds H us) with
            | none => rw [hq] at h2; simp at h2
            | some p =>
              obtain ⟨u, vs⟩ := p
              rw [hq] at h2 a3 a4 a5
              simp only [Option.some.injEq] at h2; subst h2
              simp only at a3 a4 a5 ⊢
              obtain ⟨c1, c2⟩ := Rd.congr q (upds H us) H (fun j hj => by
                rw [hget_upds_not us H j]
                intro hm
                exact disj_spec a4 j hm hj)
              obtain ⟨d1, d2⟩ := Rd.congr r H (upds H vs) (fun j hj => by
                rw [hget_upds_not vs H j]
                intro hm
                exact disj_spec a5 j hm hj)
              rw [c1, hq, c2]
              refine ⟨upds H vs, asc_upds vs hs, rfl, ?_, rfl, ?_⟩
              · rw [d1, hr]
                simp only [Option.some.injEq, Prod.mk.injEq, true_and]
                exact (upds_comm hs us vs (disj_spec a3)).symm
              · rw [d1, hr, d2]

end
end Go.AM
