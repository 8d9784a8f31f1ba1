/- Code and calls: the machine does what the abstract one told. Own work of this project. -/
import Derived.Test.YtikchlfbjdfioaaAmX
import Derived.Scope
import Derived.Deep.LoopGhost
namespace Go.AM
section
variable {P : Program} {E : Env} {C : Callee} {n : Nat}

/-! ### Blocks that are dropped -/
def held (H : AHeap) (i : Nat) : Prop := ∃ b, hget H i = some b

mutual
theorem refs_held {g : Gh} : ∀ (a : AV) (v : Value), g.R a v → ∀ i ∈ refsOf a, held g.H i
  | .int .., _, _, i, hi => by simp [refsOf] at hi
  | .bool .., _, _, i, hi => by simp [refsOf] at hi
  | .str .., _, _, i, hi => by simp [refsOf] at hi
  | .nilsl, _, _, i, hi => by simp [refsOf] at hi
  | .nilptr, _, _, i, hi => by simp [refsOf] at hi
  | .nilfunc, _, _, i, hi => by simp [refsOf] at hi
  | .nilmap, _, _, i, hi => by simp [refsOf] at hi
  | .any, _, _, i, hi => by simp [refsOf] at hi
  | .imm .., _, _, i, hi => by simp [refsOf] at hi
  | .iptr .., _, _, i, hi => by simp [refsOf] at hi
  | .agg vs, _, h, i, hi => by
    simp only [Gh.R, VR] at h; obtain ⟨A, _, h⟩ := h
    exact refsO_held vs _ h i (by simpa only [refsOf] using hi)
  | .tup vs, _, h, i, hi => by
    simp only [Gh.R, VR] at h; obtain ⟨A, _, h⟩ := h
    exact refsS_held vs _ h i (by simpa only [refsOf] using hi)
  | .bnd f vs, _, h, i, hi => by
    simp only [Gh.R, VR] at h; obtain ⟨A, _, h⟩ := h
    exact refsS_held vs _ h i (by simpa only [refsOf] using hi)
  | .clo f vs, _, h, i, hi => by
    simp only [Gh.R, VR] at h; obtain ⟨A, _, h⟩ := h
    exact refsS_held vs _ h i (by simpa only [refsOf] using hi)
  | .ref .., _, h, i, hi => by
    simp only [Gh.R, VR, RF] at h
    simp only [refsOf, List.mem_singleton] at hi
    subst hi
    obtain ⟨_, b, h1, _⟩ := h
    exact ⟨b, h1⟩
  | .ptr .., _, h, i, hi => by
    simp only [Gh.R, VR, RF] at h
    simp only [refsOf, List.mem_singleton] at hi
    subst hi
    obtain ⟨_, b, h1, _⟩ := h
    exact ⟨b, h1⟩
  | .mapv .., _, h, i, hi => by
    simp only [Gh.R, VR, RF] at h
    simp only [refsOf, List.mem_singleton] at hi
    subst hi
    obtain ⟨_, b, h1, _⟩ := h
    exact ⟨b, h1⟩
theorem refsS_held {g : Gh} : ∀ (as : List AV) (vs : List Value), VRs g.fz g.w as (RF g) vs → ∀ i ∈ refsL as, held g.H i
  | [], _, _, i, hi => by simp [refsL] at hi
  | a :: as, _, h, i, hi => by
    simp only [VRs] at h; obtain ⟨v, t, _, h1, h2⟩ := h
    simp only [refsL, List.mem_append] at hi
    exact hi.elim (refs_held a v h1 i) (refsS_held as t h2 i)
theorem refsO_held {g : Gh} : ∀ (as : List AV) (vs : List Value), VRo g.fz g.w as (RF g) vs → ∀ i ∈ refsL as, held g.H i
  | [], _, _, i, hi => by simp [refsL] at hi
  | a :: as, _, h, i, hi => by
    simp only [VRo] at h; obtain ⟨v, t, _, _, h1, h2⟩ := h
    simp only [refsL, List.mem_append] at hi
    exact hi.elim (refs_held a v h1 i) (refsO_held as t h2 i)
end

theorem hget_keepB (E0 : AHeap) (keep : List Nat) (H : AHeap) (i : Nat) : hget (keepB E0 keep H) i = if (keep.elem i || (hget E0 i).isSome) = true then hget H i else none := by
  induction H with
  | nil => simp [keepB, hget_n]
  | cons x t ih =>
    obtain ⟨k, b⟩ := x
    simp only [keepB]
    cases hc : (keep.elem k || (hget E0 k).isSome) with
    | true =>
      simp only [cond_true, hget_cons]
      by_cases hi : i = k
      · subst hi; rw [if_pos rfl, if_pos rfl, if_pos hc]
      · rw [if_neg hi, if_neg hi, ih]
    | false =>
      simp only [cond_false, hget_cons]
      by_cases hi : i = k
      · subst hi; rw [ih, if_neg (by rw [hc]; simp), if_neg (by rw [hc]; simp)]
      · rw [if_neg hi, ih]

theorem allHeld_spec {H : AHeap} : ∀ {l : List Nat}, allHeld H l = true → ∀ i ∈ l, held H i
  | [], _, i, hi => by simp at hi
  | j :: l, h, i, hi => by
    simp only [allHeld, Bool.and_eq_true, Option.isSome_iff_exists] at h
    rcases List.mem_cons.1 hi with rfl | hi
    · exact h.1
    · exact allHeld_spec h.2 i hi

theorem closedH_spec {H : AHeap} : ∀ {t : AHeap}, closedH H t = true → ∀ i b, hget t i = some b → b.st = .box → ∀ j ∈ refsL b.cells, held H j
  | [], _, i, b, h => by simp [hget_n] at h
  | (k, ⟨st, cs⟩) :: t, hc, i, b, h => by
    rw [hget_cons] at h
    have htail : closedH H t = true := by
      cases st <;> simp only [closedH, Bool.and_eq_true] at hc
      · exact hc.2
      · exact hc
      · exact hc
      · exact hc
    split at h
    · obtain rfl := Option.some.inj h
      intro hst
      simp only at hst
      subst hst
      simp only [closedH, Bool.and_eq_true] at hc
      exact allHeld_spec hc.1
    · exact closedH_spec htail i b h

theorem refsF_spec : ∀ {φ : AFr} {i j : Nat}, j ∈ refsOf (fget φ i) → j ∈ refsF φ
  | [], i, j, h => by simp [fget_n, refsOf] at h
  | (k, a) :: t, i, j, h => by
    rw [fget_cons] at h
    simp only [refsF, List.mem_append]
    split at h
    · exact .inl h
    · exact .inr (refsF_spec h)

theorem gc_ok {g0 g : Gh} {φ : AFr} {a : Act} (hI : Inv E g) (hA : Adv g0 g) (hst : ST n g φ a) : ∃ g', g'.w = g.w ∧ g'.H = (headA g0.H (φ, g.H)).2 ∧ Inv E g' ∧ Adv g0 g' ∧ ST n g' (headA g0.H (φ, g.H)).1 a := by
  simp only [headA]
  generalize hk : mark g.H 1000 (refsF φ) [] = keep
  unfold gcIf
  cases hc : closedB φ (keepB g0.H keep g.H) with
  | false => exact ⟨g, rfl, rfl, hI, hA, hst⟩
  | true =>
    simp only [closedB, Bool.and_eq_true] at hc
    have hsub : ∀ i b, hget (keepB g0.H keep g.H) i = some b → hget g.H i = some b := by
      intro i b h
      rw [hget_keepB] at h
      split at h
      · exact h
      · exact absurd h (by simp)
    have hrf : ∀ x v, (∀ i ∈ refsOf x, held (keepB g0.H keep g.H) i) → RF g x v → RF { g with H := keepB g0.H keep g.H } x v := by
      intro x v hh h
      cases x <;> simp only [RF] at h ⊢ <;> try exact h
      · rename_i i off len cap gl sz ex
        obtain ⟨b, h1, h2⟩ := h
        obtain ⟨b', h3⟩ := hh i (by simp [refsOf])
        have := hsub i b' h3
        rw [h1] at this; obtain rfl := Option.some.inj this
        exact ⟨b, h3, h2⟩
      · rename_i i off gl
        obtain ⟨b, h1, h2⟩ := h
        obtain ⟨b', h3⟩ := hh i (by simp [refsOf])
        have := hsub i b' h3
        rw [h1] at this; obtain rfl := Option.some.inj this
        exact ⟨b, h3, h2⟩
      · rename_i i
        obtain ⟨b, h1, h2⟩ := h
        obtain ⟨b', h3⟩ := hh i (by simp [refsOf])
        have := hsub i b' h3
        rw [h1] at this; obtain rfl := Option.some.inj this
        exact ⟨b, h3, h2⟩
    have hf : ∀ k, g.fz k → g.fz k ∧ g.w.heap[k]? = g.w.heap[k]? := fun k hk => ⟨hk, rfl⟩
    refine ⟨{ g with H := keepB g0.H keep g.H }, rfl, rfl, ⟨fun id b h => ?_, fun id id' b b' h h' => hI.inj id id' b b' (hsub _ _ h) (hsub _ _ h'), fun id b h => hI.opn id b (hsub _ _ h), fun id b h => hI.frz id b (hsub _ _ h), hI.lt, hI.glob⟩,
      ⟨fun x v h => ?_, hA.os, hA.tape, hA.out, hA.size, hA.old, ?_, hA.fz', hA.fz2⟩, ⟨fun i => ?_, hst.def_, hst.size⟩⟩
    · by_cases hm : b.st = .mp
      · obtain ⟨es, h1, h2⟩ := (hI.blk id b (hsub _ _ h)).map hm
        exact lies_map hm ⟨es, h1, h2⟩
      · obtain ⟨cs, t, h1, h2⟩ := (hI.blk id b (hsub _ _ h)).cells hm
        refine lies_of hm ⟨cs, t, h1, ?_⟩
        cases hb : b.st with
        | box =>
          rw [hb] at h2
          exact VRc.mono (K := held (keepB g0.H keep g.H)) hf hrf _ _ _ rfl (closedH_spec hc.2 id b h hb) h2
        | row => rw [hb] at h2; exact h2
        | froz => rw [hb] at h2; exact h2
        | mp => exact absurd hb hm
    · refine VR.mono (K := held (keepB g0.H keep g.H)) hf hrf x v (fun i hi => ?_) (hA.vr x v h)
      obtain ⟨b, hb⟩ := refs_held x v h i hi
      obtain ⟨b2, hb2⟩ := refs_held x v (hA.vr x v h) i hi
      exact ⟨b2, by rw [hget_keepB, hb]; simpa using hb2⟩
    · rintro k ⟨id, b, h1, h2, h3⟩
      exact hA.wr' k ⟨id, b, hsub _ _ h1, h2, h3⟩
    · exact VR.mono (K := held (keepB g0.H keep g.H)) hf hrf _ _ (fun j hj => allHeld_spec hc.1 j (refsF_spec hj)) (hst.fr i)

theorem forget_ok {g : Gh} {φ : AFr} {a : Act} (hst : ST n g φ a) (l : List Nat) : ST n g (forget φ l) a := by
  refine ⟨fun i => ?_, hst.def_, hst.size⟩
  rcases fget_forget φ l i with h | h
  · rw [h]; exact hst.fr i
  · rw [h]; simp only [Gh.R, VR]

theorem gcM_ok {g0 g : Gh} {φ : AFr} {a : Act} (hI : Inv E g) (hA : Adv g0 g) (hst : ST n g φ a) (l : List Nat) : ∃ g', g'.w = g.w ∧ g'.H = (gcM g0.H l (φ, g.H)).2 ∧ Inv E g' ∧ Adv g0 g' ∧ ST n g' (gcM g0.H l (φ, g.H)).1 a := by
  unfold gcM
  split
  · exact gc_ok hI hA hst
  · exact ⟨g, rfl, rfl, hI, hA, hst⟩

/-! ### Code -/
def exM : Exit → Ex → Prop
  | .normal, .normal => True
  | .exit i, .exit j => i = j
  | .ret, .ret => True
  | _, _ => False

/-- Where a run has come to. -/
def At (E : Env) (n : Nat) (g0 : Gh) (r : Ex) (s : St) (e : Exit) (a : Act) (w : World) : Prop :=
  exM e r ∧ ∃ g, g.w = w ∧ g.H = s.2 ∧ Inv E g ∧ Adv g0 g ∧ ST n g s.1 a

def Good (P : Program) (E : Env) (n : Nat) (g0 : Gh) (c : Code) (f : St → Option (Ex × St)) : Prop :=
  ∀ (s : St) (r : Ex) (s' : St), f s = some (r, s') → ∀ (g : Gh) (a : Act), g.H = s.2 → Inv E g → Adv g0 g → ST n g s.1 a → c.wp P (At E n g0 r s') a g.w

theorem loop_ok {g0 : Gh} {c : Code} {f : St → Option (Ex × St)} (hf : Good P E n g0 c f) (N : Nat) : Good P E n g0 (.loop c) (iterA f (headA g0.H) N) := by
  intro s r s' h g a hH hI hA hst
  refine wp_loop_ghost (fun k a w => ∃ s g, g.w = w ∧ g.H = s.2 ∧ Inv E g ∧ Adv g0 g ∧ ST n g s.1 a ∧ iterA f (headA g0.H) k s = some (r, s')) N ⟨s, g, rfl, hH, hI, hA, hst, h⟩ ?_
  rintro k a w ⟨s, g, rfl, hH, hI, hA, hst, h⟩
  cases k with
  | zero => simp [iterA] at h
  | succ k =>
    obtain ⟨g1, e1, e2, e3, e4, e5⟩ := gc_ok hI hA hst
    have hs : (s.1, g.H) = s := by rw [hH]
    rw [hs] at e2 e5
    simp only [iterA] at h
    cases hb : f (headA g0.H s) with
    | none => rw [hb] at h; simp at h
    | some y =>
      obtain ⟨r1, s1⟩ := y
      have hg := hf _ r1 s1 hb g1 a e2 e3 e4 e5
      rw [e1] at hg
      refine wp_mono hg ?_
      rintro e a' w' ⟨q1, g2, q2, q3, q4, q5, q6⟩
      rw [hb] at h
      cases r1 with
      | normal =>
        simp only at h
        cases e <;> simp only [exM] at q1
        exact ⟨k, Nat.lt_succ_self k, s1, g2, q2, q3, q4, q5, q6, h⟩
      | exit i =>
        simp only [Option.some.injEq, Prod.mk.injEq] at h
        obtain ⟨rfl, rfl⟩ := h
        cases e <;> simp only [exM] at q1
        exact ⟨q1, g2, q2, q3, q4, q5, q6⟩
      | ret =>
        simp only [Option.some.injEq, Prod.mk.injEq] at h
        obtain ⟨rfl, rfl⟩ := h
        cases e <;> simp only [exM] at q1
        exact ⟨trivial, g2, q2, q3, q4, q5, q6⟩

theorem exec_ok (hE : EnvOK P E) (hC : CS P E C) (hm : P.follows .mixedOrders = true) (fg : Nat → List Nat) (B N : Nat) (g0 : Gh) : ∀ (c : Code), Good P E n g0 c (execA E C fg B n g0.H N c)
  | .skip => fun s r s' h g a hH hI hA hst => by
    simp only [execA, Option.some.injEq, Prod.mk.injEq] at h
    obtain ⟨rfl, rfl⟩ := h
    exact wp_skip ⟨trivial, g, rfl, hH, hI, hA, hst⟩
  | .label _ => fun s r s' h g a hH hI hA hst => by
    simp only [execA, Option.some.injEq, Prod.mk.injEq] at h
    obtain ⟨rfl, rfl⟩ := h
    exact wp_label ⟨trivial, g, rfl, hH, hI, hA, hst⟩
  | .region id ops draw => fun s r s' h g a hH hI hA hst => by
    simp only [execA] at h
    cases hr : regA E C B n ops s draw with
    | none => rw [hr] at h; simp at h
    | some s1 =>
      rw [hr] at h
      simp only [Option.some.injEq, Prod.mk.injEq] at h
      obtain ⟨rfl, rfl⟩ := h
      refine region_ok hE hC hm hI hst (by rw [hH]; exact hr) ?_
      intro a' g' k1 k2 k3 k4
      have k5 := forget_ok k4 (fg id)
      obtain ⟨g2, q1, q2, q3, q4, q5⟩ := gcM_ok k2 (hA.trans k3) k5 (fg id)
      rw [k1] at q2 q5
      exact ⟨trivial, g2, q1, q2, q3, q4, q5⟩
  | .seq x y => fun s r s' h g a hH hI hA hst => by
    simp only [execA] at h
    have ihx := exec_ok hE hC hm fg B N g0 x
    have ihy := exec_ok hE hC hm fg B N g0 y
    cases hx : execA E C fg B n g0.H N x s with
    | none => rw [hx] at h; simp at h
    | some z =>
      obtain ⟨r1, s1⟩ := z
      rw [hx] at h
      refine wp_seq (wp_mono (ihx s r1 s1 hx g a hH hI hA hst) ?_)
      rintro e a' w' ⟨q1, g2, rfl, q3, q4, q5, q6⟩
      cases r1 with
      | normal =>
        simp only at h
        cases e <;> simp only [exM] at q1
        exact ihy s1 r s' h g2 a' q3 q4 q5 q6
      | exit i =>
        simp only [Option.some.injEq, Prod.mk.injEq] at h
        obtain ⟨rfl, rfl⟩ := h
        cases e <;> simp only [exM] at q1
        exact ⟨q1, g2, rfl, q3, q4, q5, q6⟩
      | ret =>
        simp only [Option.some.injEq, Prod.mk.injEq] at h
        obtain ⟨rfl, rfl⟩ := h
        cases e <;> simp only [exM] at q1
        exact ⟨trivial, g2, rfl, q3, q4, q5, q6⟩
  | .cond c x y => fun s r s' h g a hH hI hA hst => by
    simp only [execA] at h
    have hc := ev_ok (E := E) hI hst.fr c
    split at h
    · rename_i he
      rw [he] at hc
      simp only [Gh.R, VR] at hc
      exact wp_cond_true hc (exec_ok hE hC hm fg B N g0 x s r s' h g a hH hI hA hst)
    · rename_i he
      rw [he] at hc
      simp only [Gh.R, VR] at hc
      exact wp_cond_false hc (exec_ok hE hC hm fg B N g0 y s r s' h g a hH hI hA hst)
    · exact absurd h (by simp)
  | .block id body => fun s r s' h g a hH hI hA hst => by
    simp only [execA] at h
    have ih := exec_ok hE hC hm fg B N g0 body
    cases hx : execA E C fg B n g0.H N body s with
    | none => rw [hx] at h; simp at h
    | some z =>
      obtain ⟨r1, s1⟩ := z
      rw [hx] at h
      refine wp_block (wp_mono (ih s r1 s1 hx g a hH hI hA hst) ?_)
      rintro e a' w' ⟨q1, g2, rfl, q3, q4, q5, q6⟩
      cases r1 with
      | normal =>
        simp only [Option.some.injEq, Prod.mk.injEq] at h
        obtain ⟨rfl, rfl⟩ := h
        cases e <;> simp only [exM] at q1
        exact ⟨trivial, g2, rfl, q3, q4, q5, forget_ok q6 _⟩
      | exit i =>
        simp only at h
        cases e <;> simp only [exM] at q1
        subst q1
        rename_i j
        simp only [Exit.inBlock]
        cases hb : Nat.beq j id with
        | true =>
          rw [hb] at h
          simp only [Option.some.injEq, Prod.mk.injEq] at h
          obtain ⟨rfl, rfl⟩ := h
          rw [if_pos (beq_iff.1 hb)]
          exact ⟨trivial, g2, rfl, q3, q4, q5, forget_ok q6 _⟩
        | false =>
          rw [hb] at h
          simp only [Option.some.injEq, Prod.mk.injEq] at h
          obtain ⟨rfl, rfl⟩ := h
          rw [if_neg (fun e => by rw [e, beqT] at hb; simp at hb)]
          exact ⟨rfl, g2, rfl, q3, q4, q5, q6⟩
      | ret =>
        simp only [Option.some.injEq, Prod.mk.injEq] at h
        obtain ⟨rfl, rfl⟩ := h
        cases e <;> simp only [exM] at q1
        exact ⟨trivial, g2, rfl, q3, q4, q5, q6⟩
  | .loop body => fun s r s' h => by
    simp only [execA] at h
    exact loop_ok (exec_ok hE hC hm fg B N g0 body) N s r s' h
  | .scope body => fun s r s' h g a hH hI hA hst => by
    simp only [execA] at h
    refine wp_scope_straight (wp_mono (exec_ok hE hC hm fg B N g0 body s r s' h g a hH hI hA hst) ?_)
    rintro e a' w' hq
    cases e with
    | goto l => cases r <;> exact hq.1.elim
    | _ => exact hq
  | .exit id => fun s r s' h g a hH hI hA hst => by
    simp only [execA, Option.some.injEq, Prod.mk.injEq] at h
    obtain ⟨rfl, rfl⟩ := h
    exact wp_exit ⟨rfl, g, rfl, hH, hI, hA, hst⟩
  | .ret => fun s r s' h g a hH hI hA hst => by
    simp only [execA, Option.some.injEq, Prod.mk.injEq] at h
    obtain ⟨rfl, rfl⟩ := h
    exact wp_ret ⟨trivial, g, rfl, hH, hI, hA, hst⟩
  | .rangeFunc .. => fun s r s' h => by simp [execA] at h
  | .goto _ => fun s r s' h => by simp [execA] at h
  | .refuse _ => fun s r s' h => by simp [execA] at h

end
end Go.AM
