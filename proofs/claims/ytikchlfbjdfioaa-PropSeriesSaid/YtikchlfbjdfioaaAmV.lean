/- Regions that draw their order: any legal order comes to what the text's order comes to. Own work of this project. -/
import Derived.Test.YtikchlfbjdfioaaAmU
import Derived.Orders
namespace Go.AM
section
variable {E : Env} {C : Callee} {B n : Nat} {ops : Array Oper}

theorem partsOf_congr {ρ ρ' : Operand → AV} (pl : Nat → Option (Nat × Nat)) : ∀ (parts : List (Nat × Operand)), (∀ p ∈ parts, ρ p.2 = ρ' p.2) → partsOf ρ pl parts = partsOf ρ' pl parts
  | [], _ => rfl
  | (i, x) :: rest, h => by
    simp only [partsOf]
    rw [h (i, x) (by simp), partsOf_congr pl rest (fun p hp => h p (by simp [hp]))]

theorem aBuild_congr {T : TyT} {ρ ρ' : Operand → AV} {t : TypeId} {parts : List (Nat × Operand)} (h : ∀ p ∈ parts, ρ p.2 = ρ' p.2) : aBuild T t ρ parts = aBuild T t ρ' parts := by
  unfold aBuild
  split
  · rw [partsOf_congr _ parts h]
  · split
    · rw [partsOf_congr _ parts h]
    · rfl
  · rfl
theorem aBuildSlice_congr {T : TyT} {ρ ρ' : Operand → AV} {t : TypeId} {site len : Nat} {parts : List (Nat × Operand)} (h : ∀ p ∈ parts, ρ p.2 = ρ' p.2) : aBuildSlice T site t len ρ parts = aBuildSlice T site t len ρ' parts := by
  unfold aBuildSlice
  split
  · rfl
  · split
    · split
      · rw [partsOf_congr _ parts h]
      · rfl
    · rfl

theorem args_congr {φ φ' : AFr} {xs : Array Operand} (h : ∀ x ∈ xs, evO E φ x = evO E φ' x) : xs.toList.map (evO E φ) = xs.toList.map (evO E φ') :=
  List.map_congr_left fun x hx => h x (by simpa using hx)
theorem opt_congr {φ φ' : AFr} {x : Option Operand} (h : ∀ y ∈ x.toArray, evO E φ y = evO E φ' y) : x.map (evO E φ) = x.map (evO E φ') := by
  cases x with
  | none => rfl
  | some y => simp only [Option.map_some]; rw [h y (by simp)]

theorem aOp_congr {φ φ' : AFr} {site : Nat → Nat} {o : Oper} (h : ∀ x ∈ o.op.operands, evO E φ x = evO E φ' x) : aOp E C site φ o = aOp E C site φ' o := by
  unfold aOp
  cases ho : o.op <;> rw [ho] at h <;> simp only [Op.operands] at h <;> simp only <;> try rfl
  case move x => rw [h x (by simp)]
  case assign x => rw [h x (by simp)]
  case pick c x y => rw [h c (by simp), h x (by simp), h y (by simp)]
  case box t x => rw [h x (by simp)]
  case build t parts => rw [aBuild_congr (ρ' := evO E φ') (fun p hp => h p.2 (by simpa using ⟨p.1, by simpa using hp⟩))]
  case buildSlice t l parts => rw [aBuildSlice_congr (ρ' := evO E φ') (fun p hp => h p.2 (by simpa using ⟨p.1, by simpa using hp⟩))]
  case load t x => rw [h x (by simp)]
  case store t x y => rw [h x (by simp), h y (by simp)]
  case nilCheck x => rw [h x (by simp)]
  case binOp op t x y u => rw [h x (by simp), h y (by simp)]
  case unOp op t x => rw [h x (by simp)]
  case convert s d x => rw [h x (by simp)]
  case makeFunc f first caps => rw [args_congr (xs := caps) (φ' := φ') (fun x hx => h x (by simp [hx])), args_congr (xs := first) (φ' := φ') (fun x hx => h x (by simp [hx]))]
  case makeSlice t x y => rw [h x (by simp), h y (by simp)]
  case slice t x lo hi mx =>
    rw [h x (by simp), opt_congr (φ' := φ') (x := lo) (fun y hy => h y (by simp [hy] <;> simp_all)), opt_congr (φ' := φ') (x := hi) (fun y hy => h y (by simp [hy] <;> simp_all)), opt_congr (φ' := φ') (x := mx) (fun y hy => h y (by simp [hy] <;> simp_all))]
  case fieldAddr t x f => rw [h x (by simp)]
  case field t x f => rw [h x (by simp)]
  case indexAddr t x y => rw [h x (by simp), h y (by simp)]
  case index t x y => rw [h x (by simp), h y (by simp)]
  case extract x i => rw [h x (by simp)]
  case lookup t x y ok => rw [h x (by simp), h y (by simp)]
  case mapUpdate t x y z => rw [h x (by simp), h y (by simp), h z (by simp)]
  case insert t x y z => rw [h x (by simp), h y (by simp), h z (by simp)]
  case mapEntry t x y => rw [h x (by simp), h y (by simp)]
  case entryStore t x y z => rw [h x (by simp), h y (by simp), h z (by simp)]
  case call c =>
    unfold opCall
    have ha : c.args.toList.map (evO E φ) = c.args.toList.map (evO E φ') := args_congr (fun x hx => h x (by simp [Call.operands, hx]))
    rw [ha]
    cases hc : c.callee <;> simp only
    rename_i f
    rw [h f (by simp [Call.operands, hc])]

theorem mutC_congr {φ φ' : AFr} {c : Call} (h : ∀ x ∈ c.operands, evO E φ x = evO E φ' x) : mutC E φ c = mutC E φ' c := by
  unfold mutC
  have ha : c.args.toList.map (evO E φ) = c.args.toList.map (evO E φ') := args_congr (fun x hx => h x (by simp [Call.operands, hx]))
  rw [ha]
  cases hc : c.callee <;> simp only
  rename_i f
  rw [h f (by simp [Call.operands, hc])]

theorem act_congr {φ φ' : AFr} {o : Oper} (h : ∀ t ∈ looks ops o, fget φ t = fget φ' t) : act E C B n ops o φ = act E C B n ops o φ' := by
  have hev : ∀ x ∈ o.op.operands, evO E φ x = evO E φ' x := by
    intro x hx
    cases x with
    | tmp t =>
      refine h t (List.mem_append_right _ ?_)
      exact List.mem_filterMap.2 ⟨.tmp t, by simpa using hx, rfl⟩
    | const v => rfl
    | global g => rfl
    | func f => rfl
  have hG : actG E C B n o φ = actG E C B n o φ' := by
    unfold actG
    have ha := aOp_congr (E := E) (C := C) (site := siteOf B n o) (o := o) hev
    cases ho : o.op <;> simp only <;> try (rw [ha]; done)
    case move x => rw [hev x (by simp [ho, Op.operands])]
    case assign x => rw [hev x (by simp [ho, Op.operands])]
    case call c => rw [ha, mutC_congr (φ' := φ') (fun x hx => hev x (by simpa [ho, Op.operands] using hx))]
  unfold act
  cases hg : o.guard with
  | none => simp only; rw [hG]
  | some gw =>
    obtain ⟨j, want⟩ := gw
    have hw : wantA ops φ o = wantA ops φ' o := by
      unfold wantA
      rw [hg]
      simp only
      cases hj : ops[j]? with
      | none => rfl
      | some oj =>
        simp only
        cases hd : oj.dst with
        | none => rfl
        | some d =>
          simp only
          rw [h d (List.mem_append_left _ (by simp [guardTmp, hg, hj, hd]))]
    simp only
    rw [hw, hG]

/-! ### Two neighbours change places -/
noncomputable def putF (φ : AFr) (d : Option Tmp) (v : AV) : AFr :=
  match d with
  | some d => fput φ d v
  | none => φ

theorem fin_iff {o : Oper} {φ : AFr} {v : AV} {H : AHeap} {s' : St} : fin n o φ v H = some s' ↔ (∀ d, o.dst = some d → (d : Nat) < n) ∧ s' = (putF φ o.dst v, H) := by
  unfold fin putA putF
  cases hd : o.dst with
  | none => simp [eq_comm]
  | some d =>
    simp only
    cases hb : Nat.ble n d with
    | true =>
      have : n ≤ d := ble_iff.1 hb
      simp only [cond_true]
      constructor
      · intro h; simp at h
      · rintro ⟨h, _⟩; exact absurd (h d rfl) (Nat.not_lt.2 this)
    | false =>
      have : ¬ n ≤ d := fun h => by rw [bleT h] at hb; simp at hb
      simp only [cond_false, Option.some.injEq]
      constructor
      · intro h; exact ⟨fun e he => by subst he; exact Nat.lt_of_not_le this, h.symm⟩
      · intro h; exact h.2.symm

theorem fget_putF {φ : AFr} {d : Option Tmp} {v : AV} {t : Nat} (h : t ∉ d.toList) : fget (putF φ d v) t = fget φ t := by
  cases d with
  | none => rfl
  | some d =>
    simp only [putF, fget_fput]
    rw [if_neg (fun e => h (by simp [e]))]

theorem desc_fput {φ : AFr} : ∀ {hi i : Nat} {a : AV}, descF hi φ = true → i < hi → descF hi (fput φ i a) = true := by
  induction φ with
  | nil => intro hi i a _ h; simp only [fput_n, descF_n, descF_c, Bool.and_eq_true, ble_iff]; exact ⟨h, trivial⟩
  | cons x t ih =>
    obtain ⟨k, c⟩ := x
    intro hi i a hd h
    simp only [descF_c, Bool.and_eq_true, ble_iff] at hd
    simp only [fput_c]
    by_cases h1 : k = i
    · subst h1
      simp only [beqT, cond_true, descF_c, Bool.and_eq_true, ble_iff]; exact hd
    · by_cases h2 : i ≤ k
      · simp only [beqF h1, bleT h2, cond_true, cond_false, descF_c, Bool.and_eq_true, ble_iff]
        exact ⟨hd.1, ih hd.2 (by omega)⟩
      · simp only [beqF h1, bleF h2, cond_false, descF_c, Bool.and_eq_true, ble_iff]
        exact ⟨h, by omega, hd.2⟩

theorem putF_comm {φ : AFr} {hi : Nat} {d e : Option Tmp} {a b : AV} (hd : descF hi φ = true) (h : disj d.toList e.toList = true) : putF (putF φ d a) e b = putF (putF φ e b) d a := by
  cases d with
  | none => rfl
  | some d =>
    cases e with
    | none => rfl
    | some e => exact fput_comm hd (fun he => by have := disj_spec h d (by simp); exact this (by simp [he]))

theorem swap {s s1 s2 : St} {ok oi : Oper} (hs : neat n s = true) (h1 : stepA E C B n ops ok s = some s1) (h2 : stepA E C B n ops oi s1 = some s2) (hn2 : neat n s2 = true) (ha : apartO ops ok oi = true) (ht : apartT (trA E C B n ops ok s) (trA E C B n ops oi s1) = true) :
    ∃ s1', neat n s1' = true ∧ stepA E C B n ops oi s = some s1' ∧ stepA E C B n ops ok s1' = some s2 ∧ trA E C B n ops oi s = trA E C B n ops oi s1 ∧ trA E C B n ops ok s1' = trA E C B n ops ok s := by
  simp only [apartO, Bool.and_eq_true] at ha
  obtain ⟨⟨a1, a2⟩, a3⟩ := ha
  simp only [neat, Bool.and_eq_true] at hs hn2
  rw [stepA_eq] at h1 h2
  cases hk : act E C B n ops ok s.1 with
  | none => rw [hk] at h1; simp [stepK] at h1
  | some k =>
    cases hr : runK C B n k s.2 with
    | none => rw [hk] at h1; simp [stepK, hr] at h1
    | some x =>
      obtain ⟨v, H1⟩ := x
      rw [hk] at h1; simp only [stepK, hr] at h1
      obtain ⟨b1, rfl⟩ := fin_iff.1 h1
      have hi : act E C B n ops oi (putF s.1 ok.dst v) = act E C B n ops oi s.1 := act_congr (fun t ht => fget_putF (fun hm => disj_spec a2 t hm ht))
      simp only at h2
      rw [hi] at h2
      cases hki : act E C B n ops oi s.1 with
      | none => rw [hki] at h2; simp [stepK] at h2
      | some i =>
        cases hri : runK C B n i H1 with
        | none => rw [hki] at h2; simp [stepK, hri] at h2
        | some y =>
          obtain ⟨u, H2⟩ := y
          rw [hki] at h2; simp only [stepK, hri] at h2
          obtain ⟨b2, rfl⟩ := fin_iff.1 h2
          have hkk : act E C B n ops ok (putF s.1 oi.dst u) = act E C B n ops ok s.1 := act_congr (fun t ht => fget_putF (fun hm => disj_spec a3 t hm ht))
          rw [trA_eq ok s hk, trA_eq oi (putF s.1 ok.dst v, H1) (by rw [hi]; exact hki)] at ht
          obtain ⟨H', c0, c1, c2, c3, c4⟩ := swapK hs.2 hr hri ht hn2.2
          refine ⟨(putF s.1 oi.dst u, H'), ?_, ?_, ?_, ?_, ?_⟩
          · simp only [neat, Bool.and_eq_true]
            refine ⟨?_, c0⟩
            cases hd : oi.dst with
            | none => exact hs.1
            | some d => exact desc_fput hs.1 (b2 d hd)
          · rw [stepA_eq, hki]; simp only [stepK, c1]; exact fin_iff.2 ⟨b2, rfl⟩
          · rw [stepA_eq]
            simp only
            rw [hkk, hk]
            simp only [stepK, c2]
            exact fin_iff.2 ⟨b1, by rw [putF_comm hs.1 a1]⟩
          · rw [trA_eq oi s hki, trA_eq oi (putF s.1 ok.dst v, H1) (by rw [hi]; exact hki)]
            exact c3
          · rw [trA_eq ok s hk, trA_eq ok (putF s.1 oi.dst u, H') (by rw [hkk]; exact hk)]
            exact c4

/-! ### Runs with their traces -/
def RunL (E : Env) (C : Callee) (B n : Nat) (ops : Array Oper) : List (Nat × Tr) → St → St → Prop
  | [], s, s' => s' = s
  | (i, t) :: l, s, s' => ∃ o s1, ops[i]? = some o ∧ stepA E C B n ops o s = some s1 ∧ t = trA E C B n ops o s ∧ neat n s1 = true ∧ RunL E C B n ops l s1 s'

/-- Two that may change places. -/
def Apt (ops : Array Oper) (p q : Nat × Tr) : Prop := ∀ op oq, ops[p.1]? = some op → ops[q.1]? = some oq → apartO ops op oq = true ∧ apartT p.2 q.2 = true

theorem RunL.front : ∀ (pre : List (Nat × Tr)) (x : Nat × Tr) (post : List (Nat × Tr)) (s s' : St), neat n s = true → RunL E C B n ops (pre ++ x :: post) s s' → (∀ p ∈ pre, Apt ops p x) → RunL E C B n ops (x :: (pre ++ post)) s s'
  | [], x, post, s, s', _, h, _ => h
  | p :: pre, x, post, s, s', hs, h, ha => by
    obtain ⟨i, t⟩ := p
    obtain ⟨o, s1, h1, h2, h3, h4, h5⟩ := h
    obtain ⟨j, u⟩ := x
    have := RunL.front pre (j, u) post s1 s' h4 h5 (fun p hp => ha p (by simp [hp]))
    obtain ⟨oj, s2, k1, k2, k3, k4, k5⟩ := this
    obtain ⟨q1, q2⟩ := ha (i, t) (by simp) o oj h1 k1
    simp only at q2
    rw [h3, k3] at q2
    obtain ⟨s1', r0, r1, r2, r3, r4⟩ := swap hs h2 k2 k4 q1 q2
    exact ⟨oj, s1', k1, r1, by rw [r3]; exact k3, r0, o, s2, h1, r2, by rw [r4]; exact h3, k4, k5⟩

/-- Any order in which nothing stands ahead of what it waits for. -/
theorem RunL.perm (anc : Nat → Nat → Prop) : ∀ (il : List Nat) (L : List (Nat × Tr)) (s s' : St), neat n s = true → RunL E C B n ops L s s' → il.Nodup → (L.map (·.1)).Nodup → (∀ j, j ∈ il ↔ j ∈ L.map (·.1)) →
    il.Pairwise (fun i j => ¬ anc j i) → L.Pairwise (fun p q => anc p.1 q.1 ∨ Apt ops p q) → runI E C B n ops il s = some s'
  | [], L, s, s', _, h, _, _, hm, _, _ => by
    have : L = [] := by
      cases L with
      | nil => rfl
      | cons p L => have := (hm p.1).2 (by simp); simp at this
    subst this
    simp only [RunL] at h
    simp only [runI, h]
  | i :: il, L, s, s', hs, h, hn, hL, hm, hp, hq => by
    obtain ⟨x, hx, rfl⟩ := List.mem_map.1 ((hm i).1 (by simp))
    obtain ⟨pre, post, rfl⟩ := List.append_of_mem hx
    simp only [List.pairwise_cons, List.nodup_cons] at hp hn
    simp only [List.map_append, List.map_cons, List.nodup_append, List.nodup_cons, List.mem_cons, List.mem_map] at hL
    rw [List.pairwise_append] at hq
    obtain ⟨p1, p2, p3⟩ := hq
    have hfront := RunL.front pre x post s s' hs h (fun p hpre => by
      rcases p3 p hpre x (by simp) with r | r
      · exfalso
        have hmem : p.1 ∈ il := by
          have := (hm p.1).2 (by simp only [List.map_append, List.mem_append, List.mem_map]; exact .inl ⟨p, hpre, rfl⟩)
          rcases List.mem_cons.1 this with e | e
          · exact absurd e (hL.2.2 p.1 ⟨p, hpre, rfl⟩ x.1 (.inl rfl))
          · exact e
        exact hp.1 p.1 hmem r
      · exact r)
    obtain ⟨i, t⟩ := x
    obtain ⟨o, s1, h1, h2, h3, h4, h5⟩ := hfront
    simp only [runI, h1, h2]
    rw [List.pairwise_cons] at p2
    refine RunL.perm anc il (pre ++ post) s1 s' h4 h5 hn.2 ?_ ?_ hp.2 ?_
    · simp only [List.map_append, List.nodup_append, List.mem_map]
      exact ⟨hL.1, hL.2.1.2, fun a ha b hb => hL.2.2 a ha b (.inr hb)⟩
    · intro j
      have := hm j
      simp only [List.mem_cons, List.map_append, List.map_cons, List.mem_append] at this ⊢
      constructor
      · intro hj
        rcases this.1 (.inr hj) with r | r | r
        · exact .inl r
        · subst r; exact absurd hj hn.1
        · exact .inr r
      · intro hj
        have hne : j ≠ i := by
          rintro rfl
          rcases hj with r | r
          · obtain ⟨p, hp1, hp2⟩ := List.mem_map.1 r
            exact hL.2.2 _ ⟨p, hp1, hp2⟩ j (.inl rfl) rfl
          · obtain ⟨p, hp1, hp2⟩ := List.mem_map.1 r
            exact hL.2.1.1 ⟨p, hp1, hp2⟩
        rcases this.2 (by rcases hj with r | r <;> simp [r]) with r | r
        · exact absurd r hne
        · exact r
    · rw [List.pairwise_append]
      exact ⟨p1, p2.2, fun a ha b hb => p3 a ha b (by simp [hb])⟩

end
end Go.AM
