/- The tables are the program's: checks that the kernel runs, and what they tell. Own work of this project. -/
import Derived.Test.YtikchlfbjdfioaaAmZ
namespace Go.AM

def Tree.All {α : Type} (p : Nat → α → Prop) : Tree α → Prop
  | .nil => True
  | .node l k v r => l.All p ∧ p k v ∧ r.All p
def Tree.allB {α : Type} (f : Nat → α → Bool) : Tree α → Bool
  | .nil => true
  | .node l k v r => l.allB f && (f k v && r.allB f)

theorem Tree.find_all {α : Type} {p : Nat → α → Prop} : ∀ {t : Tree α} {n : Nat} {v : α}, t.All p → t.find n = some v → p n v
  | .nil, _, _, _, h => by simp [Tree.find] at h
  | .node l k x r, n, v, ha, h => by
    obtain ⟨h1, h2, h3⟩ := ha
    simp only [Tree.find] at h
    cases hb : Nat.beq n k with
    | true =>
      rw [hb] at h
      simp only [cond_true, Option.some.injEq] at h
      subst h
      rw [beq_iff.1 hb]
      exact h2
    | false =>
      rw [hb] at h
      simp only [cond_false] at h
      cases hc : Nat.ble n k with
      | true => rw [hc] at h; exact Tree.find_all h1 h
      | false => rw [hc] at h; exact Tree.find_all h3 h

theorem Tree.allB_ok {α : Type} {f : Nat → α → Bool} {p : Nat → α → Prop} (hf : ∀ k v, f k v = true → p k v) : ∀ {t : Tree α}, t.allB f = true → t.All p
  | .nil, _ => trivial
  | .node l k x r, h => by
    simp only [Tree.allB, Bool.and_eq_true] at h
    exact ⟨Tree.allB_ok hf h.1, hf _ _ h.2.1, Tree.allB_ok hf h.2.2⟩

/-- Two plain values are one. -/
def avB : AV → AV → Bool
  | .int k a, .int k' b => decide (k = k') && decide (a = b)
  | .bool a, .bool b => a == b
  | .str a, .str b => decide (a.data.toList = b.data.toList)
  | .nilsl, .nilsl => true
  | .nilptr, .nilptr => true
  | .nilfunc, .nilfunc => true
  | .nilmap, .nilmap => true
  | _, _ => false
theorem avB_ok : ∀ {a b : AV}, avB a b = true → a = b := by
  intro a b h
  cases a <;> cases b <;> simp only [avB] at h <;> try (simp at h; done)
  · simp only [Bool.and_eq_true, decide_eq_true_eq] at h; rw [h.1, h.2]
  · rw [beq_iff_eq.1 h]
  · rename_i s t
    have : s.data = t.data := Array.toList_inj.1 (of_decide_eq_true h)
    cases s; cases t; simp only at this; rw [this]
  all_goals rfl
def avsB : List AV → List AV → Bool
  | [], [] => true
  | a :: as, b :: bs => avB a b && avsB as bs
  | _, _ => false
theorem avsB_ok : ∀ {as bs : List AV}, avsB as bs = true → as = bs
  | [], [], _ => rfl
  | [], _ :: _, h => by simp [avsB] at h
  | _ :: _, [], h => by simp [avsB] at h
  | a :: as, b :: bs, h => by
    simp only [avsB, Bool.and_eq_true] at h
    rw [avB_ok h.1, avsB_ok h.2]

def kindB (P : Program) (t : TypeId) (d : TypeDesc) : TK → Bool
  | .bool => match d with | .bool => true | _ => false
  | .int k => match d with | .int k' => decide (k' = k) | _ => false
  | .str => match d with | .string => true | _ => false
  | .slice e => match d with | .slice e' => Nat.beq e' e | _ => false
  | .arr n e q => match d with
    | .array n' e' => Nat.beq n' n && (Nat.beq e' e && (!q || (!P.eqGuardType P.depth t && Nat.beq (P.cellsOf e) 1)))
    | _ => false
  | .struct fs q => match d with
    | .struct fa => decide (fs = fa.toList.map (fun f => (f.offset, f.type, P.cellsOf f.type))) && (fa.toList.all (fun f => (P.info? f.type).isSome) && (!q || (!P.eqGuardType P.depth t && (!P.stoodInHeld t && fa.toList.all (fun f => f.name != "_")))))
    | _ => false
  | .map k e z => match d with
    | .map k' e' => Nat.beq k' k && (Nat.beq e' e && (match P.info? e with
      | some i => match i.zero with
        | some zv => avB (ofV zv) z
        | none => false
      | none => false))
    | _ => false
  | .other => match d with
    | .struct _ => false
    | .array _ _ => false
    | _ => true

theorem kindB_ok {P : Program} {t : TypeId} {d : TypeDesc} {k : TK} (hu : P.underlying t = some d) (h : kindB P t d k = true) : KindOK P t k := by
  cases k <;> simp only [kindB] at h <;> simp only [KindOK]
  · cases d <;> first | exact hu | (simp at h; done)
  · cases d <;> first | (simp at h; done) | (rw [decide_eq_true_eq] at h; subst h; exact hu)
  · cases d <;> first | exact hu | (simp at h; done)
  · cases d <;> first | (simp at h; done) | (rw [beq_iff] at h; subst h; exact hu)
  · cases d <;> try (simp at h; done)
    simp only [Bool.and_eq_true, beq_iff, Bool.or_eq_true, Bool.not_eq_true'] at h
    obtain ⟨rfl, rfl, h3⟩ := h
    refine ⟨hu, fun hq => ?_⟩
    rcases h3 with h3 | h3
    · rw [hq] at h3; simp at h3
    · exact h3
  · cases d <;> try (simp at h; done)
    rename_i fa
    simp only [Bool.and_eq_true, decide_eq_true_eq, List.all_eq_true] at h
    simp only [Bool.or_eq_true, Bool.not_eq_true'] at h
    refine ⟨fa, hu, h.1, fun f hf => Option.isSome_iff_exists.1 (h.2.1 f hf), fun hq => ?_⟩
    rcases h.2.2 with h3 | h3
    · rw [hq] at h3; simp at h3
    · simp only [Bool.and_eq_true, Bool.not_eq_true', List.all_eq_true, bne_iff_ne] at h3
      exact ⟨h3.1, h3.2.1, h3.2.2⟩
  · cases d <;> try (simp at h; done)
    simp only [Bool.and_eq_true, beq_iff] at h
    obtain ⟨rfl, rfl, h3⟩ := h
    refine ⟨hu, ?_⟩
    split at h3
    · rename_i i hi
      split at h3
      · rename_i zv hz
        exact ⟨i, zv, hi, hz, (avB_ok h3).symm⟩
      · simp at h3
    · simp at h3
  · refine ⟨d, hu, ?_, ?_⟩
    · intro fs e; subst e; simp at h
    · intro n e' e; subst e; simp at h

def zeroB (inf : TypeInfo) : Option (List AV) → Bool
  | none => true
  | some z => match inf.zero with
    | none => false
    | some zv => match acells (ofV zv) with
      | some z' => avsB z' z
      | none => false
def tyB (P : Program) (t : TypeId) (i : TI) : Bool :=
  match P.info? t, P.underlying t with
  | some inf, some d => Nat.beq inf.size i.size && (Nat.beq inf.bytes i.bytes && (zeroB inf i.zero && kindB P t d i.k))
  | _, _ => false

theorem tyB_ok {P : Program} {t : TypeId} {i : TI} (h : tyB P t i = true) : ∃ inf, P.info? t = some inf ∧ inf.size = i.size ∧ inf.bytes = i.bytes ∧ (∀ z, i.zero = some z → ∃ zv, inf.zero = some zv ∧ acells (ofV zv) = some z) ∧ KindOK P t i.k := by
  unfold tyB at h
  split at h
  · rename_i inf d h1 h2
    simp only [Bool.and_eq_true, beq_iff] at h
    refine ⟨inf, h1, h.1, h.2.1, fun z hz => ?_, kindB_ok h2 h.2.2.2⟩
    have hz2 := h.2.2.1
    rw [hz] at hz2
    simp only [zeroB] at hz2
    split at hz2
    · simp at hz2
    · rename_i zv hzv
      split at hz2
      · rename_i z' hz'
        exact ⟨zv, hzv, by rw [hz', avsB_ok hz2]⟩
      · simp at hz2
  · simp at h

theorem env_ok {P : Program} {E : Env} {ty : Tree TI} {fn : Tree Func} (hT : E.T = ty.find) (hF : E.fn = fn.find) (h1 : ty.allB (tyB P) = true) (h2 : fn.All fun f x => P.funcs[f]? = some x ∧ (x.name == "runtime.NumGoroutine") = false) : EnvOK P E := by
  refine ⟨fun t i h => ?_, fun f x h => ?_⟩
  · rw [hT] at h
    exact Tree.find_all (Tree.allB_ok (p := fun t i => ∃ inf, P.info? t = some inf ∧ inf.size = i.size ∧ inf.bytes = i.bytes ∧ (∀ z, i.zero = some z → ∃ zv, inf.zero = some zv ∧ acells (ofV zv) = some z) ∧ KindOK P t i.k) (fun _ _ h => tyB_ok h) h1) h
  · rw [hF] at h
    exact Tree.find_all h2 h

/-- A callee of which one call's result is known. -/
def known1 (f0 : FuncId) (r0 : AV) (H0 : AHeap) (C : Callee) : Callee := fun f args H B =>
  match Nat.beq f f0, args, H with
  | true, [], [] => some (r0, H0)
  | _, _, _ => C f args H B

theorem known1_ok {P : Program} {E : Env} {C C' : Callee} (hC : CS P E C) (hC' : CS P E C') {f0 : FuncId} {r0 : AV} {H0 : AHeap} (h : C' f0 [] [] 0 = some (r0, H0)) : CS P E (known1 f0 r0 H0 C) := by
  intro f args H B r H' he g vs hH hI hs
  unfold known1 at he
  split at he
  · rename_i hb
    simp only [Option.some.injEq, Prod.mk.injEq] at he
    obtain ⟨rfl, rfl⟩ := he
    have := beq_iff.1 hb
    subst this
    exact hC' f [] [] 0 _ _ h g vs hH hI hs
  · exact hC f _ _ B r H' he g vs hH hI hs

def isTrue : Option (AV × AHeap) → Bool
  | some (.bool true, _) => true
  | _ => false
theorem isTrue_ok {x : Option (AV × AHeap)} (h : isTrue x = true) : ∃ H, x = some (.bool true, H) := by
  unfold isTrue at h
  split at h
  · exact ⟨_, rfl⟩
  · simp at h

end Go.AM
