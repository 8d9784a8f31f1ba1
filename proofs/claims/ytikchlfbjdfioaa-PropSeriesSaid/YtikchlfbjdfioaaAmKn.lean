/- Callees of which some runs are known: long closed runs are taken apart. Own work of this project. -/
import Derived.Test.YtikchlfbjdfioaaAmOk
namespace Go.AM
open Go

def kindE : IntKind → IntKind → Bool
  | .i64, .i64 => true
  | .i32, .i32 => true
  | .i16, .i16 => true
  | .i8, .i8 => true
  | .u64, .u64 => true
  | .u32, .u32 => true
  | .u16, .u16 => true
  | .u8, .u8 => true
  | _, _ => false
theorem kindE_ok {a b : IntKind} (h : kindE a b = true) : a = b := by
  cases a <;> cases b <;> first | rfl | (simp [kindE] at h; done)
def intE : Int → Int → Bool
  | .ofNat a, .ofNat b => Nat.beq a b
  | .negSucc a, .negSucc b => Nat.beq a b
  | _, _ => false
theorem intE_ok {a b : Int} (h : intE a b = true) : a = b := by
  cases a <;> cases b <;> simp only [intE] at h
  · rw [Nat.eq_of_beq_eq_true h]
  · exact absurd h (by simp)
  · exact absurd h (by simp)
  · rw [Nat.eq_of_beq_eq_true h]
def boolE : Bool → Bool → Bool
  | true, true => true
  | false, false => true
  | _, _ => false
theorem boolE_ok {a b : Bool} (h : boolE a b = true) : a = b := by
  cases a <;> cases b <;> first | rfl | (simp [boolE] at h; done)

mutual
/-- Equal values, of some kinds. -/
def eqA : AV → AV → Bool
  | .int k x, .int k' y => kindE k k' && intE x y
  | .bool a, .bool b => boolE a b
  | .nilsl, .nilsl => true
  | .nilptr, .nilptr => true
  | .mapv a, .mapv b => Nat.beq a b
  | .agg l, .agg m => eqAs l m
  | .tup l, .tup m => eqAs l m
  | .imm l n e, .imm m n' e' => Nat.beq n n' && (boolE e e' && eqAs l m)
  | .iptr l n, .iptr m n' => Nat.beq n n' && eqAs l m
  | .clo f l, .clo f' m => Nat.beq f f' && eqAs l m
  | .ref a b c d e f x, .ref a' b' c' d' e' f' x' => Nat.beq a a' && (Nat.beq b b' && (Nat.beq c c' && (Nat.beq d d' && (Nat.beq e e' && (Nat.beq f f' && boolE x x')))))
  | .ptr a b c, .ptr a' b' c' => Nat.beq a a' && (Nat.beq b b' && Nat.beq c c')
  | _, _ => false
def eqAs : List AV → List AV → Bool
  | [], [] => true
  | a :: l, b :: m => eqA a b && eqAs l m
  | _, _ => false
end
theorem nbeq {a b : Nat} (h : Nat.beq a b = true) : a = b := Nat.eq_of_beq_eq_true h
mutual
theorem eqA_ok : ∀ {a b : AV}, eqA a b = true → a = b
  | a, b, h => by
    unfold eqA at h
    split at h
    · rw [Bool.and_eq_true] at h; rw [kindE_ok h.1, intE_ok h.2]
    · rw [boolE_ok h]
    · rfl
    · rfl
    · rw [nbeq h]
    · rw [eqAs_ok h]
    · rw [eqAs_ok h]
    · simp only [Bool.and_eq_true] at h; obtain ⟨h1, h2, h3⟩ := h; rw [nbeq h1, boolE_ok h2, eqAs_ok h3]
    · simp only [Bool.and_eq_true] at h; obtain ⟨h1, h2⟩ := h; rw [nbeq h1, eqAs_ok h2]
    · simp only [Bool.and_eq_true] at h; obtain ⟨h1, h2⟩ := h; rw [nbeq h1, eqAs_ok h2]
    · simp only [Bool.and_eq_true] at h; obtain ⟨h1, h2, h3, h4, h5, h6, h7⟩ := h; rw [nbeq h1, nbeq h2, nbeq h3, nbeq h4, nbeq h5, nbeq h6, boolE_ok h7]
    · simp only [Bool.and_eq_true] at h; obtain ⟨h1, h2, h3⟩ := h; rw [nbeq h1, nbeq h2, nbeq h3]
    · exact absurd h (by simp)
theorem eqAs_ok : ∀ {a b : List AV}, eqAs a b = true → a = b
  | a, b, h => by
    unfold eqAs at h
    split at h
    · rfl
    · rw [Bool.and_eq_true] at h; rw [eqA_ok h.1, eqAs_ok h.2]
    · exact absurd h (by simp)
end
def bsE : BS → BS → Bool
  | .box, .box => true
  | .row, .row => true
  | .froz, .froz => true
  | .mp, .mp => true
  | _, _ => false
theorem bsE_ok {a b : BS} (h : bsE a b = true) : a = b := by
  cases a <;> cases b <;> first | rfl | (simp [bsE] at h; done)
def eqH : AHeap → AHeap → Bool
  | [], [] => true
  | (i, ⟨s, c⟩) :: l, (j, ⟨t, d⟩) :: m => Nat.beq i j && (bsE s t && (eqAs c d && eqH l m))
  | _, _ => false
theorem eqH_ok : ∀ {a b : AHeap}, eqH a b = true → a = b
  | [], [], _ => rfl
  | (i, ⟨s, c⟩) :: l, (j, ⟨t, d⟩) :: m, h => by
    simp only [eqH, Bool.and_eq_true] at h
    obtain ⟨h1, h2, h3, h4⟩ := h
    rw [nbeq h1, bsE_ok h2, eqAs_ok h3, eqH_ok h4]
  | [], _ :: _, h => by simp [eqH] at h
  | _ :: _, [], h => by simp [eqH] at h

/-- A run that gives a value. -/
def givesA (v : AV) : Option (AV × AHeap) → Bool
  | some (r, _) => eqA r v
  | none => false
theorem givesA_ok {v : AV} {x : Option (AV × AHeap)} (h : givesA v x = true) : ∃ H, x = some (v, H) := by
  cases x with
  | none => simp [givesA] at h
  | some y => obtain ⟨r, H⟩ := y; simp only [givesA] at h; exact ⟨H, by rw [eqA_ok h]⟩
/-- .. and a heap. -/
def givesAH (v : AV) (H : AHeap) : Option (AV × AHeap) → Bool
  | some (r, H') => eqA r v && eqH H' H
  | none => false
theorem givesAH_ok {v : AV} {H : AHeap} {x : Option (AV × AHeap)} (h : givesAH v H x = true) : x = some (v, H) := by
  cases x with
  | none => simp [givesAH] at h
  | some y => obtain ⟨r, H'⟩ := y; simp only [givesAH, Bool.and_eq_true] at h; rw [eqA_ok h.1, eqH_ok h.2]

mutual
/-- A number for what is asked of a list of values, so that most others are told apart at once. -/
def hashA : AV → Nat → Nat
  | .int _ (.ofNat n), h => h * 31 + (2 * n + 1)
  | .int _ (.negSucc n), h => h * 31 + (2 * n + 2)
  | .agg l, h => hashL l h
  | .imm l _ _, h => hashL l h
  | .iptr l _, h => hashL l h
  | .clo _ l, h => hashL l h
  | _, h => h
def hashL : List AV → Nat → Nat
  | [], h => h
  | a :: l, h => hashL l (hashA a h)
end

/-- A run that is known. -/
structure Kn where
  f : FuncId
  key : Nat
  args : List AV
  r : AV
  H : AHeap
/-- .. the last argument first: it is the one that differs. -/
def eqRv : List AV → List AV → Bool
  | [a, b], [c, d] => eqA b d && eqA a c
  | l, m => eqAs l m
theorem eqRv_ok {l m : List AV} (h : eqRv l m = true) : l = m := by
  unfold eqRv at h
  split at h
  · rw [Bool.and_eq_true] at h; rw [eqA_ok h.1, eqA_ok h.2]
  · exact eqAs_ok h
def hitK (f : FuncId) (args : List AV) (k : Kn) (no : Option (AV × AHeap)) : Option (AV × AHeap) :=
  match Nat.beq f k.f with
  | true => match eqRv args k.args with
    | true => some (k.r, k.H)
    | false => no
  | false => no
noncomputable def findK (f : FuncId) (args : List AV) (key : Nat) (l : List Kn) : Option (AV × AHeap) :=
  List.rec (motive := fun _ => Option (AV × AHeap)) none (fun k _ ih => Bool.rec ih (hitK f args k ih) (Nat.beq key k.key)) l
noncomputable def knownL (l : List Kn) (C : Callee) : Callee := fun f args H B =>
  match H with
  | [] => match findK f args (hashL args 7) l with
    | some x => some x
    | none => C f args [] B
  | _ => C f args H B
def Knows (P : Program) (E : Env) (k : Kn) : Prop := ∃ C, CS P E C ∧ C k.f k.args [] 0 = some (k.r, k.H)
theorem findK_ok {P : Program} {E : Env} : ∀ {l : List Kn}, (∀ k ∈ l, Knows P E k) → ∀ {f : FuncId} {args : List AV} {key : Nat} {x}, findK f args key l = some x → ∃ C, CS P E C ∧ C f args [] 0 = some x
  | [], _, _, _, _, _, h => by exact absurd h (by simp [findK])
  | k :: l, hk, f, args, key, x, h => by
    have ih := @findK_ok P E l (fun k h => hk k (List.mem_cons_of_mem _ h)) f args key x
    replace h : cond (Nat.beq key k.key) (hitK f args k (findK f args key l)) (findK f args key l) = some x := (brec _ _ _).symm.trans h
    cases hb : Nat.beq key k.key with
    | false => rw [hb] at h; exact ih h
    | true =>
      rw [hb] at h
      simp only [cond_true, hitK] at h
      split at h
      · rename_i hf
        split at h
        · rename_i ha
          obtain rfl := Option.some.inj h
          obtain rfl := nbeq hf
          obtain rfl := eqRv_ok ha
          exact hk _ (List.mem_cons_self ..)
        · exact ih h
      · exact ih h
theorem knownL_ok {P : Program} {E : Env} {C : Callee} (hC : CS P E C) {l : List Kn} (hk : ∀ k ∈ l, Knows P E k) : CS P E (knownL l C) := by
  intro f args H B r H' he g vs hH hI hs
  unfold knownL at he
  split at he
  · split at he
    · rename_i x hx
      obtain rfl := Option.some.inj he
      obtain ⟨C', h1, h2⟩ := findK_ok hk hx
      exact h1 f args [] 0 _ _ h2 g vs hH hI hs
    · exact hC f args [] B r H' he g vs hH hI hs
  · exact hC f args H B r H' he g vs hH hI hs
def hOf : Option (AV × AHeap) → AHeap
  | some (_, H) => H
  | none => []
theorem gives_hOf {v : AV} {x : Option (AV × AHeap)} (h : givesA v x = true) : x = some (v, hOf x) := by
  obtain ⟨H, rfl⟩ := givesA_ok h; rfl
/-- A run whose value leads nowhere: its heap is nobody's concern. -/
def kn (C : Callee) (f : FuncId) (args : List AV) (v : AV) : Kn := ⟨f, hashL args 7, args, v, hOf (C f args [] 0)⟩
theorem kn_ok {P : Program} {E : Env} {C : Callee} {f : FuncId} {args : List AV} {v : AV} (hC : CS P E C) (h : givesA v (C f args [] 0) = true) : Knows P E (kn C f args v) := ⟨C, hC, gives_hOf h⟩
theorem knH_ok {P : Program} {E : Env} {C : Callee} {f : FuncId} {args : List AV} {v : AV} {H : AHeap} (hC : CS P E C) (h : givesAH v H (C f args [] 0) = true) : Knows P E ⟨f, hashL args 7, args, v, H⟩ := ⟨C, hC, givesAH_ok h⟩
theorem knil {P : Program} {E : Env} : ∀ k ∈ ([] : List Kn), Knows P E k := fun _ h => by cases h
theorem kcons {P : Program} {E : Env} {a : Kn} {l : List Kn} (h : Knows P E a) (h2 : ∀ k ∈ l, Knows P E k) : ∀ k ∈ a :: l, Knows P E k := by
  intro k hk
  rcases List.mem_cons.1 hk with rfl | hk
  · exact h
  · exact h2 k hk
def allG (C : Callee) (f : FuncId) : List (List AV × AV) → Bool
  | [] => true
  | p :: l => givesA p.2 (C f p.1 [] 0) && allG C f l
def knL (C : Callee) (f : FuncId) (l : List (List AV × AV)) : List Kn := l.map fun p => kn C f p.1 p.2
theorem knL_ok {P : Program} {E : Env} {C : Callee} {f : FuncId} (hC : CS P E C) : ∀ {l : List (List AV × AV)}, allG C f l = true → ∀ k ∈ knL C f l, Knows P E k
  | [], _ => knil
  | p :: l, h => by
    simp only [allG, Bool.and_eq_true] at h
    exact kcons (kn_ok hC h.1) (knL_ok hC h.2)
theorem knows_mem {P : Program} {E : Env} {l m : List Kn} (h1 : ∀ k ∈ l, Knows P E k) (h2 : ∀ k ∈ m, Knows P E k) : ∀ k ∈ l ++ m, Knows P E k := by
  intro k h
  rcases List.mem_append.1 h with h | h
  · exact h1 k h
  · exact h2 k h

end Go.AM
