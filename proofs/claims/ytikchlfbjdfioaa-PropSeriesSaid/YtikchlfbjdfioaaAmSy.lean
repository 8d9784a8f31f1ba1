/- The abstract machine by equations: what simp rewrites by when a function's text is gone through with unknown values. Own work of this project. -/
import Derived.Test.YtikchlfbjdfioaaAmC
namespace Go.AM

/-- So that simp doesn't leave a step to the kernel. -/
theorem nrfl {α : Type} {a b : α} (h : a = b) : a = b := h

/-! ### Parts of a text -/
def kL : Code → Code
  | .seq a _ => a
  | c => c
def kR : Code → Code
  | .seq _ b => b
  | c => c
def kT : Code → Code
  | .cond _ t _ => t
  | c => c
def kE : Code → Code
  | .cond _ _ e => e
  | c => c
def kB : Code → Code
  | .block _ b => b
  | .loop b => b
  | .scope b => b
  | c => c
def kO : Code → Array Oper
  | .region _ ops _ => ops
  | _ => #[]
def kBody (f : Func) : Code := f.body.getD .skip
def opN (ops : Array Oper) (i : Nat) : Oper := ops.toList.getD i ⟨none, .move (.tmp 0), 0, "", #[], none⟩

/-! ### Runs, one behind the other -/
abbrev XR := Option (Ex × St)
def seqX (r : XR) (k : St → XR) : XR :=
  match r with
  | some (.normal, s) => k s
  | r => r
def bindR (r : Option St) (k : St → Option St) : Option St :=
  match r with
  | some s => k s
  | none => none
def regX (r : Option St) (k : St → St) : XR :=
  match r with
  | some s => some (.normal, k s)
  | none => none
def condX (v : AV) (t e : XR) : XR :=
  match v with
  | .bool true => t
  | .bool false => e
  | _ => none
def blockX (id : Nat) (k : St → St) (r : XR) : XR :=
  match r with
  | some (.exit i, s) => match Nat.beq i id with
    | true => some (.normal, k s)
    | false => some (.exit i, s)
  | some (.normal, s) => some (.normal, k s)
  | r => r
def fset : AFr → Nat → AV → AFr
  | [], _, _ => []
  | (k, a) :: t, i, b => if k = i then (k, b) :: t else (k, a) :: fset t i b
/-- Behind a guard it is known what the guard told. -/
noncomputable def gd (φ : AFr) (k : Nat) (want : Bool) (no yes : AFr → Option St) : Option St :=
  match fget φ k with
  | .bool b => if b = want then yes (fset φ k (.bool want)) else no (fset φ k (.bool !want))
  | .tup _ => no φ
  | _ => none
noncomputable def putD (d : Option Nat) (φ : AFr) (v : AV) : AFr :=
  match d with
  | some d => fput φ d v
  | none => φ
noncomputable def stp (d : Option Nat) (φ : AFr) (H : AHeap) (r : Rd (AV × Ups)) : Option St :=
  match r.run H with
  | some (v, us) => some (putD d φ v, upds H us)
  | none => none
/-- A call that is handed the heap. -/
noncomputable def mutX (d : Option Nat) (φ : AFr) (r : Option (AV × AHeap)) : Option St :=
  match r with
  | some (v, H) => some (putD d φ v, H)
  | none => none
/-- A call of a function value. -/
noncomputable def callV (E : Env) (C : Callee) (Bn : Nat) (d : Option Nat) (site : Nat → Nat) (φ : AFr) (H : AHeap) (f : AV) (args : List AV) (keep : Bool) : Option St :=
  match mutV E f args with
  | some (g, as) => mutX d φ (C g as H Bn)
  | none => stp d φ H (opCallV E C site keep f args)
noncomputable def bodyX (E : Env) (rs : List ResultVar) (r : XR) : Option (AV × AHeap) :=
  match r with
  | some (.normal, s) => match resA E s rs with
    | some v => some (v, s.2)
    | none => none
  | some (.ret, s) => match resA E s rs with
    | some v => some (v, s.2)
    | none => none
  | _ => none

section
variable {E : Env} {C : Callee} {fg : Nat → List Nat} {B n N : Nat} {E0 : AHeap}

theorem x_seq {c a b : Code} (h : c = .seq a b) (s : St) : execA E C fg B n E0 N c s = seqX (execA E C fg B n E0 N a s) (execA E C fg B n E0 N b) := by
  subst h; simp only [execA, seqX]; rfl
theorem x_skip {c : Code} (h : c = .skip) (s : St) : execA E C fg B n E0 N c s = some (.normal, s) := by subst h; simp only [execA]
theorem x_label {c : Code} {l} (h : c = .label l) (s : St) : execA E C fg B n E0 N c s = some (.normal, s) := by subst h; simp only [execA]
theorem x_ret {c : Code} (h : c = .ret) (s : St) : execA E C fg B n E0 N c s = some (.ret, s) := by subst h; simp only [execA]
theorem x_exit {c : Code} {id} (h : c = .exit id) (s : St) : execA E C fg B n E0 N c s = some (.exit id, s) := by subst h; simp only [execA]
theorem x_reg {c : Code} {id ops} {l : List Nat} (h : c = .region id ops false) (hl : fg id = l) (s : St) : execA E C fg B n E0 N c s = regX (runA E C B n ops ops.toList s) (fun s => gcM E0 l (forget s.1 l, s.2)) := by
  subst h; subst hl; simp only [execA, regA, regX]
  split <;> rename_i h <;> simp only [h]
theorem x_draw {c : Code} {id ops} {l : List Nat} (h : c = .region id ops true) (hl : fg id = l) (s : St) : execA E C fg B n E0 N c s = regX (drawA E C B n ops s) (fun s => gcM E0 l (forget s.1 l, s.2)) := by
  subst h; subst hl; simp only [execA, regA, regX]
  split <;> rename_i h <;> simp only [h]
theorem x_cond {c : Code} {x t e} (h : c = .cond x t e) (s : St) : execA E C fg B n E0 N c s = condX (evO E s.1 x) (execA E C fg B n E0 N t s) (execA E C fg B n E0 N e s) := by
  subst h; simp only [execA, condX]; rfl
theorem x_block {c : Code} {id b} {l : List Nat} (h : c = .block id b) (hl : fg (id + 1000000) = l) (s : St) : execA E C fg B n E0 N c s = blockX id (fun s => (forget s.1 l, s.2)) (execA E C fg B n E0 N b s) := by
  subst h; subst hl; simp only [execA, blockX]; rfl
theorem x_loop {c : Code} {b} (h : c = .loop b) (s : St) : execA E C fg B n E0 N c s = iterA (execA E C fg B n E0 N b) (headA E0) N s := by
  subst h; simp only [execA]
theorem x_scope {c : Code} {b} (h : c = .scope b) (s : St) : execA E C fg B n E0 N c s = execA E C fg B n E0 N b s := by
  subst h; simp only [execA]

theorem fset_get : ∀ (φ : AFr) (i : Nat), fset φ i (fget φ i) = φ
  | [], _ => rfl
  | (k, a) :: t, i => by
    simp only [fset, fget_c]
    cases h : Nat.beq k i
    · rw [if_neg (Nat.ne_of_beq_eq_false h)]
      simp only [cond_false]
      rw [fset_get t i]
    · rw [if_pos (Nat.eq_of_beq_eq_true h)]; rfl
theorem s_gd {ops : Array Oper} {o oj : Oper} {j dj : Nat} {want : Bool} {φ : AFr} {H : AHeap} {no yes : AFr → Option St} (hg : o.guard = some (j, want)) (hj : ops[j]? = some oj) (hd : oj.dst = some dj) (hn : ∀ φ, fin n o φ (.tup []) H = no φ) (hy : ∀ φ, goA E C B n o (φ, H) = yes φ) :
    stepA E C B n ops o (φ, H) = gd φ dj want no yes := by
  simp only [stepA, hg, wantA, hj, hd, gd]
  have hs := fset_get φ dj
  cases h : fget φ dj <;> simp only [hn, hy]
  rename_i b
  rw [h] at hs
  cases b <;> cases want <;> simp [hs]

theorem run_nil (ops : Array Oper) (s : St) : runA E C B n ops [] s = some s := rfl
theorem run_cons (ops : Array Oper) (o : Oper) (os : List Oper) (s : St) : runA E C B n ops (o :: os) s = bindR (stepA E C B n ops o s) (runA E C B n ops os) := by
  simp only [runA, bindR]; rfl

theorem bodyA_eq {fgf : FuncId → Nat → List Nat} {f : FuncId} {nt : Nat} {rs : Array ResultVar} {c : Code} (h : fInfo E f = some ⟨nt, rs, c⟩) (args : List AV) (H : AHeap) :
    bodyA E C fgf N f args H B = bodyX E rs.toList (execA E C (fgf f) B nt H N c (frame0 args 0 [], H)) := by
  simp only [bodyA, h, bodyX]; rfl

@[simp] theorem seqX_normal (s : St) (k) : seqX (some (.normal, s)) k = k s := rfl
@[simp] theorem seqX_ret (s : St) (k) : seqX (some (.ret, s)) k = some (.ret, s) := rfl
@[simp] theorem seqX_exit (i) (s : St) (k) : seqX (some (.exit i, s)) k = some (.exit i, s) := rfl
@[simp] theorem seqX_none (k) : seqX none k = none := rfl
@[simp] theorem seqX_ite (p : Prop) [Decidable p] (a b : XR) (k) : seqX (if p then a else b) k = if p then seqX a k else seqX b k := by split <;> rfl
@[simp] theorem bindR_some (s : St) (k) : bindR (some s) k = k s := rfl
@[simp] theorem bindR_none (k) : bindR none k = none := rfl
@[simp] theorem bindR_ite (p : Prop) [Decidable p] (a b) (k) : bindR (if p then a else b) k = if p then bindR a k else bindR b k := by split <;> rfl
@[simp] theorem regX_some (s : St) (k) : regX (some s) k = some (.normal, k s) := rfl
@[simp] theorem regX_none (k) : regX none k = none := rfl
@[simp] theorem regX_ite (p : Prop) [Decidable p] (a b) (k) : regX (if p then a else b) k = if p then regX a k else regX b k := by split <;> rfl
@[simp] theorem condX_bool (b : Bool) (t e : XR) : condX (.bool b) t e = if b = true then t else e := by cases b <;> rfl
@[simp] theorem blockX_exit (id : Nat) (k) (i : Nat) (s : St) : blockX id k (some (.exit i, s)) = if i = id then some (.normal, k s) else some (.exit i, s) := by
  simp only [blockX]
  split <;> rename_i h
  · rw [if_pos (Nat.eq_of_beq_eq_true h)]
  · rw [if_neg (Nat.ne_of_beq_eq_false h)]
@[simp] theorem blockX_normal (id : Nat) (k) (s : St) : blockX id k (some (.normal, s)) = some (.normal, k s) := rfl
@[simp] theorem blockX_ret (id : Nat) (k) (s : St) : blockX id k (some (.ret, s)) = some (.ret, s) := rfl
@[simp] theorem blockX_none (id : Nat) (k) : blockX id k none = none := rfl
@[simp] theorem blockX_ite (id : Nat) (k) (p : Prop) [Decidable p] (a b) : blockX id k (if p then a else b) = if p then blockX id k a else blockX id k b := by split <;> rfl
theorem gd_bool {φ : AFr} {k : Nat} {b : Bool} (h : fget φ k = .bool b) (want : Bool) (no yes) : gd φ k want no yes = if b = want then yes (fset φ k (.bool want)) else no (fset φ k (.bool !want)) := by
  simp only [gd, h]
theorem fset_nil (i : Nat) (b : AV) : fset [] i b = [] := rfl
theorem fset_cons (k : Nat) (a : AV) (t : AFr) (i : Nat) (b : AV) : fset ((k, a) :: t) i b = if k = i then (k, b) :: t else (k, a) :: fset t i b := rfl
@[simp] theorem bodyX_ite (rs) (p : Prop) [Decidable p] (a b) : bodyX E rs (if p then a else b) = if p then bodyX E rs a else bodyX E rs b := by split <;> rfl
theorem bodyX_ret (rs) (s : St) : bodyX E rs (some (.ret, s)) = (resA E s rs).map fun v => (v, s.2) := by
  simp only [bodyX]; cases resA E s rs <;> rfl
theorem bodyX_normal (rs) (s : St) : bodyX E rs (some (.normal, s)) = (resA E s rs).map fun v => (v, s.2) := by
  simp only [bodyX]; cases resA E s rs <;> rfl

theorem putD_some (d : Nat) (φ : AFr) (v : AV) : putD (some d) φ v = fput φ d v := rfl
theorem putD_none (φ : AFr) (v : AV) : putD none φ v = φ := rfl
theorem iterA_succ (f : St → XR) (hd : St → St) (k : Nat) (s : St) : iterA f hd (k + 1) s = seqX (f (hd s)) (iterA f hd k) := by
  simp only [iterA, seqX]; rfl
/-- A loop: 'st k' is the state at its head (what is dropped is dropped) when k rounds are over; round n leaves it. -/
theorem iter_all {f : St → XR} {hd : St → St} (st : Nat → St) : ∀ (n F k : Nat) (s0 : St), hd s0 = st k → n < F →
    (∀ i, k ≤ i → i < k + n → ∃ s', f (st i) = some (.normal, s') ∧ hd s' = st (i + 1)) → ∀ {e : Ex} {se : St}, f (st (k + n)) = some (e, se) → e ≠ .normal → iterA f hd F s0 = some (e, se)
  | 0, F + 1, k, s0, h0, _, _, e, se, he, hn => by
    rw [iterA_succ, h0]
    rw [Nat.add_zero] at he
    rw [he]
    cases e with
    | normal => exact absurd rfl hn
    | ret => rfl
    | exit i => rfl
  | n + 1, F + 1, k, s0, h0, hF, h, e, se, he, hn => by
    obtain ⟨s', h1, h2⟩ := h k (Nat.le_refl _) (by omega)
    rw [iterA_succ, h0, h1, seqX_normal]
    refine iter_all st n F (k + 1) s' h2 (by omega) (fun i h3 h4 => h i (by omega) (by omega)) (e := e) (se := se) ?_ hn
    rw [show k + 1 + n = k + (n + 1) by omega]
    exact he
  | _, 0, _, _, _, hF, _, _, _, _, _ => absurd hF (by omega)
theorem callV_eq {f : AV} {args : List AV} (h : mutV E f args = none) (Bn : Nat) (d : Option Nat) (site) (φ H) (keep) : callV E C Bn d site φ H f args keep = stp d φ H (opCallV E C site keep f args) := by
  simp only [callV, h]
/-- A result that leads nowhere, of a call. -/
theorem aBack_plain {site : Nat → Nat} {seen : List Nat} {f : FuncId} {args : List AV} {r : AV} {H' : AHeap} (h : C f args [] 0 = some (r, H')) (ht : frzRet H' r = some (r, H')) (hi : ∀ site, imp H' site 200 r [] [] = some (r, [], [])) (hl : r.leads = false) :
    aBack site true seen (thaw C f args [] 0) = .pure (r, []) := by
  simp only [thaw, h, ht, aBack, sitesB, freeOff, allFree, aBackAt, hi, List.map_nil, AM.apart, if_true, freeAll, Rd.bind, hl]
theorem aBack_int {site : Nat → Nat} {seen : List Nat} {f : FuncId} {args : List AV} {k : IntKind} {z : Int} (h : ∃ H', C f args [] 0 = some (.int k z, H')) : aBack site true seen (thaw C f args [] 0) = .pure (.int k z, []) := by
  obtain ⟨H', h⟩ := h; exact aBack_plain h rfl (fun _ => rfl) rfl
theorem aBack_bool {site : Nat → Nat} {seen : List Nat} {f : FuncId} {args : List AV} {b : Bool} (h : ∃ H', C f args [] 0 = some (.bool b, H')) : aBack site true seen (thaw C f args [] 0) = .pure (.bool b, []) := by
  obtain ⟨H', h⟩ := h; exact aBack_plain h rfl (fun _ => rfl) rfl
theorem aBack_ints {site : Nat → Nat} {seen : List Nat} {f : FuncId} {args : List AV} {k k' : IntKind} {z z' : Int} (h : ∃ H', C f args [] 0 = some (.tup [.int k z, .int k' z'], H')) : aBack site true seen (thaw C f args [] 0) = .pure (.tup [.int k z, .int k' z'], []) := by
  obtain ⟨H', h⟩ := h; exact aBack_plain h rfl (fun _ => rfl) rfl
theorem aBack_boolint {site : Nat → Nat} {seen : List Nat} {f : FuncId} {args : List AV} {k' : IntKind} {z : Bool} {z' : Int} (h : ∃ H', C f args [] 0 = some (.tup [.bool z, .int k' z'], H')) : aBack site true seen (thaw C f args [] 0) = .pure (.tup [.bool z, .int k' z'], []) := by
  obtain ⟨H', h⟩ := h; exact aBack_plain h rfl (fun _ => rfl) rfl
theorem wrp_id {k : IntKind} {z : Int} (h1 : kLo k ≤ z) (h2 : z ≤ kHi k) : wrp k z = z := by
  simp only [wrp, if_pos (And.intro h1 h2)]
theorem wrp64 {z : Int} (h : -9223372036854775808 ≤ z ∧ z ≤ 9223372036854775807) : wrp .i64 z = z := wrp_id h.1 h.2
theorem wrp_succ {k : Nat} (h : k < 1000000) : wrp .i64 ((k : Int) + 1) = ((k + 1 : Nat) : Int) := by
  rw [wrp64 (by omega)]; rfl

/-! Results that hang on tests alone -/
abbrev rsOf (r : Option (AV × AHeap)) : Option AV := r.map (·.1)
theorem rs_ite (p : Prop) [Decidable p] (a b : Option (AV × AHeap)) : rsOf (if p then a else b) = if p then rsOf a else rsOf b := by split <;> rfl
theorem rs_some (v : AV) (H : AHeap) : rsOf (some (v, H)) = some v := rfl
theorem m_int (p : Prop) [Decidable p] (k : IntKind) (a b : Int) : (if p then some (AV.int k a) else some (AV.int k b)) = some (AV.int k (if p then a else b)) := by split <;> rfl
theorem m_bool (p : Prop) [Decidable p] (a b : Bool) : (if p then some (AV.bool a) else some (AV.bool b)) = some (AV.bool (if p then a else b)) := by split <;> rfl
theorem m_ints (p : Prop) [Decidable p] (k l : IntKind) (a b c d : Int) : (if p then some (AV.tup [AV.int k a, AV.int l c]) else some (AV.tup [AV.int k b, AV.int l d])) = some (AV.tup [AV.int k (if p then a else b), AV.int l (if p then c else d)]) := by split <;> rfl
theorem m_boolint (p : Prop) [Decidable p] (l : IntKind) (a b : Bool) (c d : Int) : (if p then some (AV.tup [AV.bool a, AV.int l c]) else some (AV.tup [AV.bool b, AV.int l d])) = some (AV.tup [AV.bool (if p then a else b), AV.int l (if p then c else d)]) := by split <;> rfl
theorem rs_ex {r : Option (AV × AHeap)} {v : AV} (h : rsOf r = some v) : ∃ H', r = some (v, H') := by
  cases r with
  | none => exact absurd h (by simp)
  | some x => obtain ⟨a, H⟩ := x; simp at h; exact ⟨H, by rw [h]⟩

/-! Frames and heaps -/
theorem fget_nil (i : Nat) : fget [] i = .any := rfl
theorem fget_cons' (k : Nat) (a : AV) (t : AFr) (i : Nat) : fget ((k, a) :: t) i = if k = i then a else fget t i := by
  simp only [fget_c]
  cases h : Nat.beq k i
  · rw [if_neg (Nat.ne_of_beq_eq_false h)]; rfl
  · rw [if_pos (Nat.eq_of_beq_eq_true h)]; rfl
theorem fput_nil (i : Nat) (b : AV) : fput [] i b = [(i, b)] := rfl
theorem fput_cons' (k : Nat) (c : AV) (t : AFr) (i : Nat) (b : AV) : fput ((k, c) :: t) i b = if k = i then (i, b) :: t else if i ≤ k then (k, c) :: fput t i b else (i, b) :: (k, c) :: t := by
  simp only [fput_c]
  cases h : Nat.beq k i
  · rw [if_neg (Nat.ne_of_beq_eq_false h)]
    simp only [cond_false]
    cases h2 : Nat.ble i k
    · rw [if_neg (by intro h3; rw [Nat.ble_eq_true_of_le h3] at h2; exact absurd h2 (by simp))]; rfl
    · rw [if_pos (Nat.le_of_ble_eq_true h2)]; rfl
  · rw [if_pos (Nat.eq_of_beq_eq_true h)]; rfl
theorem forget_nil (l : List Nat) : forget [] l = [] := rfl
theorem forget_cons' (k : Nat) (a : AV) (t : AFr) (l : List Nat) : forget ((k, a) :: t) l = if l.elem k = true then forget t l else (k, a) :: forget t l := by
  simp only [forget_c]; cases l.elem k <;> rfl
theorem hget_nil' (i : Nat) : hget [] i = none := rfl
theorem hget_cons' (k : Nat) (b : Blk) (t : AHeap) (i : Nat) : hget ((k, b) :: t) i = if k = i then some b else hget t i := by
  simp only [hget_c]
  cases h : Nat.beq k i
  · rw [if_neg (Nat.ne_of_beq_eq_false h)]; rfl
  · rw [if_pos (Nat.eq_of_beq_eq_true h)]; rfl
theorem hset_nil' (i : Nat) (b : Blk) : hset [] i b = [(i, b)] := rfl
theorem hset_cons' (k : Nat) (c : Blk) (t : AHeap) (i : Nat) (b : Blk) : hset ((k, c) :: t) i b = if k = i then (i, b) :: t else if k ≤ i then (k, c) :: hset t i b else (i, b) :: (k, c) :: t := by
  simp only [hset_c]
  cases h : Nat.beq k i
  · rw [if_neg (Nat.ne_of_beq_eq_false h)]
    simp only [cond_false]
    cases h2 : Nat.ble k i
    · rw [if_neg (by intro h3; rw [Nat.ble_eq_true_of_le h3] at h2; exact absurd h2 (by simp))]; rfl
    · rw [if_pos (Nat.le_of_ble_eq_true h2)]; rfl
  · rw [if_pos (Nat.eq_of_beq_eq_true h)]; rfl
theorem liveBlk_eq (i gl : Nat) : Rd.liveBlk i gl = .get i fun
    | some b => if gl = b.cells.length then (match b.st with | .mp => .fail | _ => .pure b) else .fail
    | none => .fail := by
  simp only [Rd.liveBlk]
  congr 1
  funext b
  cases b with
  | none => rfl
  | some b =>
    simp only
    cases h : Nat.beq gl b.cells.length
    · rw [if_neg (Nat.ne_of_beq_eq_false h)]; rfl
    · rw [if_pos (Nat.eq_of_beq_eq_true h)]; rfl
theorem headA_drop (φ : AFr) (H : AHeap) (h : refsF φ = []) : headA [] (φ, H) = (φ, []) := by
  have h1 : ∀ H : AHeap, keepB [] [] H = [] := by
    intro H
    induction H with
    | nil => rfl
    | cons p t ih => obtain ⟨i, b⟩ := p; simp only [keepB, hget_n, List.elem_nil, Option.isSome_none, Bool.or_false, cond_false, ih]
  simp only [headA, h, mark, h1, gcIf, closedB, allHeld, closedH, Bool.and_true]
theorem headA_nil (E0 : AHeap) (φ : AFr) : headA E0 (φ, []) = (φ, []) := by
  simp only [headA, keepB, gcIf]; split <;> rfl


/-! ### Regions that draw their order -/
noncomputable def stepT (E : Env) (C : Callee) (B n : Nat) (ops : Array Oper) (o : Oper) (s : St) : Option (St × Tr) := (stepA E C B n ops o s).map fun s' => (s', trA E C B n ops o s)
noncomputable def goT (E : Env) (C : Callee) (B n : Nat) (o : Oper) (s : St) : Option (St × Tr) := (goA E C B n o s).map fun s' => (s', trG E C B n o s)
noncomputable def trS (r : Rd (AV × Ups)) (H : AHeap) : Tr :=
  match r.run H with
  | some (_, us) => ⟨false, r.foot H, us.map (·.1)⟩
  | none => ⟨true, [], []⟩
noncomputable def stpT (d : Option Nat) (φ : AFr) (H : AHeap) (r : Rd (AV × Ups)) : Option (St × Tr) :=
  match r.run H with
  | some (v, us) => some ((putD d φ v, upds H us), ⟨false, r.foot H, us.map (·.1)⟩)
  | none => none
noncomputable def trV (E : Env) (C : Callee) (site : Nat → Nat) (H : AHeap) (f : AV) (args : List AV) (keep : Bool) : Tr :=
  match mutV E f args with
  | some _ => ⟨true, [], []⟩
  | none => trS (opCallV E C site keep f args) H
noncomputable def callVT (E : Env) (C : Callee) (Bn : Nat) (d : Option Nat) (site : Nat → Nat) (φ : AFr) (H : AHeap) (f : AV) (args : List AV) (keep : Bool) : Option (St × Tr) :=
  match mutV E f args with
  | some (g, as) => (mutX d φ (C g as H Bn)).map fun s => (s, ⟨true, [], []⟩)
  | none => stpT d φ H (opCallV E C site keep f args)
noncomputable def gdT (φ : AFr) (k : Nat) (want : Bool) (no yes : AFr → Option (St × Tr)) : Option (St × Tr) :=
  match fget φ k with
  | .bool b => if b = want then yes (fset φ k (.bool want)) else no (fset φ k (.bool !want))
  | .tup _ => no φ
  | _ => none
theorem goT_R {o : Oper} {φ : AFr} {H : AHeap} {d} {R : Rd (AV × Ups)} (h : goA E C B n o (φ, H) = stp d φ H R) (ht : trG E C B n o (φ, H) = trS R H) : goT E C B n o (φ, H) = stpT d φ H R := by
  simp only [goT, h, ht, stp, stpT, trS]
  cases R.run H <;> rfl
theorem goT_mv {o : Oper} {φ : AFr} {H : AHeap} {s'} (h : goA E C B n o (φ, H) = some s') (ht : trG E C B n o (φ, H) = ⟨false, [], []⟩) : goT E C B n o (φ, H) = some (s', ⟨false, [], []⟩) := by
  simp only [goT, h, ht, Option.map_some]
theorem goT_M {o : Oper} {φ : AFr} {H : AHeap} {r} (h : goA E C B n o (φ, H) = r) (ht : trG E C B n o (φ, H) = ⟨true, [], []⟩) : goT E C B n o (φ, H) = r.map fun s => (s, ⟨true, [], []⟩) := by
  simp only [goT, h, ht]
theorem goT_V {o : Oper} {φ : AFr} {H : AHeap} {Bn d site f args keep} (h : goA E C B n o (φ, H) = callV E C Bn d site φ H f args keep) (ht : trG E C B n o (φ, H) = trV E C site H f args keep) :
    goT E C B n o (φ, H) = callVT E C Bn d site φ H f args keep := by
  simp only [goT, h, ht, callV, callVT, trV]
  cases mutV E f args with
  | none =>
    simp only [stp, stpT, trS]
    cases (opCallV E C site keep f args).run H <;> rfl
  | some x => rfl
theorem stT_go {ops : Array Oper} {o : Oper} {s : St} {x} (hg : o.guard = none) (h : goT E C B n o s = x) : stepT E C B n ops o s = x := by
  rw [← h]; simp only [stepT, goT, stepA, trA, hg]
theorem stT_gd {ops : Array Oper} {o oj : Oper} {j dj : Nat} {want : Bool} {φ : AFr} {H : AHeap} {no : AFr → Option St} {yes : AFr → Option (St × Tr)} (hg : o.guard = some (j, want)) (hj : ops[j]? = some oj) (hd : oj.dst = some dj) (hn : ∀ φ, fin n o φ (.tup []) H = no φ) (hy : ∀ φ, goT E C B n o (φ, H) = yes φ) :
    stepT E C B n ops o (φ, H) = gdT φ dj want (fun φ => (no φ).map fun s => (s, ⟨false, [], []⟩)) yes := by
  have hs := fset_get φ dj
  simp only [stepT, stepA, trA, hg, wantA, hj, hd, gdT]
  cases h : fget φ dj with
  | bool b =>
    rw [h] at hs
    cases b <;> cases want <;> simp only [hs, beq_self_eq_true, if_true, Bool.not_true, Bool.not_false, hn, ← hy, goT] <;> rfl
  | tup l => simp only [hn]
  | _ => rfl
theorem callVT_eq {f : AV} {args : List AV} (h : mutV E f args = none) (Bn : Nat) (d : Option Nat) (site) (φ H) (keep) : callVT E C Bn d site φ H f args keep = stpT d φ H (opCallV E C site keep f args) := by
  simp only [callVT, h]
noncomputable def rtX (n i : Nat) (r : Option (St × Tr)) (k : St → Option (St × List (Nat × Tr))) : Option (St × List (Nat × Tr)) :=
  match r with
  | some (s', t) => match neat n s' with
    | true => match k s' with
      | some (s2, l) => some (s2, (i, t) :: l)
      | none => none
    | false => none
  | none => none
theorem runT_nil (ops : Array Oper) (i : Nat) (s : St) : runT E C B n ops [] i s = some (s, []) := rfl
theorem runT_cons (ops : Array Oper) (o : Oper) (os : List Oper) (i : Nat) (s : St) : runT E C B n ops (o :: os) i s = rtX n i (stepT E C B n ops o s) (runT E C B n ops os (i + 1)) := by
  simp only [runT, stepT, rtX]
  cases stepA E C B n ops o s with
  | none => rfl
  | some s' =>
    simp only [Option.map_some]
    cases neat n s' <;> rfl
def addT (i : Nat) (t : Tr) (r : Option (St × List (Nat × Tr))) : Option (St × List (Nat × Tr)) :=
  match r with
  | some (s2, l) => some (s2, (i, t) :: l)
  | none => none
theorem rtX_some (i : Nat) (s' : St) (t : Tr) (k) : rtX n i (some (s', t)) k = if neat n s' = true then addT i t (k s') else none := by
  simp only [rtX, addT]; cases neat n s' <;> rfl
theorem rtX_none (i : Nat) (k) : rtX n i none k = none := rfl
theorem rtX_ite (i : Nat) (p : Prop) [Decidable p] (a b) (k) : rtX n i (if p then a else b) k = if p then rtX n i a k else rtX n i b k := by split <;> rfl
theorem addT_some (i : Nat) (t : Tr) (s l) : addT i t (some (s, l)) = some (s, (i, t) :: l) := rfl
theorem addT_none (i : Nat) (t : Tr) : addT i t none = none := rfl
theorem addT_ite (i : Nat) (t : Tr) (p : Prop) [Decidable p] (a b) : addT i t (if p then a else b) = if p then addT i t a else addT i t b := by split <;> rfl
def drX (ops : Array Oper) (r : Option (St × List (Nat × Tr))) : Option St :=
  match r with
  | some (s', l) => if dynOk ops l = true then some s' else none
  | none => none
theorem drX_some (ops : Array Oper) (s' l) : drX ops (some (s', l)) = if dynOk ops l = true then some s' else none := rfl
theorem drX_none (ops : Array Oper) : drX ops none = none := rfl
theorem drX_ite (ops : Array Oper) (p : Prop) [Decidable p] (a b) : drX ops (if p then a else b) = if p then drX ops a else drX ops b := by split <;> rfl
theorem draw_eq {ops : Array Oper} (h : statOk ops = true) (s : St) : drawA E C B n ops s = if neat n s = true then drX ops (runT E C B n ops ops.toList 0 s) else none := by
  simp only [drawA, h, drX]
  cases neat n s with
  | false => rfl
  | true =>
    simp only [if_true]
    cases runT E C B n ops ops.toList 0 s with
    | none => rfl
    | some x =>
      obtain ⟨s', l⟩ := x
      simp only
      cases dynOk ops l <;> rfl
theorem dynOk_eq {ops : Array Oper} {an : List (List Nat)} (h : ancs ops.toList [] = an) (l) : dynOk ops l = (!writing l || dynPairs an (touching l)) := by simp only [dynOk, h]
theorem neat_eq (n : Nat) (φ : AFr) (H : AHeap) : neat n (φ, H) = (descF n φ && ascH 0 H) := rfl
theorem descF_nil' (h : Nat) : descF h [] = true := rfl
theorem descF_cons' (hi k : Nat) (a : AV) (t : AFr) : descF hi ((k, a) :: t) = (decide (k + 1 ≤ hi) && descF k t) := by
  simp only [descF_c]; congr 1
  cases h : Nat.ble (k + 1) hi
  · rw [eq_comm, decide_eq_false_iff_not]; intro h2; rw [Nat.ble_eq_true_of_le h2] at h; exact absurd h (by simp)
  · rw [eq_comm, decide_eq_true_eq]; exact Nat.le_of_ble_eq_true h
theorem ascH_nil' (h : Nat) : ascH h [] = true := rfl
theorem ascH_cons' (lo k : Nat) (a : Blk) (t : AHeap) : ascH lo ((k, a) :: t) = (decide (lo ≤ k) && ascH (k + 1) t) := by
  simp only [ascH_c]; congr 1
  cases h : Nat.ble lo k
  · rw [eq_comm, decide_eq_false_iff_not]; intro h2; rw [Nat.ble_eq_true_of_le h2] at h; exact absurd h (by simp)
  · rw [eq_comm, decide_eq_true_eq]; exact Nat.le_of_ble_eq_true h

end
end Go.AM
