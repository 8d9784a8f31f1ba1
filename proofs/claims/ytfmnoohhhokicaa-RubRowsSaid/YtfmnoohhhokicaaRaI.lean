/- A part of the proof of rubRows_holds: RubS, BasR, HandR, SyX, SyR, RuA, RuB. Own work of this project; texts printed by own programs among it. -/
import Derived.KernelRfl
import Derived.Test.YtfmnoohhhokicaaRaH
section
namespace Go.AM.Rub
set_option maxRecDepth 100000
theorem isRow_of : ∀ {m : Int} {l : List Int}, (∀ i, i < l.length → 0 ≤ rowF l i) → (0 < l.length → rowF l 0 ≤ m) → DescF (rowF l) l.length → IsRow m l
  | _, [], _, _, _ => trivial
  | m, x :: l, h1, h2, h3 => by
    refine ⟨h1 0 (by simp), h2 (by simp), isRow_of (fun i hi => ?_) (fun hl => ?_) (fun i hi => ?_)⟩
    · have := h1 (i + 1) (by simpa using hi); simpa [rowF] using this
    · have := h3 0 (by simpa using hl); simpa [rowF] using this
    · have := h3 (i + 1) (by simpa using hi); simpa [rowF] using this
theorem isRow_at : ∀ {m : Int} {l : List Int}, IsRow m l → ∀ i, i < l.length → 0 ≤ rowF l i ∧ rowF l i ≤ m
  | _, [], _, i, hi => by simp at hi
  | m, x :: l, ⟨h1, h2, h3⟩, i, hi => by
    cases i with
    | zero => simp only [rowF]; simp; exact ⟨h1, h2⟩
    | succ i =>
      have := isRow_at h3 i (by simpa using hi)
      have e : rowF (x :: l) (i + 1) = rowF l i := by simp [rowF]
      rw [e]; omega
theorem row_ext {a b : List Int} (hl : a.length = b.length) (h : ∀ i, i < a.length → rowF a i = rowF b i) : a = b := by
  apply List.ext_getElem hl
  intro i h1 h2
  have := h i h1
  simpa [rowF, h1, h2] using this
/-- One unit goes from i to j. -/
def mvL (l : List Int) (i j : Nat) : List Int := (l.set i (rowF l i - 1)).set j (rowF l j + 1)
theorem mvL_length (l : List Int) (i j : Nat) : (mvL l i j).length = l.length := by simp [mvL]
/-- The last one of those alike, and the first one. -/
def lastEq (l : List Int) : Nat → Nat → Nat
  | i, 0 => i
  | i, m + 1 => if i + 1 < l.length ∧ rowF l (i + 1) = rowF l i then lastEq l (i + 1) m else i
def firstEq (l : List Int) : Nat → Nat
  | 0 => 0
  | j + 1 => if rowF l j = rowF l (j + 1) then firstEq l j else j + 1
theorem lastEq_spec {l : List Int} (hd : DescF (rowF l) l.length) : ∀ (m i : Nat), i + m + 1 ≥ l.length → i < l.length → i ≤ lastEq l i m ∧ lastEq l i m < l.length ∧ rowF l (lastEq l i m) = rowF l i ∧ ∀ k, lastEq l i m < k → k < l.length → rowF l k < rowF l i
  | 0, i, h1, h2 => ⟨Nat.le_refl _, h2, rfl, fun k hk hk2 => by simp only [lastEq] at hk; omega⟩
  | m + 1, i, h1, h2 => by
    simp only [lastEq]
    by_cases h : i + 1 < l.length ∧ rowF l (i + 1) = rowF l i
    · rw [if_pos h]
      obtain ⟨a, b, c, d⟩ := lastEq_spec hd m (i + 1) (by omega) h.1
      exact ⟨by omega, b, by rw [c, h.2], fun k hk hk2 => by rw [← h.2]; exact d k hk hk2⟩
    · rw [if_neg h]
      refine ⟨Nat.le_refl _, h2, rfl, fun k hk hk2 => ?_⟩
      have h3 : ¬ rowF l (i + 1) = rowF l i := fun e => h ⟨by omega, e⟩
      have h4 := hd i (by omega)
      have h5 := desc_ij hd (show i + 1 ≤ k by omega) hk2
      omega
theorem firstEq_spec {l : List Int} (hd : DescF (rowF l) l.length) : ∀ j, j < l.length → firstEq l j ≤ j ∧ rowF l (firstEq l j) = rowF l j ∧ ∀ k, k < firstEq l j → rowF l j < rowF l k
  | 0, _ => ⟨Nat.le_refl _, rfl, fun k hk => by simp only [firstEq] at hk; omega⟩
  | j + 1, hj => by
    simp only [firstEq]
    by_cases h : rowF l j = rowF l (j + 1)
    · rw [if_pos h]
      obtain ⟨a, b, c⟩ := firstEq_spec hd j (by omega)
      exact ⟨by omega, by rw [b, h], fun k hk => by rw [← h]; exact c k hk⟩
    · rw [if_neg h]
      refine ⟨Nat.le_refl _, rfl, fun k hk => ?_⟩
      have h4 := hd j hj
      have h5 := desc_ij hd (show k ≤ j by omega) (by omega)
      omega
/-- The row after a rubbing. -/
def rubL (l : List Int) (i j : Nat) : List Int := mvL l (lastEq l i l.length) (firstEq l j)
/-- A row of n stones. -/
structure Rw (n : Nat) (l : List Int) : Prop where
  len : l.length = n
  row : IsRow 8 l
/-- A rubbing of two stones that differ by at least 2. -/
structure Rb (n : Nat) (l : List Int) (i j : Nat) : Prop where
  lt : i < j
  lj : j < n
  df : rowF l i - rowF l j ≥ 2
theorem rub_ends {n : Nat} {l : List Int} (h : Rw n l) {i j : Nat} (r : Rb n l i j) : Rb n l (lastEq l i l.length) (firstEq l j) ∧ DescF (mvF (rowF l) (lastEq l i l.length) (firstEq l j)) n := by
  have hl := h.len
  have hd := row_desc h.row
  obtain ⟨a1, a2, a3, a4⟩ := lastEq_spec hd l.length i (by omega) (by have := r.lt; have := r.lj; omega)
  obtain ⟨b1, b2, b3⟩ := firstEq_spec hd j (by have := r.lj; omega)
  have rd := r.df
  have rj := r.lj
  have hij : lastEq l i l.length < firstEq l j := by
    by_cases e : lastEq l i l.length < firstEq l j
    · exact e
    · have := desc_ij hd (show firstEq l j ≤ lastEq l i l.length by omega) a2
      omega
  refine ⟨⟨hij, by omega, by omega⟩, fun m hm => ?_⟩
  have dm := hd m (by omega)
  simp only [mvF]
  generalize lastEq l i l.length = i' at *
  generalize firstEq l j = j' at *
  by_cases e1 : m + 1 = i'
  · rw [if_pos e1, if_neg (by omega), if_neg (by omega)]; omega
  · rw [if_neg e1]
    by_cases e2 : m + 1 = j'
    · rw [if_pos e2]
      have := b3 m (by omega)
      by_cases e3 : m = i'
      · rw [if_pos e3, e2, e3]; omega
      · rw [if_neg e3, if_neg (by omega), e2]; omega
    · rw [if_neg e2]
      by_cases e3 : m = i'
      · rw [if_pos e3]
        have := a4 (m + 1) (by omega) (by omega)
        rw [e3] at this ⊢; omega
      · rw [if_neg e3]
        by_cases e4 : m = j'
        · rw [if_pos e4]; omega
        · rw [if_neg e4]; exact dm
end Go.AM.Rub
end

section
namespace Go.AM.Ytfmnoohhhokicaa
open Go Go.AM Go.AM.Rub
set_option maxRecDepth 100000
/-- The runs of functions, and what their bodies see of them. -/
noncomputable def pF (d : Nat) : Callee := callF E fr fg 1000000 d
noncomputable def kF (d : Nat) : Callee := frC fr (pF d)
theorem kF_no {d : Nat} {f : FuncId} (hf : fr f = false) (args : List AV) (H : AHeap) (B : Nat) : kF (d + 1) f args H B = bodyA E (kF d) fg 1000000 f args H B := by
  unfold kF frC
  rw [hf]
  rfl
theorem kF_ex {d : Nat} {f : FuncId} {args : List AV} {v : AV} (hf : fr f = false) (h : rsOf (bodyA E (kF d) fg 1000000 f args [] 0) = some v) : ∃ H', kF (d + 1) f args [] 0 = some (v, H') := by
  rw [kF_no hf]; exact rs_ex h
/-- A loop of n rounds. -/
theorem loopM {E0 : AHeap} {f : St → XR} (st : Nat → St) (n : Nat) (h : ∀ i, i < n → ∃ s', f (st i) = some (.normal, s') ∧ headA E0 s' = st (i + 1)) (h0 : headA E0 (st 0) = st 0) (hn : n < 1000000) {e : Ex} {se : St} (he : f (st n) = some (e, se)) (hne : e ≠ .normal) :
    iterA f (headA E0) 1000000 (st 0) = some (e, se) :=
  iter_all st n 1000000 0 (st 0) h0 hn (fun i _ h2 => h i (by omega)) (by rw [Nat.zero_add]; exact he) hne
/-- .. that is left at once. -/
theorem loopM0 {E0 : AHeap} {f : St → XR} {s0 : St} (h0 : headA E0 s0 = s0) {e : Ex} {se : St} (he : f s0 = some (e, se)) (hne : e ≠ .normal) : iterA f (headA E0) 1000000 s0 = some (e, se) :=
  loopM (fun _ => s0) 0 (fun i hi => by omega) h0 (by omega) he hne
/-- A slice of integers as it is handed over. -/
def IV (l : List Int) (a : AV) : Prop := (l = [] ∧ a = .nilsl) ∨ ∃ ex, a = .imm (ics l) l.length ex
theorem iv_snap {l : List Int} {a : AV} (h : IV l a) (n : Nat) : snap (n + 1) a = .pure (a, []) := by
  rcases h with ⟨_, rfl⟩ | ⟨e, rfl⟩ <;> rfl
theorem iv_ne {l : List Int} {a : AV} (h : IV l a) (h0 : 0 < l.length) : ∃ ex, a = .imm (ics l) l.length ex := by
  rcases h with ⟨rfl, _⟩ | h
  · simp at h0
  · exact h
theorem iv_imm (l : List Int) (ex : Bool) : IV l (.imm (ics l) l.length ex) := .inr ⟨ex, rfl⟩
theorem rowF_at {l : List Int} {k : Nat} (h : k < l.length) : l[k]? = some (rowF l k) := by
  simp [rowF, h]
theorem icr_at {l : List Int} {k : Nat} (h : k < l.length) : (ics l)[k]? = some (.int .i64 (rowF l k)) := ics_at (rowF_at h)
theorem rw_b {n : Nat} {l : List Int} (h : Rw n l) {k : Nat} (hk : k < n) : 0 ≤ rowF l k ∧ rowF l k ≤ 8 := isRow_at h.row k (by rw [h.len]; exact hk)
theorem aBack_refcint {C : Callee} {site : Nat → Nat} {seen : List Nat} {f : FuncId} {args : List AV} {id m c sz gl : Nat} {k : IntKind} {z : Int} {cells : List AV} {H' : AHeap} (h : C f args [] 0 = some (.tup [.ref id 0 m c gl sz false, .int k z], H')) (hg : hget H' id = some ⟨.row, cells⟩) (hl : cells.length = gl) :
    aBack site true seen (thaw C f args [] 0) = back1 (site 0) seen (fun j => .tup [.ref j 0 m c gl sz false, .int k z]) ⟨.row, cells⟩ := by
  subst hl
  simp only [thaw, h, frzRet, aBack, sitesB, aBackAt, imp, imps, hg, List.length_nil, List.not_mem_nil, not_false_eq_true, and_true, if_true, List.map_cons, List.map_nil, AM.apart, List.elem_nil, Bool.not_false, Bool.and_true, AV.leads, AV.leads.leadsL, Bool.or_false, back1]
theorem room22 {n : Nat} (h : n ≤ 1000000) : roomOk E.T 3 n = true := by
  simp only [roomOk, T_3, decide_eq_true_eq]; exact ⟨by decide, rfl, by omega⟩
/-- A list of integers that is built. -/
theorem ov_pos {k n : Nat} (h : 0 < n) : oV k 1 n = .ref k 0 n n n 1 false := by
  obtain ⟨m, rfl⟩ : ∃ m, n = m + 1 := ⟨n - 1, by omega⟩
  simp only [oV, Nat.mul_one]
theorem ohi_pos {k : Nat} {l : List Int} (h : 0 < l.length) : oH k (ics l) = [(k, ⟨.row, ics l⟩)] := oH_ne k (by rw [ics_length]; exact h)
theorem asc_oH (k : Nat) (c : List AV) : ascH 0 (oH k c) = true := by
  cases c with
  | nil => rfl
  | cons a c => simp only [oH, ascH_cons', ascH_nil', Nat.zero_le, decide_true, Bool.and_true]
theorem ov_zero (k sz : Nat) : oV k sz 0 = .nilsl := rfl
/-- What was there when the call began stays. -/
theorem headA_keep {E0 : AHeap} {φ : AFr} {H : AHeap} (h : ∀ p ∈ H, (hget E0 p.1).isSome = true) : headA E0 (φ, H) = (φ, H) := by
  have key : ∀ (keep : List Nat) (H : AHeap), (∀ p ∈ H, (hget E0 p.1).isSome = true) → keepB E0 keep H = H := by
    intro keep H
    induction H with
    | nil => intro _; rfl
    | cons p t ih =>
      intro h
      obtain ⟨i, b⟩ := p
      simp only [keepB, h _ (List.mem_cons_self ..), Bool.or_true, cond_true, ih fun q hq => h q (List.mem_cons_of_mem _ hq)]
  simp only [headA, key _ H h, gcIf]
  split <;> rfl
theorem leads_ics : ∀ l : List Int, AV.leads.leadsL (ics l) = false
  | [] => rfl
  | a :: l => by
    have := leads_ics l
    simp only [ics, List.map_cons, AV.leads.leadsL, AV.leads, Bool.false_or] at this ⊢
    exact this
theorem imps_ics {Hc : AHeap} {site : Nat → Nat} {seen : List Nat} {up : List (Nat × Blk)} : ∀ (l : List Int) (d : Nat), l.length + 2 ≤ d → imps Hc site d (ics l) seen up = some (ics l, seen, up)
  | [], d + 1, _ => rfl
  | a :: l, d + 1, h => by
    have ih := imps_ics (Hc := Hc) (site := site) (seen := seen) (up := up) l d (by simp only [List.length_cons] at h; omega)
    obtain ⟨e, rfl⟩ : ∃ e, d = e + 1 := ⟨d - 1, by simp only [List.length_cons] at h; omega⟩
    have : ics (a :: l) = .int .i64 a :: ics l := rfl
    rw [this]
    simp only [imps, imp]
    rw [ih]
/-- An array of integers that comes back. -/
theorem aBack_aggics {C : Callee} {site : Nat → Nat} {seen : List Nat} {f : FuncId} {args : List AV} {s : List Int} (h : ∃ H', C f args [] 0 = some (.agg (ics s), H')) (hs : s.length ≤ 100) : aBack site true seen (thaw C f args [] 0) = .pure (.agg (ics s), []) := by
  obtain ⟨H', h⟩ := h
  refine aBack_plain h rfl (fun site => ?_) (leads_ics s)
  have := imps_ics (Hc := H') (site := site) (seen := []) (up := []) s 199 (by omega)
  simp only [imp, this]
theorem repC_ics : ∀ n, repC [.int .i64 0] n = ics (List.replicate n 0)
  | 0 => rfl
  | n + 1 => by rw [repC, repC_ics n]; rfl
/-- Cells are laid over others. -/
theorem putC_ics : ∀ (vs cs : List Int) (o : Nat), o + vs.length ≤ cs.length → putC (ics cs) o (ics vs) = ics (cs.take o ++ vs ++ cs.drop (o + vs.length))
  | [], cs, o, _ => by simp [putC, ics]
  | v :: vs, cs, o, h => by
    rw [List.length_cons] at h
    have e : ics (v :: vs) = .int .i64 v :: ics vs := rfl
    rw [e, putC, ics_set, putC_ics vs (cs.set o v) (o + 1) (by rw [List.length_set]; omega)]
    congr 1
    rw [List.drop_set_of_lt (by omega), List.take_add_one, List.getElem?_set_self (by omega), List.take_set_of_le (Nat.le_refl _), List.length_cons, show o + (vs.length + 1) = o + 1 + vs.length by omega]
    simp
theorem snaps_ics (l : List Int) {d : Nat} (h : l.length + 2 ≤ d) : snaps d (ics l) = .pure (ics l, []) := snaps_flat _ _ (ics_int l) (by rw [ics_length]; exact h)
/-- A call that gives a list, or an error. -/
def RL (C : Callee) (f : FuncId) (args : List AV) (e : Int) (l : List Int) : Prop :=
  (e ≠ 0 ∧ ∀ (site : Nat → Nat) seen, aBack site true seen (thaw C f args [] 0) = .pure (.tup [.nilsl, .int .i64 e], [])) ∨
  (e = 0 ∧ ∀ (site : Nat → Nat) seen, aBack site true seen (thaw C f args [] 0) = back1 (site 0) seen (fun k => .tup [.ref k 0 l.length l.length l.length 1 false, .int .i64 0]) ⟨.row, ics l⟩)
theorem rl_of {C : Callee} {f : FuncId} {args : List AV} {e : Int} {l : List Int} {n : Nat} (h : (e ≠ 0 ∧ ∃ H, C f args [] 0 = some (.tup [.nilsl, .int .i64 e], H)) ∨ (e = 0 ∧ ∃ g H, C f args [] 0 = some (.tup [.ref g 0 n n n 1 false, .int .i64 0], H) ∧ hget H g = some ⟨.row, ics l⟩)) (hl : l.length = n) : RL C f args e l := by
  subst hl
  rcases h with ⟨h0, h⟩ | ⟨h0, g, H, h, hg⟩
  · exact .inl ⟨h0, fun site seen => aBack_nilint h⟩
  · exact .inr ⟨h0, fun site seen => aBack_refcint h hg (ics_length l)⟩
def pad6 (l : List Int) : List Int := l ++ List.replicate (6 - l.length) 0
theorem pad6_len {l : List Int} (h : l.length ≤ 6) : (pad6 l).length = 6 := by simp [pad6]; omega
theorem rowF_pad {l : List Int} {k : Nat} (h : k < l.length) : rowF (pad6 l) k = rowF l k := by
  simp [rowF, pad6, List.getElem?_append_left h]
theorem rowF_pad0 {l : List Int} {k : Nat} (h : l.length ≤ k) : rowF (pad6 l) k = 0 := by
  simp only [rowF, pad6, List.getD_eq_getElem?_getD]
  rw [List.getElem?_append_right h, List.getElem?_replicate]
  split <;> rfl
/-- The first error of some. -/
def fe (e : Nat → Int) : Nat → Nat → Int
  | _, 0 => 0
  | k, m + 1 => if e k = 0 then fe e (k + 1) m else e k
theorem fe_zero {e : Nat → Int} : ∀ (m k : Nat), fe e k m = 0 ↔ ∀ i, k ≤ i → i < k + m → e i = 0
  | 0, k => by simp only [fe, true_iff]; intro i h1 h2; omega
  | m + 1, k => by
    simp only [fe]
    split
    · rename_i h
      rw [fe_zero m (k + 1)]
      exact ⟨fun hh i h1 h2 => if hi : i = k then by rw [hi]; exact h else hh i (by omega) (by omega), fun hh i h1 h2 => hh i (by omega) (by omega)⟩
    · rename_i h
      exact ⟨fun hh => absurd hh h, fun hh => absurd (hh k (Nat.le_refl _) (by omega)) h⟩
/-- A loop that is left at the first error, or at its end. -/
theorem loopE {E0 : AHeap} {f : St → XR} {e : Nat → Int} {R : Int → AHeap → St} {x : Ex} {se : St} (st : Nat → St) (n : Nat) (h0 : headA E0 (st 0) = st 0) (hn : n < 1000000) (hx : x ≠ .normal)
    (hgo : ∀ i, i < n → (∀ j, j < i → e j = 0) → e i = 0 → ∃ s', f (st i) = some (.normal, s') ∧ headA E0 s' = st (i + 1)) (hbad : ∀ i, i < n → (∀ j, j < i → e j = 0) → e i ≠ 0 → ∃ H, f (st i) = some (.ret, R (e i) H)) (hend : (∀ j, j < n → e j = 0) → f (st n) = some (x, se)) :
    (fe e 0 n = 0 ∧ iterA f (headA E0) 1000000 (st 0) = some (x, se)) ∨ (fe e 0 n ≠ 0 ∧ ∃ H, iterA f (headA E0) 1000000 (st 0) = some (.ret, R (fe e 0 n) H)) := by
  have key : ∀ (m k F : Nat) (s0 : St), k + m = n → (∀ j, j < k → e j = 0) → headA E0 s0 = st k → m < F → (fe e k m = 0 ∧ iterA f (headA E0) F s0 = some (x, se)) ∨ (fe e k m ≠ 0 ∧ ∃ H, iterA f (headA E0) F s0 = some (.ret, R (fe e k m) H)) := by
    intro m
    induction m with
    | zero =>
      intro k F s0 hk hz hs hF
      obtain ⟨F, rfl⟩ : ∃ G, F = G + 1 := ⟨F - 1, by omega⟩
      rw [Nat.add_zero] at hk
      subst hk
      refine .inl ⟨rfl, ?_⟩
      rw [iterA_succ, hs, hend hz]
      cases x with
      | normal => exact absurd rfl hx
      | ret => rfl
      | exit i => rfl
    | succ m ih =>
      intro k F s0 hk hz hs hF
      obtain ⟨F, rfl⟩ : ∃ G, F = G + 1 := ⟨F - 1, by omega⟩
      simp only [fe]
      by_cases h : e k = 0
      · obtain ⟨s', h1, h2⟩ := hgo k (by omega) hz h
        rw [if_pos h, iterA_succ, hs, h1, seqX_normal]
        refine ih (k + 1) F s' (by omega) (fun j hj => ?_) h2 (by omega)
        by_cases hjk : j = k
        · rw [hjk]; exact h
        · exact hz j (by omega)
      · rw [if_neg h]
        obtain ⟨H, hH⟩ := hbad k (by omega) hz h
        refine .inr ⟨h, H, ?_⟩
        rw [iterA_succ, hs, hH]
        rfl
  exact key n 0 1000000 (st 0) (by omega) (fun j hj => by omega) h0 (by omega)
end Go.AM.Ytfmnoohhhokicaa
end

section
namespace Go.AM
open Go Go.RowKit Go.ChangeShapes Go.WideShapes
section
variable {H : Type} {enc : TypeId × Value → H} {P : Program} {w : World} {base : Nat} {spare : Nat → Bool} {held : Bool}
theorem hand_int {t : TypeId} {k : IntKind} {v : Value} {b : Nat} {r : Reach} (ht : P.underlying t = some (.int k)) (hv : Value.okWide P w r b t v) : ∃ z, v = .int k z := by
  unfold Value.okWide at hv
  rw [ht] at hv
  simp only [Cell.okWide, ht] at hv
  unfold Cell.ok at hv
  rw [ht] at hv
  cases v <;> simp only at hv <;> try exact hv.elim
  exact ⟨_, by rw [hv.1]⟩
theorem hand_add (b o n : Nat) : (⟨b, o, none⟩ : Addr).add n = ⟨b, o + n, none⟩ := by
  unfold Addr.add
  split
  · rename_i h; subst h; rfl
  · rfl
theorem cells_get {n : Nat} {a : Addr} {cs : List Value} (h : w.cells? base a n = some cs) : cs.length = n ∧ ∀ j, j < n → w.cell? (a.add j) = cs[j]? := by
  unfold World.cells? at h
  split at h
  · have hl := mapM_some_length h
    refine ⟨by simpa using hl, fun j hj => ?_⟩
    exact mapM_some_get h j j (by simp [hj])
  · exact absurd h (by simp)
/-- A slice of things that are integers of 64 bits, sz each. -/
theorem cell_slice {t e : TypeId} {sz : Nat} {v : Value} {fuel : Nat} {x : DataW H × List MemPlace} {b0 : Nat} {r : Reach} (ht : P.underlying t = some (.slice e)) (hsz : P.cellsOf e = sz)
    (hel : ∀ (n : Nat) (cs : List Value) (x : DataW H × List MemPlace), cs.length = sz → DataW.trod enc P w base spare held n e cs = some x → ∃ zs : List Int, cs = zs.map (Value.int .i64))
    (hv : Cell.okWide P w r b0 t v) (h : DataW.trod enc P w base spare held fuel t [v] = some x) :
    v = .slice none 0 0 ∨ ∃ (b o len cap : Nat) (zs : List Int), v = .slice (some ⟨b, o, none⟩) len cap ∧ len ≤ cap ∧ b < w.heap.size ∧ zs.length = len * sz ∧ ∀ (i : Nat) (z : Int), zs[i]? = some z → w.cell? ⟨b, o + i, none⟩ = some (.int .i64 z) := by
  simp only [Cell.okWide, ht] at hv
  unfold Cell.ok at hv
  rw [ht] at hv
  cases v <;> simp only at hv <;> try exact hv.elim
  rename_i a len cap
  cases a with
  | none =>
    left
    split at hv <;> first | rfl | (rename_i h1 h2; simp at h2; done) | exact hv.elim | simp_all
  | some a =>
    right
    obtain ⟨h1, _, _, hspot, row, cells, hshape, _⟩ := hv
    obtain ⟨b, o, sp⟩ := a
    simp only at hspot hshape
    subst hspot
    have hb : b < w.heap.size := by
      unfold World.shape? at hshape
      split at hshape
      · rename_i hh; exact (Array.getElem?_eq_some_iff.1 hh).1
      · exact absurd hshape (by simp)
    rcases DataW.trod_slice ht h with ⟨hc, _⟩ | ⟨a', len', cap', elems, rest, n, _, hc, _, _, hle, _, hlen, hget, _⟩
    · simp at hc
    · simp only [List.cons.injEq, Value.slice.injEq, Option.some.injEq, and_true] at hc
      obtain ⟨rfl, rfl, rfl⟩ := hc
      rw [hsz] at hget
      have key : ∀ m, m ≤ len → ∃ zs : List Int, zs.length = m * sz ∧ ∀ (i : Nat) (z : Int), zs[i]? = some z → w.cell? ⟨b, o + i, none⟩ = some (.int .i64 z) := by
        intro m
        induction m with
        | zero => intro _; exact ⟨[], by simp, fun i z h => by simp at h⟩
        | succ m ih =>
          intro hm
          obtain ⟨zs, hz1, hz2⟩ := ih (by omega)
          have hg := hget m (by omega)
          rw [List.getElem?_eq_getElem (by omega)] at hg
          obtain ⟨cs, hc1, hc2⟩ := Option.bind_eq_some_iff.1 hg
          obtain ⟨hcl, hcg⟩ := cells_get hc1
          obtain ⟨ys, hys⟩ := hel n cs _ hcl hc2
          have hyl : ys.length = sz := by rw [← hcl, hys]; simp
          refine ⟨zs ++ ys, by rw [List.length_append, hz1, hyl, Nat.succ_mul], fun i z hi => ?_⟩
          by_cases hlt : i < zs.length
          · rw [List.getElem?_append_left hlt] at hi
            exact hz2 i z hi
          · rw [List.getElem?_append_right (by omega)] at hi
            have hj : i - zs.length < sz := by rw [← hyl]; exact (List.getElem?_eq_some_iff.1 hi).1
            have := hcg (i - zs.length) hj
            rw [hand_add, hand_add, hys, List.getElem?_map, hi] at this
            rw [show o + i = o + m * sz + (i - zs.length) by omega]
            simpa using this
      obtain ⟨zs, hz1, hz2⟩ := key len (Nat.le_refl _)
      exact ⟨b, o, len, cap, zs, rfl, h1, hb, hz1, hz2⟩
theorem trod_int_el {n : Nat} {e : TypeId} {cs : List Value} {x : DataW H × List MemPlace} (he : P.underlying e = some (.int .i64)) (h : DataW.trod enc P w base spare held n e cs = some x) : ∃ zs : List Int, cs = zs.map (Value.int .i64) := by
  obtain ⟨z, rfl, _⟩ := DataW.trod_int he h
  exact ⟨[z], rfl⟩
/-- .. as the machine's value. -/
theorem vr_slice {fz : Nat → Prop} {rf : RFt} {b o len cap : Nat} {zs : List Int} (h1 : len ≤ cap) (hb : fz b) (hz : ∀ (i : Nat) (z : Int), zs[i]? = some z → w.cell? ⟨b, o + i, none⟩ = some (.int .i64 z)) :
    VR fz w (.imm (zs.map (AV.int .i64)) len false) rf (.slice (some ⟨b, o, none⟩) len cap) := by
  simp only [VR]
  refine ⟨b, o, cap, rfl, h1, fun h => by simp at h, .inr ⟨hb, ?_⟩⟩
  rw [VRc_iff]
  intro i a hi
  rw [List.getElem?_map] at hi
  cases hz1 : zs[i]? with
  | none => rw [hz1] at hi; simp at hi
  | some z =>
    rw [hz1] at hi
    simp only [Option.map_some, Option.some.injEq] at hi
    subst hi
    exact ⟨_, hz i z hz1, rfl, by simp only [VR]⟩
end
end Go.AM
namespace Go.AM.Ytfmnoohhhokicaa
open Go Go.AM Go.RowKit Go.Proofs Go.Proofs.Ytfmnoohhhokicaa Go.ChangeShapes Go.WideShapes Go.ChangeAt Go.AM.Rub
set_option maxRecDepth 1000000
theorem cells_3 : Try.prog.cellsOf 3 = 1 := by kernel_rfl
section
variable {H : Type} {enc : TypeId × Value → H} {W : World}
theorem hand_is {v : Value} {d : DataW H} {ps : List MemPlace} {b0 : Nat} {r : Reach} (hv : Value.okWide Try.prog W r b0 22 v) (h : DataW.Trod enc Try.prog W 0 (fun _ => true) true 22 v d ps) :
    ∃ a l, IV l a ∧ (start (fun k => k < W.heap.size) W).R a v := by
  unfold Value.okWide at hv
  rw [Try.underlying22] at hv
  simp only at hv
  obtain ⟨fuel, h⟩ := h
  have hc : v.cells.toList = [v] := by
    simp only [Cell.okWide, Try.underlying22] at hv
    unfold Cell.ok at hv
    rw [Try.underlying22] at hv
    cases v <;> simp only at hv <;> first | exact hv.elim | rfl
  rw [hc] at h
  rcases cell_slice (sz := 1) Try.underlying22 cells_3 (fun n cs x hl hx => trod_int_el Try.underlying3 hx) hv h with rfl | ⟨b, o, len, cap, zs, rfl, h1, h2, h3, h4⟩
  · exact ⟨.nilsl, [], .inl ⟨rfl, rfl⟩, by simp only [Gh.R, VR]⟩
  · have hl : zs.length = len := by omega
    refine ⟨.imm (ics zs) zs.length false, zs, .inr ⟨false, rfl⟩, ?_⟩
    rw [hl]
    exact vr_slice h1 h2 h4
end
end Go.AM.Ytfmnoohhhokicaa
end

section
namespace Go.AM.Ytfmnoohhhokicaa
open Go Go.AM
set_option maxRecDepth 100000
variable {C : Callee} {B N : Nat} {E0 : AHeap} (φ : AFr) (H : AHeap) (s : St)
noncomputable def c3_0 : Code := kBody Proofs.Try.f3
noncomputable def c3_1 : Code := kL c3_0
noncomputable def r3_0 : Array Oper := kO c3_1
noncomputable def o3_0_0 : Oper := opN r3_0 0
theorem x3_1 : execA E C (fg 3) B 102 E0 N c3_1 s = regX (runA E C B 102 r3_0 r3_0.toList s) (fun s => gcM E0 [8] (forget s.1 [8], s.2)) := x_reg (ops := r3_0) (by rfl) (by rfl) s
theorem r3_0_l : r3_0.toList = [o3_0_0] := nrfl rfl
theorem s3_0_0 : stepA E C B 102 r3_0 o3_0_0 (φ, H) = some (fput φ 8 (.bool false), H) := nrfl rfl
noncomputable def c3_2 : Code := kR c3_0
noncomputable def c3_3 : Code := kL c3_2
noncomputable def c3_4 : Code := kL c3_3
noncomputable def r3_1 : Array Oper := kO c3_4
noncomputable def o3_1_0 : Oper := opN r3_1 0
noncomputable def o3_1_1 : Oper := opN r3_1 1
noncomputable def o3_1_2 : Oper := opN r3_1 2
noncomputable def o3_1_3 : Oper := opN r3_1 3
noncomputable def o3_1_4 : Oper := opN r3_1 4
noncomputable def o3_1_5 : Oper := opN r3_1 5
noncomputable def o3_1_6 : Oper := opN r3_1 6
noncomputable def o3_1_7 : Oper := opN r3_1 7
theorem x3_4 : execA E C (fg 3) B 102 E0 N c3_4 s = regX (runA E C B 102 r3_1 r3_1.toList s) (fun s => gcM E0 [21, 22, 23, 24, 25, 26, 27] (forget s.1 [21, 22, 23, 24, 25, 26, 27], s.2)) := x_reg (ops := r3_1) (by rfl) (by rfl) s
theorem r3_1_l : r3_1.toList = [o3_1_0, o3_1_1, o3_1_2, o3_1_3, o3_1_4, o3_1_5, o3_1_6, o3_1_7] := nrfl rfl
theorem s3_1_0 : stepA E C B 102 r3_1 o3_1_0 (φ, H) = some (fput φ 21 (fget φ 0), H) := nrfl rfl
theorem s3_1_1 : stepA E C B 102 r3_1 o3_1_1 (φ, H) = stp (some 22) φ H (aBuiltin E.T (B + 22) .len #[22] [(fget φ 21)]) := nrfl rfl
theorem s3_1_2 : stepA E C B 102 r3_1 o3_1_2 (φ, H) = stp (some 23) φ H (just (aBin E.T .gtr 3 (fget φ 22) (.int .i64 40))) := nrfl rfl
theorem s3_1_3 : stepA E C B 102 r3_1 o3_1_3 (φ, H) = some (fput φ 24 (fget φ 23), H) := nrfl rfl
theorem s3_1_4 : stepA E C B 102 r3_1 o3_1_4 (φ, H) = gd φ 24 false (fun φ => some (fput φ 25 (.tup []), H)) (fun φ => some (fput φ 25 (fget φ 1), H)) := s_gd (j := 3) (oj := o3_1_3) rfl rfl rfl (fun _ => rfl) (fun _ => rfl)
theorem s3_1_5 : stepA E C B 102 r3_1 o3_1_5 (φ, H) = gd φ 24 false (fun φ => some (fput φ 26 (.tup []), H)) (fun φ => stp (some 26) φ H (aBuiltin E.T (B + 26) .len #[22] [(fget φ 25)])) := s_gd (j := 3) (oj := o3_1_3) rfl rfl rfl (fun _ => rfl) (fun _ => rfl)
theorem s3_1_6 : stepA E C B 102 r3_1 o3_1_6 (φ, H) = gd φ 24 false (fun φ => some (fput φ 27 (.tup []), H)) (fun φ => stp (some 27) φ H (just (aBin E.T .gtr 3 (fget φ 26) (.int .i64 40)))) := s_gd (j := 3) (oj := o3_1_3) rfl rfl rfl (fun _ => rfl) (fun _ => rfl)
theorem s3_1_7 : stepA E C B 102 r3_1 o3_1_7 (φ, H) = stp (some 28) φ H (opPick (fget φ 24) (.bool true) (fget φ 27)) := nrfl rfl
noncomputable def c3_5 : Code := kR c3_3
noncomputable def c3_6 : Code := kT c3_5
noncomputable def c3_7 : Code := kL c3_6
noncomputable def r3_2 : Array Oper := kO c3_7
noncomputable def o3_2_0 : Oper := opN r3_2 0
noncomputable def o3_2_1 : Oper := opN r3_2 1
theorem x3_7 : execA E C (fg 3) B 102 E0 N c3_7 s = regX (runA E C B 102 r3_2 r3_2.toList s) (fun s => gcM E0 [0, 1, 2, 3, 28, 29] (forget s.1 [0, 1, 2, 3, 28, 29], s.2)) := x_reg (ops := r3_2) (by rfl) (by rfl) s
theorem r3_2_l : r3_2.toList = [o3_2_0, o3_2_1] := nrfl rfl
theorem s3_2_0 : stepA E C B 102 r3_2 o3_2_0 (φ, H) = stp (some 29) φ H (aCall C (fun j => B + j * 102 + 29) true 17 []) := nrfl rfl
theorem s3_2_1 : stepA E C B 102 r3_2 o3_2_1 (φ, H) = some (fput φ 8 (fget φ 29), H) := nrfl rfl
noncomputable def c3_8 : Code := kR c3_6
theorem x3_8 : execA E C (fg 3) B 102 E0 N c3_8 s = some (.ret, s) := x_ret (by rfl) s
theorem x3_6 : execA E C (fg 3) B 102 E0 N c3_6 s = seqX (execA E C (fg 3) B 102 E0 N c3_7 s) (execA E C (fg 3) B 102 E0 N c3_8) := x_seq (by rfl) s
noncomputable def c3_9 : Code := kE c3_5
theorem x3_9 : execA E C (fg 3) B 102 E0 N c3_9 s = some (.normal, s) := x_skip (by rfl) s
theorem x3_5 : execA E C (fg 3) B 102 E0 N c3_5 (φ, H) = condX (fget φ 28) (execA E C (fg 3) B 102 E0 N c3_6 (φ, H)) (execA E C (fg 3) B 102 E0 N c3_9 (φ, H)) := x_cond (by rfl) _
theorem x3_3 : execA E C (fg 3) B 102 E0 N c3_3 s = seqX (execA E C (fg 3) B 102 E0 N c3_4 s) (execA E C (fg 3) B 102 E0 N c3_5) := x_seq (by rfl) s
noncomputable def c3_10 : Code := kR c3_2
noncomputable def c3_11 : Code := kL c3_10
noncomputable def r3_3 : Array Oper := kO c3_11
noncomputable def o3_3_0 : Oper := opN r3_3 0
noncomputable def o3_3_1 : Oper := opN r3_3 1
noncomputable def o3_3_2 : Oper := opN r3_3 2
noncomputable def o3_3_3 : Oper := opN r3_3 3
noncomputable def o3_3_4 : Oper := opN r3_3 4
noncomputable def o3_3_5 : Oper := opN r3_3 5
noncomputable def o3_3_6 : Oper := opN r3_3 6
theorem x3_11 : execA E C (fg 3) B 102 E0 N c3_11 s = regX (runA E C B 102 r3_3 r3_3.toList s) (fun s => gcM E0 [28, 30, 31, 32, 33, 34] (forget s.1 [28, 30, 31, 32, 33, 34], s.2)) := x_reg (ops := r3_3) (by rfl) (by rfl) s
theorem r3_3_l : r3_3.toList = [o3_3_0, o3_3_1, o3_3_2, o3_3_3, o3_3_4, o3_3_5, o3_3_6] := nrfl rfl
theorem s3_3_0 : stepA E C B 102 r3_3 o3_3_0 (φ, H) = some (fput φ 31 (fget φ 0), H) := nrfl rfl
theorem s3_3_1 : stepA E C B 102 r3_3 o3_3_1 (φ, H) = stp (some 32) φ H (aCall C (fun j => B + j * 102 + 32) true 18 [(fget φ 31)]) := nrfl rfl
theorem s3_3_2 : stepA E C B 102 r3_3 o3_3_2 (φ, H) = some (fput φ 30 (fget φ 32), H) := nrfl rfl
theorem s3_3_3 : stepA E C B 102 r3_3 o3_3_3 (φ, H) = stp (some 33) φ H (opExtract (fget φ 30) 0) := nrfl rfl
theorem s3_3_4 : stepA E C B 102 r3_3 o3_3_4 (φ, H) = stp (some 34) φ H (opExtract (fget φ 30) 1) := nrfl rfl
theorem s3_3_5 : stepA E C B 102 r3_3 o3_3_5 (φ, H) = some (fput φ 9 (fget φ 33), H) := nrfl rfl
theorem s3_3_6 : stepA E C B 102 r3_3 o3_3_6 (φ, H) = some (fput φ 10 (fget φ 34), H) := nrfl rfl
noncomputable def c3_12 : Code := kR c3_10
noncomputable def c3_13 : Code := kL c3_12
noncomputable def r3_4 : Array Oper := kO c3_13
noncomputable def o3_4_0 : Oper := opN r3_4 0
noncomputable def o3_4_1 : Oper := opN r3_4 1
noncomputable def o3_4_2 : Oper := opN r3_4 2
noncomputable def o3_4_3 : Oper := opN r3_4 3
noncomputable def o3_4_4 : Oper := opN r3_4 4
noncomputable def o3_4_5 : Oper := opN r3_4 5
noncomputable def o3_4_6 : Oper := opN r3_4 6
theorem x3_13 : execA E C (fg 3) B 102 E0 N c3_13 s = regX (runA E C B 102 r3_4 r3_4.toList s) (fun s => gcM E0 [35, 36, 37, 38, 39] (forget s.1 [35, 36, 37, 38, 39], s.2)) := x_reg (ops := r3_4) (by rfl) (by rfl) s
theorem r3_4_l : r3_4.toList = [o3_4_0, o3_4_1, o3_4_2, o3_4_3, o3_4_4, o3_4_5, o3_4_6] := nrfl rfl
theorem s3_4_0 : stepA E C B 102 r3_4 o3_4_0 (φ, H) = some (fput φ 36 (fget φ 0), H) := nrfl rfl
theorem s3_4_1 : stepA E C B 102 r3_4 o3_4_1 (φ, H) = stp (some 37) φ H (aCall C (fun j => B + j * 102 + 37) true 19 [(fget φ 36)]) := nrfl rfl
theorem s3_4_2 : stepA E C B 102 r3_4 o3_4_2 (φ, H) = some (fput φ 35 (fget φ 37), H) := nrfl rfl
theorem s3_4_3 : stepA E C B 102 r3_4 o3_4_3 (φ, H) = stp (some 38) φ H (opExtract (fget φ 35) 0) := nrfl rfl
theorem s3_4_4 : stepA E C B 102 r3_4 o3_4_4 (φ, H) = stp (some 39) φ H (opExtract (fget φ 35) 1) := nrfl rfl
theorem s3_4_5 : stepA E C B 102 r3_4 o3_4_5 (φ, H) = some (fput φ 11 (fget φ 38), H) := nrfl rfl
theorem s3_4_6 : stepA E C B 102 r3_4 o3_4_6 (φ, H) = some (fput φ 12 (fget φ 39), H) := nrfl rfl
noncomputable def c3_14 : Code := kR c3_12
noncomputable def c3_15 : Code := kL c3_14
noncomputable def r3_5 : Array Oper := kO c3_15
noncomputable def o3_5_0 : Oper := opN r3_5 0
noncomputable def o3_5_1 : Oper := opN r3_5 1
noncomputable def o3_5_2 : Oper := opN r3_5 2
noncomputable def o3_5_3 : Oper := opN r3_5 3
noncomputable def o3_5_4 : Oper := opN r3_5 4
noncomputable def o3_5_5 : Oper := opN r3_5 5
noncomputable def o3_5_6 : Oper := opN r3_5 6
theorem x3_15 : execA E C (fg 3) B 102 E0 N c3_15 s = regX (runA E C B 102 r3_5 r3_5.toList s) (fun s => gcM E0 [40, 41, 42, 43, 44] (forget s.1 [40, 41, 42, 43, 44], s.2)) := x_reg (ops := r3_5) (by rfl) (by rfl) s
theorem r3_5_l : r3_5.toList = [o3_5_0, o3_5_1, o3_5_2, o3_5_3, o3_5_4, o3_5_5, o3_5_6] := nrfl rfl
theorem s3_5_0 : stepA E C B 102 r3_5 o3_5_0 (φ, H) = some (fput φ 41 (fget φ 1), H) := nrfl rfl
theorem s3_5_1 : stepA E C B 102 r3_5 o3_5_1 (φ, H) = stp (some 42) φ H (aCall C (fun j => B + j * 102 + 42) true 20 [(fget φ 41)]) := nrfl rfl
theorem s3_5_2 : stepA E C B 102 r3_5 o3_5_2 (φ, H) = some (fput φ 40 (fget φ 42), H) := nrfl rfl
theorem s3_5_3 : stepA E C B 102 r3_5 o3_5_3 (φ, H) = stp (some 43) φ H (opExtract (fget φ 40) 0) := nrfl rfl
theorem s3_5_4 : stepA E C B 102 r3_5 o3_5_4 (φ, H) = stp (some 44) φ H (opExtract (fget φ 40) 1) := nrfl rfl
theorem s3_5_5 : stepA E C B 102 r3_5 o3_5_5 (φ, H) = some (fput φ 13 (fget φ 43), H) := nrfl rfl
theorem s3_5_6 : stepA E C B 102 r3_5 o3_5_6 (φ, H) = some (fput φ 14 (fget φ 44), H) := nrfl rfl
noncomputable def c3_16 : Code := kR c3_14
noncomputable def c3_17 : Code := kL c3_16
noncomputable def r3_6 : Array Oper := kO c3_17
noncomputable def o3_6_0 : Oper := opN r3_6 0
noncomputable def o3_6_1 : Oper := opN r3_6 1
noncomputable def o3_6_2 : Oper := opN r3_6 2
noncomputable def o3_6_3 : Oper := opN r3_6 3
noncomputable def o3_6_4 : Oper := opN r3_6 4
noncomputable def o3_6_5 : Oper := opN r3_6 5
noncomputable def o3_6_6 : Oper := opN r3_6 6
theorem x3_17 : execA E C (fg 3) B 102 E0 N c3_17 s = regX (runA E C B 102 r3_6 r3_6.toList s) (fun s => gcM E0 [1, 45, 46, 47, 48, 49] (forget s.1 [1, 45, 46, 47, 48, 49], s.2)) := x_reg (ops := r3_6) (by rfl) (by rfl) s
theorem r3_6_l : r3_6.toList = [o3_6_0, o3_6_1, o3_6_2, o3_6_3, o3_6_4, o3_6_5, o3_6_6] := nrfl rfl
theorem s3_6_0 : stepA E C B 102 r3_6 o3_6_0 (φ, H) = some (fput φ 46 (fget φ 1), H) := nrfl rfl
theorem s3_6_1 : stepA E C B 102 r3_6 o3_6_1 (φ, H) = stp (some 47) φ H (aCall C (fun j => B + j * 102 + 47) true 21 [(fget φ 46)]) := nrfl rfl
theorem s3_6_2 : stepA E C B 102 r3_6 o3_6_2 (φ, H) = some (fput φ 45 (fget φ 47), H) := nrfl rfl
theorem s3_6_3 : stepA E C B 102 r3_6 o3_6_3 (φ, H) = stp (some 48) φ H (opExtract (fget φ 45) 0) := nrfl rfl
theorem s3_6_4 : stepA E C B 102 r3_6 o3_6_4 (φ, H) = stp (some 49) φ H (opExtract (fget φ 45) 1) := nrfl rfl
theorem s3_6_5 : stepA E C B 102 r3_6 o3_6_5 (φ, H) = some (fput φ 15 (fget φ 48), H) := nrfl rfl
theorem s3_6_6 : stepA E C B 102 r3_6 o3_6_6 (φ, H) = some (fput φ 16 (fget φ 49), H) := nrfl rfl
noncomputable def c3_18 : Code := kR c3_16
noncomputable def c3_19 : Code := kL c3_18
noncomputable def r3_7 : Array Oper := kO c3_19
noncomputable def o3_7_0 : Oper := opN r3_7 0
noncomputable def o3_7_1 : Oper := opN r3_7 1
noncomputable def o3_7_2 : Oper := opN r3_7 2
noncomputable def o3_7_3 : Oper := opN r3_7 3
noncomputable def o3_7_4 : Oper := opN r3_7 4
noncomputable def o3_7_5 : Oper := opN r3_7 5
noncomputable def o3_7_6 : Oper := opN r3_7 6
noncomputable def o3_7_7 : Oper := opN r3_7 7
noncomputable def o3_7_8 : Oper := opN r3_7 8
theorem x3_19 : execA E C (fg 3) B 102 E0 N c3_19 s = regX (runA E C B 102 r3_7 r3_7.toList s) (fun s => gcM E0 [50, 51, 52, 53, 54, 55, 56] (forget s.1 [50, 51, 52, 53, 54, 55, 56], s.2)) := x_reg (ops := r3_7) (by rfl) (by rfl) s
theorem r3_7_l : r3_7.toList = [o3_7_0, o3_7_1, o3_7_2, o3_7_3, o3_7_4, o3_7_5, o3_7_6, o3_7_7, o3_7_8] := nrfl rfl
theorem s3_7_0 : stepA E C B 102 r3_7 o3_7_0 (φ, H) = some (fput φ 51 (fget φ 0), H) := nrfl rfl
theorem s3_7_1 : stepA E C B 102 r3_7 o3_7_1 (φ, H) = some (fput φ 52 (fget φ 2), H) := nrfl rfl
theorem s3_7_2 : stepA E C B 102 r3_7 o3_7_2 (φ, H) = some (fput φ 53 (fget φ 3), H) := nrfl rfl
theorem s3_7_3 : stepA E C B 102 r3_7 o3_7_3 (φ, H) = stp (some 54) φ H (aCall C (fun j => B + j * 102 + 54) true 22 [(fget φ 51), (fget φ 52), (fget φ 53)]) := nrfl rfl
theorem s3_7_4 : stepA E C B 102 r3_7 o3_7_4 (φ, H) = some (fput φ 50 (fget φ 54), H) := nrfl rfl
theorem s3_7_5 : stepA E C B 102 r3_7 o3_7_5 (φ, H) = stp (some 55) φ H (opExtract (fget φ 50) 0) := nrfl rfl
theorem s3_7_6 : stepA E C B 102 r3_7 o3_7_6 (φ, H) = stp (some 56) φ H (opExtract (fget φ 50) 1) := nrfl rfl
theorem s3_7_7 : stepA E C B 102 r3_7 o3_7_7 (φ, H) = some (fput φ 17 (fget φ 55), H) := nrfl rfl
theorem s3_7_8 : stepA E C B 102 r3_7 o3_7_8 (φ, H) = some (fput φ 18 (fget φ 56), H) := nrfl rfl
noncomputable def c3_20 : Code := kR c3_18
noncomputable def c3_21 : Code := kL c3_20
noncomputable def r3_8 : Array Oper := kO c3_21
noncomputable def o3_8_0 : Oper := opN r3_8 0
noncomputable def o3_8_1 : Oper := opN r3_8 1
noncomputable def o3_8_2 : Oper := opN r3_8 2
noncomputable def o3_8_3 : Oper := opN r3_8 3
noncomputable def o3_8_4 : Oper := opN r3_8 4
noncomputable def o3_8_5 : Oper := opN r3_8 5
noncomputable def o3_8_6 : Oper := opN r3_8 6
noncomputable def o3_8_7 : Oper := opN r3_8 7
noncomputable def o3_8_8 : Oper := opN r3_8 8
theorem x3_21 : execA E C (fg 3) B 102 E0 N c3_21 s = regX (runA E C B 102 r3_8 r3_8.toList s) (fun s => gcM E0 [2, 3, 57, 58, 59, 60, 61, 62, 63] (forget s.1 [2, 3, 57, 58, 59, 60, 61, 62, 63], s.2)) := x_reg (ops := r3_8) (by rfl) (by rfl) s
theorem r3_8_l : r3_8.toList = [o3_8_0, o3_8_1, o3_8_2, o3_8_3, o3_8_4, o3_8_5, o3_8_6, o3_8_7, o3_8_8] := nrfl rfl
theorem s3_8_0 : stepA E C B 102 r3_8 o3_8_0 (φ, H) = some (fput φ 58 (fget φ 0), H) := nrfl rfl
theorem s3_8_1 : stepA E C B 102 r3_8 o3_8_1 (φ, H) = some (fput φ 59 (fget φ 2), H) := nrfl rfl
theorem s3_8_2 : stepA E C B 102 r3_8 o3_8_2 (φ, H) = some (fput φ 60 (fget φ 3), H) := nrfl rfl
theorem s3_8_3 : stepA E C B 102 r3_8 o3_8_3 (φ, H) = stp (some 61) φ H (aCall C (fun j => B + j * 102 + 61) true 23 [(fget φ 58), (fget φ 59), (fget φ 60)]) := nrfl rfl
theorem s3_8_4 : stepA E C B 102 r3_8 o3_8_4 (φ, H) = some (fput φ 57 (fget φ 61), H) := nrfl rfl
theorem s3_8_5 : stepA E C B 102 r3_8 o3_8_5 (φ, H) = stp (some 62) φ H (opExtract (fget φ 57) 0) := nrfl rfl
theorem s3_8_6 : stepA E C B 102 r3_8 o3_8_6 (φ, H) = stp (some 63) φ H (opExtract (fget φ 57) 1) := nrfl rfl
theorem s3_8_7 : stepA E C B 102 r3_8 o3_8_7 (φ, H) = some (fput φ 19 (fget φ 62), H) := nrfl rfl
theorem s3_8_8 : stepA E C B 102 r3_8 o3_8_8 (φ, H) = some (fput φ 20 (fget φ 63), H) := nrfl rfl
noncomputable def c3_22 : Code := kR c3_20
noncomputable def c3_23 : Code := kL c3_22
noncomputable def r3_9 : Array Oper := kO c3_23
noncomputable def o3_9_0 : Oper := opN r3_9 0
noncomputable def o3_9_1 : Oper := opN r3_9 1
noncomputable def o3_9_2 : Oper := opN r3_9 2
noncomputable def o3_9_3 : Oper := opN r3_9 3
noncomputable def o3_9_4 : Oper := opN r3_9 4
noncomputable def o3_9_5 : Oper := opN r3_9 5
noncomputable def o3_9_6 : Oper := opN r3_9 6
noncomputable def o3_9_7 : Oper := opN r3_9 7
noncomputable def o3_9_8 : Oper := opN r3_9 8
noncomputable def o3_9_9 : Oper := opN r3_9 9
noncomputable def o3_9_10 : Oper := opN r3_9 10
noncomputable def o3_9_11 : Oper := opN r3_9 11
noncomputable def o3_9_12 : Oper := opN r3_9 12
noncomputable def o3_9_13 : Oper := opN r3_9 13
noncomputable def o3_9_14 : Oper := opN r3_9 14
noncomputable def o3_9_15 : Oper := opN r3_9 15
noncomputable def o3_9_16 : Oper := opN r3_9 16
noncomputable def o3_9_17 : Oper := opN r3_9 17
noncomputable def o3_9_18 : Oper := opN r3_9 18
noncomputable def o3_9_19 : Oper := opN r3_9 19
noncomputable def o3_9_20 : Oper := opN r3_9 20
noncomputable def o3_9_21 : Oper := opN r3_9 21
noncomputable def o3_9_22 : Oper := opN r3_9 22
noncomputable def o3_9_23 : Oper := opN r3_9 23
noncomputable def o3_9_24 : Oper := opN r3_9 24
noncomputable def o3_9_25 : Oper := opN r3_9 25
noncomputable def o3_9_26 : Oper := opN r3_9 26
noncomputable def o3_9_27 : Oper := opN r3_9 27
noncomputable def o3_9_28 : Oper := opN r3_9 28
noncomputable def o3_9_29 : Oper := opN r3_9 29
noncomputable def o3_9_30 : Oper := opN r3_9 30
noncomputable def o3_9_31 : Oper := opN r3_9 31
noncomputable def o3_9_32 : Oper := opN r3_9 32
noncomputable def o3_9_33 : Oper := opN r3_9 33
noncomputable def o3_9_34 : Oper := opN r3_9 34
noncomputable def o3_9_35 : Oper := opN r3_9 35
noncomputable def o3_9_36 : Oper := opN r3_9 36
noncomputable def o3_9_37 : Oper := opN r3_9 37
noncomputable def o3_9_38 : Oper := opN r3_9 38
theorem x3_23 : execA E C (fg 3) B 102 E0 N c3_23 s = regX (runA E C B 102 r3_9 r3_9.toList s) (fun s => gcM E0 [0, 9, 10, 11, 12, 13, 14, 15, 16, 17, 18, 19, 20, 64, 65, 66, 67, 68, 69, 70, 71, 72, 73, 74, 75, 76, 77, 78, 79, 80, 81, 82, 83, 84, 85, 86, 87, 88, 89, 90, 91, 92, 93, 94, 95, 96, 97, 98, 99, 100, 101] (forget s.1 [0, 9, 10, 11, 12, 13, 14, 15, 16, 17, 18, 19, 20, 64, 65, 66, 67, 68, 69, 70, 71, 72, 73, 74, 75, 76, 77, 78, 79, 80, 81, 82, 83, 84, 85, 86, 87, 88, 89, 90, 91, 92, 93, 94, 95, 96, 97, 98, 99, 100, 101], s.2)) := x_reg (ops := r3_9) (by rfl) (by rfl) s
theorem r3_9_l : r3_9.toList = [o3_9_0, o3_9_1, o3_9_2, o3_9_3, o3_9_4, o3_9_5, o3_9_6, o3_9_7, o3_9_8, o3_9_9, o3_9_10, o3_9_11, o3_9_12, o3_9_13, o3_9_14, o3_9_15, o3_9_16, o3_9_17, o3_9_18, o3_9_19, o3_9_20, o3_9_21, o3_9_22, o3_9_23, o3_9_24, o3_9_25, o3_9_26, o3_9_27, o3_9_28, o3_9_29, o3_9_30, o3_9_31, o3_9_32, o3_9_33, o3_9_34, o3_9_35, o3_9_36, o3_9_37, o3_9_38] := nrfl rfl
theorem s3_9_0 : stepA E C B 102 r3_9 o3_9_0 (φ, H) = some (fput φ 64 (fget φ 9), H) := nrfl rfl
theorem s3_9_1 : stepA E C B 102 r3_9 o3_9_1 (φ, H) = some (fput φ 65 (fget φ 11), H) := nrfl rfl
theorem s3_9_2 : stepA E C B 102 r3_9 o3_9_2 (φ, H) = stp (some 66) φ H (aCall C (fun j => B + j * 102 + 66) true 24 [(fget φ 64), (fget φ 65)]) := nrfl rfl
theorem s3_9_3 : stepA E C B 102 r3_9 o3_9_3 (φ, H) = some (fput φ 67 (fget φ 66), H) := nrfl rfl
theorem s3_9_4 : stepA E C B 102 r3_9 o3_9_4 (φ, H) = gd φ 67 true (fun φ => some (fput φ 68 (.tup []), H)) (fun φ => some (fput φ 68 (fget φ 10), H)) := s_gd (j := 3) (oj := o3_9_3) rfl rfl rfl (fun _ => rfl) (fun _ => rfl)
theorem s3_9_5 : stepA E C B 102 r3_9 o3_9_5 (φ, H) = gd φ 67 true (fun φ => some (fput φ 69 (.tup []), H)) (fun φ => some (fput φ 69 (fget φ 12), H)) := s_gd (j := 3) (oj := o3_9_3) rfl rfl rfl (fun _ => rfl) (fun _ => rfl)
theorem s3_9_6 : stepA E C B 102 r3_9 o3_9_6 (φ, H) = gd φ 67 true (fun φ => some (fput φ 70 (.tup []), H)) (fun φ => stp (some 70) φ H (just (aBin E.T .eql 24 (fget φ 68) (fget φ 69)))) := s_gd (j := 3) (oj := o3_9_3) rfl rfl rfl (fun _ => rfl) (fun _ => rfl)
theorem s3_9_7 : stepA E C B 102 r3_9 o3_9_7 (φ, H) = stp (some 71) φ H (opPick (fget φ 67) (fget φ 70) (.bool false)) := nrfl rfl
theorem s3_9_8 : stepA E C B 102 r3_9 o3_9_8 (φ, H) = some (fput φ 72 (fget φ 71), H) := nrfl rfl
theorem s3_9_9 : stepA E C B 102 r3_9 o3_9_9 (φ, H) = gd φ 72 true (fun φ => some (fput φ 73 (.tup []), H)) (fun φ => some (fput φ 73 (fget φ 13), H)) := s_gd (j := 8) (oj := o3_9_8) rfl rfl rfl (fun _ => rfl) (fun _ => rfl)
theorem s3_9_10 : stepA E C B 102 r3_9 o3_9_10 (φ, H) = gd φ 72 true (fun φ => some (fput φ 74 (.tup []), H)) (fun φ => some (fput φ 74 (fget φ 15), H)) := s_gd (j := 8) (oj := o3_9_8) rfl rfl rfl (fun _ => rfl) (fun _ => rfl)
theorem s3_9_11 : stepA E C B 102 r3_9 o3_9_11 (φ, H) = gd φ 72 true (fun φ => some (fput φ 75 (.tup []), H)) (fun φ => stp (some 75) φ H (aCall C (fun j => B + j * 102 + 75) true 24 [(fget φ 73), (fget φ 74)])) := s_gd (j := 8) (oj := o3_9_8) rfl rfl rfl (fun _ => rfl) (fun _ => rfl)
theorem s3_9_12 : stepA E C B 102 r3_9 o3_9_12 (φ, H) = stp (some 76) φ H (opPick (fget φ 72) (fget φ 75) (.bool false)) := nrfl rfl
theorem s3_9_13 : stepA E C B 102 r3_9 o3_9_13 (φ, H) = some (fput φ 77 (fget φ 76), H) := nrfl rfl
theorem s3_9_14 : stepA E C B 102 r3_9 o3_9_14 (φ, H) = gd φ 77 true (fun φ => some (fput φ 78 (.tup []), H)) (fun φ => some (fput φ 78 (fget φ 14), H)) := s_gd (j := 13) (oj := o3_9_13) rfl rfl rfl (fun _ => rfl) (fun _ => rfl)
theorem s3_9_15 : stepA E C B 102 r3_9 o3_9_15 (φ, H) = gd φ 77 true (fun φ => some (fput φ 79 (.tup []), H)) (fun φ => some (fput φ 79 (fget φ 16), H)) := s_gd (j := 13) (oj := o3_9_13) rfl rfl rfl (fun _ => rfl) (fun _ => rfl)
theorem s3_9_16 : stepA E C B 102 r3_9 o3_9_16 (φ, H) = gd φ 77 true (fun φ => some (fput φ 80 (.tup []), H)) (fun φ => stp (some 80) φ H (just (aBin E.T .eql 24 (fget φ 78) (fget φ 79)))) := s_gd (j := 13) (oj := o3_9_13) rfl rfl rfl (fun _ => rfl) (fun _ => rfl)
theorem s3_9_17 : stepA E C B 102 r3_9 o3_9_17 (φ, H) = stp (some 81) φ H (opPick (fget φ 77) (fget φ 80) (.bool false)) := nrfl rfl
theorem s3_9_18 : stepA E C B 102 r3_9 o3_9_18 (φ, H) = some (fput φ 82 (fget φ 81), H) := nrfl rfl
theorem s3_9_19 : stepA E C B 102 r3_9 o3_9_19 (φ, H) = gd φ 82 true (fun φ => some (fput φ 83 (.tup []), H)) (fun φ => some (fput φ 83 (fget φ 17), H)) := s_gd (j := 18) (oj := o3_9_18) rfl rfl rfl (fun _ => rfl) (fun _ => rfl)
theorem s3_9_20 : stepA E C B 102 r3_9 o3_9_20 (φ, H) = gd φ 82 true (fun φ => some (fput φ 84 (.tup []), H)) (fun φ => some (fput φ 84 (fget φ 19), H)) := s_gd (j := 18) (oj := o3_9_18) rfl rfl rfl (fun _ => rfl) (fun _ => rfl)
theorem s3_9_21 : stepA E C B 102 r3_9 o3_9_21 (φ, H) = gd φ 82 true (fun φ => some (fput φ 85 (.tup []), H)) (fun φ => stp (some 85) φ H (aCall C (fun j => B + j * 102 + 85) true 24 [(fget φ 83), (fget φ 84)])) := s_gd (j := 18) (oj := o3_9_18) rfl rfl rfl (fun _ => rfl) (fun _ => rfl)
theorem s3_9_22 : stepA E C B 102 r3_9 o3_9_22 (φ, H) = stp (some 86) φ H (opPick (fget φ 82) (fget φ 85) (.bool false)) := nrfl rfl
theorem s3_9_23 : stepA E C B 102 r3_9 o3_9_23 (φ, H) = some (fput φ 87 (fget φ 86), H) := nrfl rfl
theorem s3_9_24 : stepA E C B 102 r3_9 o3_9_24 (φ, H) = gd φ 87 true (fun φ => some (fput φ 88 (.tup []), H)) (fun φ => some (fput φ 88 (fget φ 18), H)) := s_gd (j := 23) (oj := o3_9_23) rfl rfl rfl (fun _ => rfl) (fun _ => rfl)
theorem s3_9_25 : stepA E C B 102 r3_9 o3_9_25 (φ, H) = gd φ 87 true (fun φ => some (fput φ 89 (.tup []), H)) (fun φ => some (fput φ 89 (fget φ 20), H)) := s_gd (j := 23) (oj := o3_9_23) rfl rfl rfl (fun _ => rfl) (fun _ => rfl)
theorem s3_9_26 : stepA E C B 102 r3_9 o3_9_26 (φ, H) = gd φ 87 true (fun φ => some (fput φ 90 (.tup []), H)) (fun φ => stp (some 90) φ H (just (aBin E.T .eql 24 (fget φ 88) (fget φ 89)))) := s_gd (j := 23) (oj := o3_9_23) rfl rfl rfl (fun _ => rfl) (fun _ => rfl)
theorem s3_9_27 : stepA E C B 102 r3_9 o3_9_27 (φ, H) = stp (some 91) φ H (opPick (fget φ 87) (fget φ 90) (.bool false)) := nrfl rfl
theorem s3_9_28 : stepA E C B 102 r3_9 o3_9_28 (φ, H) = some (fput φ 92 (fget φ 91), H) := nrfl rfl
theorem s3_9_29 : stepA E C B 102 r3_9 o3_9_29 (φ, H) = gd φ 92 true (fun φ => some (fput φ 93 (.tup []), H)) (fun φ => some (fput φ 93 (fget φ 0), H)) := s_gd (j := 28) (oj := o3_9_28) rfl rfl rfl (fun _ => rfl) (fun _ => rfl)
theorem s3_9_30 : stepA E C B 102 r3_9 o3_9_30 (φ, H) = gd φ 92 true (fun φ => some (fput φ 94 (.tup []), H)) (fun φ => stp (some 94) φ H (aCall C (fun j => B + j * 102 + 94) true 25 [(fget φ 93)])) := s_gd (j := 28) (oj := o3_9_28) rfl rfl rfl (fun _ => rfl) (fun _ => rfl)
theorem s3_9_31 : stepA E C B 102 r3_9 o3_9_31 (φ, H) = gd φ 92 true (fun φ => some (fput φ 95 (.tup []), H)) (fun φ => some (fput φ 95 (fget φ 0), H)) := s_gd (j := 28) (oj := o3_9_28) rfl rfl rfl (fun _ => rfl) (fun _ => rfl)
theorem s3_9_32 : stepA E C B 102 r3_9 o3_9_32 (φ, H) = gd φ 92 true (fun φ => some (fput φ 96 (.tup []), H)) (fun φ => stp (some 96) φ H (aCall C (fun j => B + j * 102 + 96) true 26 [(fget φ 95)])) := s_gd (j := 28) (oj := o3_9_28) rfl rfl rfl (fun _ => rfl) (fun _ => rfl)
theorem s3_9_33 : stepA E C B 102 r3_9 o3_9_33 (φ, H) = gd φ 92 true (fun φ => some (fput φ 97 (.tup []), H)) (fun φ => stp (some 97) φ H (just (aBin E.T .eql 24 (fget φ 94) (fget φ 96)))) := s_gd (j := 28) (oj := o3_9_28) rfl rfl rfl (fun _ => rfl) (fun _ => rfl)
theorem s3_9_34 : stepA E C B 102 r3_9 o3_9_34 (φ, H) = stp (some 98) φ H (opPick (fget φ 92) (fget φ 97) (.bool false)) := nrfl rfl
theorem s3_9_35 : stepA E C B 102 r3_9 o3_9_35 (φ, H) = some (fput φ 99 (fget φ 98), H) := nrfl rfl
theorem s3_9_36 : stepA E C B 102 r3_9 o3_9_36 (φ, H) = gd φ 99 true (fun φ => some (fput φ 100 (.tup []), H)) (fun φ => stp (some 100) φ H (aCall C (fun j => B + j * 102 + 100) true 17 [])) := s_gd (j := 35) (oj := o3_9_35) rfl rfl rfl (fun _ => rfl) (fun _ => rfl)
theorem s3_9_37 : stepA E C B 102 r3_9 o3_9_37 (φ, H) = stp (some 101) φ H (opPick (fget φ 99) (fget φ 100) (.bool false)) := nrfl rfl
theorem s3_9_38 : stepA E C B 102 r3_9 o3_9_38 (φ, H) = some (fput φ 8 (fget φ 101), H) := nrfl rfl
noncomputable def c3_24 : Code := kR c3_22
theorem x3_24 : execA E C (fg 3) B 102 E0 N c3_24 s = some (.ret, s) := x_ret (by rfl) s
theorem x3_22 : execA E C (fg 3) B 102 E0 N c3_22 s = seqX (execA E C (fg 3) B 102 E0 N c3_23 s) (execA E C (fg 3) B 102 E0 N c3_24) := x_seq (by rfl) s
theorem x3_20 : execA E C (fg 3) B 102 E0 N c3_20 s = seqX (execA E C (fg 3) B 102 E0 N c3_21 s) (execA E C (fg 3) B 102 E0 N c3_22) := x_seq (by rfl) s
theorem x3_18 : execA E C (fg 3) B 102 E0 N c3_18 s = seqX (execA E C (fg 3) B 102 E0 N c3_19 s) (execA E C (fg 3) B 102 E0 N c3_20) := x_seq (by rfl) s
theorem x3_16 : execA E C (fg 3) B 102 E0 N c3_16 s = seqX (execA E C (fg 3) B 102 E0 N c3_17 s) (execA E C (fg 3) B 102 E0 N c3_18) := x_seq (by rfl) s
theorem x3_14 : execA E C (fg 3) B 102 E0 N c3_14 s = seqX (execA E C (fg 3) B 102 E0 N c3_15 s) (execA E C (fg 3) B 102 E0 N c3_16) := x_seq (by rfl) s
theorem x3_12 : execA E C (fg 3) B 102 E0 N c3_12 s = seqX (execA E C (fg 3) B 102 E0 N c3_13 s) (execA E C (fg 3) B 102 E0 N c3_14) := x_seq (by rfl) s
theorem x3_10 : execA E C (fg 3) B 102 E0 N c3_10 s = seqX (execA E C (fg 3) B 102 E0 N c3_11 s) (execA E C (fg 3) B 102 E0 N c3_12) := x_seq (by rfl) s
theorem x3_2 : execA E C (fg 3) B 102 E0 N c3_2 s = seqX (execA E C (fg 3) B 102 E0 N c3_3 s) (execA E C (fg 3) B 102 E0 N c3_10) := x_seq (by rfl) s
theorem x3_0 : execA E C (fg 3) B 102 E0 N c3_0 s = seqX (execA E C (fg 3) B 102 E0 N c3_1 s) (execA E C (fg 3) B 102 E0 N c3_2) := x_seq (by rfl) s
theorem fi_3 : fInfo E 3 = some ⟨102, #[.tmp 8], c3_0⟩ := nrfl rfl
theorem b_3 (args : List AV) : bodyA E C fg N 3 args H B = bodyX E [.tmp 8] (execA E C (fg 3) B 102 H N c3_0 (frame0 args 0 [], H)) := bodyA_eq fi_3 args H
abbrev F_3 := And.intro (And.intro (And.intro (And.intro (And.intro (And.intro (And.intro @x3_1 @r3_0_l) (And.intro @s3_0_0 @x3_4)) (And.intro (And.intro @r3_1_l @s3_1_0) (And.intro @s3_1_1 @s3_1_2))) (And.intro (And.intro (And.intro @s3_1_3 @s3_1_4) (And.intro @s3_1_5 @s3_1_6)) (And.intro (And.intro @s3_1_7 @x3_7) (And.intro @r3_2_l @s3_2_0)))) (And.intro (And.intro (And.intro (And.intro @s3_2_1 @x3_8) (And.intro @x3_6 @x3_9)) (And.intro (And.intro @x3_5 @x3_3) (And.intro @x3_11 @r3_3_l))) (And.intro (And.intro (And.intro @s3_3_0 @s3_3_1) (And.intro @s3_3_2 @s3_3_3)) (And.intro (And.intro @s3_3_4 @s3_3_5) (And.intro @s3_3_6 (And.intro @x3_13 @r3_4_l)))))) (And.intro (And.intro (And.intro (And.intro (And.intro @s3_4_0 @s3_4_1) (And.intro @s3_4_2 @s3_4_3)) (And.intro (And.intro @s3_4_4 @s3_4_5) (And.intro @s3_4_6 @x3_15))) (And.intro (And.intro (And.intro @r3_5_l @s3_5_0) (And.intro @s3_5_1 @s3_5_2)) (And.intro (And.intro @s3_5_3 @s3_5_4) (And.intro @s3_5_5 @s3_5_6)))) (And.intro (And.intro (And.intro (And.intro @x3_17 @r3_6_l) (And.intro @s3_6_0 @s3_6_1)) (And.intro (And.intro @s3_6_2 @s3_6_3) (And.intro @s3_6_4 @s3_6_5))) (And.intro (And.intro (And.intro @s3_6_6 @x3_19) (And.intro @r3_7_l @s3_7_0)) (And.intro (And.intro @s3_7_1 @s3_7_2) (And.intro @s3_7_3 (And.intro @s3_7_4 @s3_7_5))))))) (And.intro (And.intro (And.intro (And.intro (And.intro (And.intro @s3_7_6 @s3_7_7) (And.intro @s3_7_8 @x3_21)) (And.intro (And.intro @r3_8_l @s3_8_0) (And.intro @s3_8_1 @s3_8_2))) (And.intro (And.intro (And.intro @s3_8_3 @s3_8_4) (And.intro @s3_8_5 @s3_8_6)) (And.intro (And.intro @s3_8_7 @s3_8_8) (And.intro @x3_23 @r3_9_l)))) (And.intro (And.intro (And.intro (And.intro @s3_9_0 @s3_9_1) (And.intro @s3_9_2 @s3_9_3)) (And.intro (And.intro @s3_9_4 @s3_9_5) (And.intro @s3_9_6 @s3_9_7))) (And.intro (And.intro (And.intro @s3_9_8 @s3_9_9) (And.intro @s3_9_10 @s3_9_11)) (And.intro (And.intro @s3_9_12 @s3_9_13) (And.intro @s3_9_14 (And.intro @s3_9_15 @s3_9_16)))))) (And.intro (And.intro (And.intro (And.intro (And.intro @s3_9_17 @s3_9_18) (And.intro @s3_9_19 @s3_9_20)) (And.intro (And.intro @s3_9_21 @s3_9_22) (And.intro @s3_9_23 @s3_9_24))) (And.intro (And.intro (And.intro @s3_9_25 @s3_9_26) (And.intro @s3_9_27 @s3_9_28)) (And.intro (And.intro @s3_9_29 @s3_9_30) (And.intro @s3_9_31 @s3_9_32)))) (And.intro (And.intro (And.intro (And.intro @s3_9_33 @s3_9_34) (And.intro @s3_9_35 @s3_9_36)) (And.intro (And.intro @s3_9_37 @s3_9_38) (And.intro @x3_24 @x3_22))) (And.intro (And.intro (And.intro @x3_20 @x3_18) (And.intro @x3_16 @x3_14)) (And.intro (And.intro @x3_12 @x3_10) (And.intro @x3_2 (And.intro @x3_0 @b_3)))))))
end Go.AM.Ytfmnoohhhokicaa
end

section
namespace Go.AM.Ytfmnoohhhokicaa
open Go Go.AM
set_option maxRecDepth 100000
variable {C : Callee} {B N : Nat} {E0 : AHeap} (φ : AFr) (H : AHeap) (s : St)
noncomputable def c81_0 : Code := kBody Proofs.Try.f81
noncomputable def c81_1 : Code := kL c81_0
noncomputable def r81_0 : Array Oper := kO c81_1
noncomputable def o81_0_0 : Oper := opN r81_0 0
theorem x81_1 : execA E C (fg 81) B 15 E0 N c81_1 s = regX (runA E C B 15 r81_0 r81_0.toList s) (fun s => gcM E0 [6] (forget s.1 [6], s.2)) := x_reg (ops := r81_0) (by rfl) (by rfl) s
theorem r81_0_l : r81_0.toList = [o81_0_0] := nrfl rfl
theorem s81_0_0 : stepA E C B 15 r81_0 o81_0_0 (φ, H) = some (fput φ 6 (.bool false), H) := nrfl rfl
noncomputable def c81_2 : Code := kR c81_0
noncomputable def c81_3 : Code := kL c81_2
noncomputable def r81_1 : Array Oper := kO c81_3
noncomputable def o81_1_0 : Oper := opN r81_1 0
noncomputable def o81_1_1 : Oper := opN r81_1 1
noncomputable def o81_1_2 : Oper := opN r81_1 2
noncomputable def o81_1_3 : Oper := opN r81_1 3
noncomputable def o81_1_4 : Oper := opN r81_1 4
noncomputable def o81_1_5 : Oper := opN r81_1 5
noncomputable def o81_1_6 : Oper := opN r81_1 6
noncomputable def o81_1_7 : Oper := opN r81_1 7
noncomputable def o81_1_8 : Oper := opN r81_1 8
theorem x81_3 : execA E C (fg 81) B 15 E0 N c81_3 s = regX (runA E C B 15 r81_1 r81_1.toList s) (fun s => gcM E0 [0, 1, 2, 7, 8, 9, 10, 11, 12, 13, 14] (forget s.1 [0, 1, 2, 7, 8, 9, 10, 11, 12, 13, 14], s.2)) := x_reg (ops := r81_1) (by rfl) (by rfl) s
theorem r81_1_l : r81_1.toList = [o81_1_0, o81_1_1, o81_1_2, o81_1_3, o81_1_4, o81_1_5, o81_1_6, o81_1_7, o81_1_8] := nrfl rfl
theorem s81_1_0 : stepA E C B 15 r81_1 o81_1_0 (φ, H) = some (fput φ 7 (fget φ 0), H) := nrfl rfl
theorem s81_1_1 : stepA E C B 15 r81_1 o81_1_1 (φ, H) = some (fput φ 8 (fget φ 1), H) := nrfl rfl
theorem s81_1_2 : stepA E C B 15 r81_1 o81_1_2 (φ, H) = stp (some 9) φ H (just (aBin E.T .geq 3 (fget φ 7) (fget φ 8))) := nrfl rfl
theorem s81_1_3 : stepA E C B 15 r81_1 o81_1_3 (φ, H) = some (fput φ 10 (fget φ 9), H) := nrfl rfl
theorem s81_1_4 : stepA E C B 15 r81_1 o81_1_4 (φ, H) = gd φ 10 true (fun φ => some (fput φ 11 (.tup []), H)) (fun φ => some (fput φ 11 (fget φ 0), H)) := s_gd (j := 3) (oj := o81_1_3) rfl rfl rfl (fun _ => rfl) (fun _ => rfl)
theorem s81_1_5 : stepA E C B 15 r81_1 o81_1_5 (φ, H) = gd φ 10 true (fun φ => some (fput φ 12 (.tup []), H)) (fun φ => some (fput φ 12 (fget φ 2), H)) := s_gd (j := 3) (oj := o81_1_3) rfl rfl rfl (fun _ => rfl) (fun _ => rfl)
theorem s81_1_6 : stepA E C B 15 r81_1 o81_1_6 (φ, H) = gd φ 10 true (fun φ => some (fput φ 13 (.tup []), H)) (fun φ => stp (some 13) φ H (just (aBin E.T .leq 3 (fget φ 11) (fget φ 12)))) := s_gd (j := 3) (oj := o81_1_3) rfl rfl rfl (fun _ => rfl) (fun _ => rfl)
theorem s81_1_7 : stepA E C B 15 r81_1 o81_1_7 (φ, H) = stp (some 14) φ H (opPick (fget φ 10) (fget φ 13) (.bool false)) := nrfl rfl
theorem s81_1_8 : stepA E C B 15 r81_1 o81_1_8 (φ, H) = some (fput φ 6 (fget φ 14), H) := nrfl rfl
noncomputable def c81_4 : Code := kR c81_2
theorem x81_4 : execA E C (fg 81) B 15 E0 N c81_4 s = some (.ret, s) := x_ret (by rfl) s
theorem x81_2 : execA E C (fg 81) B 15 E0 N c81_2 s = seqX (execA E C (fg 81) B 15 E0 N c81_3 s) (execA E C (fg 81) B 15 E0 N c81_4) := x_seq (by rfl) s
theorem x81_0 : execA E C (fg 81) B 15 E0 N c81_0 s = seqX (execA E C (fg 81) B 15 E0 N c81_1 s) (execA E C (fg 81) B 15 E0 N c81_2) := x_seq (by rfl) s
theorem fi_81 : fInfo E 81 = some ⟨15, #[.tmp 6], c81_0⟩ := nrfl rfl
theorem b_81 (args : List AV) : bodyA E C fg N 81 args H B = bodyX E [.tmp 6] (execA E C (fg 81) B 15 H N c81_0 (frame0 args 0 [], H)) := bodyA_eq fi_81 args H
abbrev F_81 := And.intro (And.intro (And.intro (And.intro @x81_1 @r81_0_l) (And.intro @s81_0_0 @x81_3)) (And.intro (And.intro @r81_1_l @s81_1_0) (And.intro @s81_1_1 (And.intro @s81_1_2 @s81_1_3)))) (And.intro (And.intro (And.intro @s81_1_4 @s81_1_5) (And.intro @s81_1_6 @s81_1_7)) (And.intro (And.intro @s81_1_8 @x81_4) (And.intro @x81_2 (And.intro @x81_0 @b_81))))
noncomputable def c26_0 : Code := kBody Proofs.Try.f26
noncomputable def c26_1 : Code := kL c26_0
noncomputable def r26_0 : Array Oper := kO c26_1
noncomputable def o26_0_0 : Oper := opN r26_0 0
theorem x26_1 : execA E C (fg 26) B 36 E0 N c26_1 s = regX (runA E C B 36 r26_0 r26_0.toList s) (fun s => gcM E0 [2] (forget s.1 [2], s.2)) := x_reg (ops := r26_0) (by rfl) (by rfl) s
theorem r26_0_l : r26_0.toList = [o26_0_0] := nrfl rfl
theorem s26_0_0 : stepA E C B 36 r26_0 o26_0_0 (φ, H) = some (fput φ 2 (.int .i64 0), H) := nrfl rfl
noncomputable def c26_2 : Code := kR c26_0
noncomputable def c26_3 : Code := kL c26_2
noncomputable def c26_4 : Code := kL c26_3
noncomputable def r26_1 : Array Oper := kO c26_4
noncomputable def o26_1_0 : Oper := opN r26_1 0
noncomputable def o26_1_1 : Oper := opN r26_1 1
noncomputable def o26_1_2 : Oper := opN r26_1 2
theorem x26_4 : execA E C (fg 26) B 36 E0 N c26_4 s = regX (runA E C B 36 r26_1 r26_1.toList s) (fun s => gcM E0 [4, 5] (forget s.1 [4, 5], s.2)) := x_reg (ops := r26_1) (by rfl) (by rfl) s
theorem r26_1_l : r26_1.toList = [o26_1_0, o26_1_1, o26_1_2] := nrfl rfl
theorem s26_1_0 : stepA E C B 36 r26_1 o26_1_0 (φ, H) = some (fput φ 4 (fget φ 0), H) := nrfl rfl
theorem s26_1_1 : stepA E C B 36 r26_1 o26_1_1 (φ, H) = stp (some 5) φ H (aBuiltin E.T (B + 5) .len #[22] [(fget φ 4)]) := nrfl rfl
theorem s26_1_2 : stepA E C B 36 r26_1 o26_1_2 (φ, H) = stp (some 6) φ H (just (aBin E.T .eql 3 (fget φ 5) (.int .i64 0))) := nrfl rfl
noncomputable def c26_5 : Code := kR c26_3
noncomputable def c26_6 : Code := kT c26_5
noncomputable def c26_7 : Code := kL c26_6
noncomputable def r26_2 : Array Oper := kO c26_7
noncomputable def o26_2_0 : Oper := opN r26_2 0
theorem x26_7 : execA E C (fg 26) B 36 E0 N c26_7 s = regX (runA E C B 36 r26_2 r26_2.toList s) (fun s => gcM E0 [0, 6] (forget s.1 [0, 6], s.2)) := x_reg (ops := r26_2) (by rfl) (by rfl) s
theorem r26_2_l : r26_2.toList = [o26_2_0] := nrfl rfl
theorem s26_2_0 : stepA E C B 36 r26_2 o26_2_0 (φ, H) = some (fput φ 2 (.int .i64 4), H) := nrfl rfl
noncomputable def c26_8 : Code := kR c26_6
theorem x26_8 : execA E C (fg 26) B 36 E0 N c26_8 s = some (.ret, s) := x_ret (by rfl) s
theorem x26_6 : execA E C (fg 26) B 36 E0 N c26_6 s = seqX (execA E C (fg 26) B 36 E0 N c26_7 s) (execA E C (fg 26) B 36 E0 N c26_8) := x_seq (by rfl) s
noncomputable def c26_9 : Code := kE c26_5
theorem x26_9 : execA E C (fg 26) B 36 E0 N c26_9 s = some (.normal, s) := x_skip (by rfl) s
theorem x26_5 : execA E C (fg 26) B 36 E0 N c26_5 (φ, H) = condX (fget φ 6) (execA E C (fg 26) B 36 E0 N c26_6 (φ, H)) (execA E C (fg 26) B 36 E0 N c26_9 (φ, H)) := x_cond (by rfl) _
theorem x26_3 : execA E C (fg 26) B 36 E0 N c26_3 s = seqX (execA E C (fg 26) B 36 E0 N c26_4 s) (execA E C (fg 26) B 36 E0 N c26_5) := x_seq (by rfl) s
noncomputable def c26_10 : Code := kR c26_2
noncomputable def c26_11 : Code := kL c26_10
noncomputable def c26_12 : Code := kL c26_11
noncomputable def r26_3 : Array Oper := kO c26_12
noncomputable def o26_3_0 : Oper := opN r26_3 0
noncomputable def o26_3_1 : Oper := opN r26_3 1
noncomputable def o26_3_2 : Oper := opN r26_3 2
theorem x26_12 : execA E C (fg 26) B 36 E0 N c26_12 s = regX (runA E C B 36 r26_3 r26_3.toList s) (fun s => gcM E0 [6, 7, 8] (forget s.1 [6, 7, 8], s.2)) := x_reg (ops := r26_3) (by rfl) (by rfl) s
theorem r26_3_l : r26_3.toList = [o26_3_0, o26_3_1, o26_3_2] := nrfl rfl
theorem s26_3_0 : stepA E C B 36 r26_3 o26_3_0 (φ, H) = some (fput φ 7 (fget φ 0), H) := nrfl rfl
theorem s26_3_1 : stepA E C B 36 r26_3 o26_3_1 (φ, H) = stp (some 8) φ H (aBuiltin E.T (B + 8) .len #[22] [(fget φ 7)]) := nrfl rfl
theorem s26_3_2 : stepA E C B 36 r26_3 o26_3_2 (φ, H) = stp (some 9) φ H (just (aBin E.T .gtr 3 (fget φ 8) (.int .i64 6))) := nrfl rfl
noncomputable def c26_13 : Code := kR c26_11
noncomputable def c26_14 : Code := kT c26_13
noncomputable def c26_15 : Code := kL c26_14
noncomputable def r26_4 : Array Oper := kO c26_15
noncomputable def o26_4_0 : Oper := opN r26_4 0
theorem x26_15 : execA E C (fg 26) B 36 E0 N c26_15 s = regX (runA E C B 36 r26_4 r26_4.toList s) (fun s => gcM E0 [0, 9] (forget s.1 [0, 9], s.2)) := x_reg (ops := r26_4) (by rfl) (by rfl) s
theorem r26_4_l : r26_4.toList = [o26_4_0] := nrfl rfl
theorem s26_4_0 : stepA E C B 36 r26_4 o26_4_0 (φ, H) = some (fput φ 2 (.int .i64 3), H) := nrfl rfl
noncomputable def c26_16 : Code := kR c26_14
theorem x26_16 : execA E C (fg 26) B 36 E0 N c26_16 s = some (.ret, s) := x_ret (by rfl) s
theorem x26_14 : execA E C (fg 26) B 36 E0 N c26_14 s = seqX (execA E C (fg 26) B 36 E0 N c26_15 s) (execA E C (fg 26) B 36 E0 N c26_16) := x_seq (by rfl) s
noncomputable def c26_17 : Code := kE c26_13
theorem x26_17 : execA E C (fg 26) B 36 E0 N c26_17 s = some (.normal, s) := x_skip (by rfl) s
theorem x26_13 : execA E C (fg 26) B 36 E0 N c26_13 (φ, H) = condX (fget φ 9) (execA E C (fg 26) B 36 E0 N c26_14 (φ, H)) (execA E C (fg 26) B 36 E0 N c26_17 (φ, H)) := x_cond (by rfl) _
theorem x26_11 : execA E C (fg 26) B 36 E0 N c26_11 s = seqX (execA E C (fg 26) B 36 E0 N c26_12 s) (execA E C (fg 26) B 36 E0 N c26_13) := x_seq (by rfl) s
noncomputable def c26_18 : Code := kR c26_10
noncomputable def c26_19 : Code := kL c26_18
noncomputable def c26_20 : Code := kL c26_19
noncomputable def r26_5 : Array Oper := kO c26_20
noncomputable def o26_5_0 : Oper := opN r26_5 0
theorem x26_20 : execA E C (fg 26) B 36 E0 N c26_20 s = regX (runA E C B 36 r26_5 r26_5.toList s) (fun s => gcM E0 [9] (forget s.1 [9], s.2)) := x_reg (ops := r26_5) (by rfl) (by rfl) s
theorem r26_5_l : r26_5.toList = [o26_5_0] := nrfl rfl
theorem s26_5_0 : stepA E C B 36 r26_5 o26_5_0 (φ, H) = some (fput φ 3 (.int .i64 0), H) := nrfl rfl
noncomputable def c26_21 : Code := kR c26_19
noncomputable def c26_22 : Code := kB c26_21
noncomputable def c26_23 : Code := kB c26_22
noncomputable def c26_24 : Code := kL c26_23
noncomputable def c26_25 : Code := kL c26_24
noncomputable def r26_6 : Array Oper := kO c26_25
noncomputable def o26_6_0 : Oper := opN r26_6 0
noncomputable def o26_6_1 : Oper := opN r26_6 1
noncomputable def o26_6_2 : Oper := opN r26_6 2
noncomputable def o26_6_3 : Oper := opN r26_6 3
theorem x26_25 : execA E C (fg 26) B 36 E0 N c26_25 s = regX (runA E C B 36 r26_6 r26_6.toList s) (fun s => gcM E0 [10, 11, 12] (forget s.1 [10, 11, 12], s.2)) := x_reg (ops := r26_6) (by rfl) (by rfl) s
theorem r26_6_l : r26_6.toList = [o26_6_0, o26_6_1, o26_6_2, o26_6_3] := nrfl rfl
theorem s26_6_0 : stepA E C B 36 r26_6 o26_6_0 (φ, H) = some (fput φ 10 (fget φ 3), H) := nrfl rfl
theorem s26_6_1 : stepA E C B 36 r26_6 o26_6_1 (φ, H) = some (fput φ 11 (fget φ 0), H) := nrfl rfl
theorem s26_6_2 : stepA E C B 36 r26_6 o26_6_2 (φ, H) = stp (some 12) φ H (aBuiltin E.T (B + 12) .len #[22] [(fget φ 11)]) := nrfl rfl
theorem s26_6_3 : stepA E C B 36 r26_6 o26_6_3 (φ, H) = stp (some 13) φ H (just (aBin E.T .lss 3 (fget φ 10) (fget φ 12))) := nrfl rfl
noncomputable def c26_26 : Code := kR c26_24
noncomputable def c26_27 : Code := kT c26_26
theorem x26_27 : execA E C (fg 26) B 36 E0 N c26_27 s = some (.normal, s) := x_skip (by rfl) s
noncomputable def c26_28 : Code := kE c26_26
theorem x26_28 : execA E C (fg 26) B 36 E0 N c26_28 s = some (.exit 0, s) := x_exit (by rfl) s
theorem x26_26 : execA E C (fg 26) B 36 E0 N c26_26 (φ, H) = condX (fget φ 13) (execA E C (fg 26) B 36 E0 N c26_27 (φ, H)) (execA E C (fg 26) B 36 E0 N c26_28 (φ, H)) := x_cond (by rfl) _
theorem x26_24 : execA E C (fg 26) B 36 E0 N c26_24 s = seqX (execA E C (fg 26) B 36 E0 N c26_25 s) (execA E C (fg 26) B 36 E0 N c26_26) := x_seq (by rfl) s
noncomputable def c26_29 : Code := kR c26_23
noncomputable def c26_30 : Code := kL c26_29
noncomputable def c26_31 : Code := kB c26_30
noncomputable def c26_32 : Code := kL c26_31
noncomputable def c26_33 : Code := kL c26_32
noncomputable def r26_8 : Array Oper := kO c26_33
noncomputable def o26_8_0 : Oper := opN r26_8 0
noncomputable def o26_8_1 : Oper := opN r26_8 1
noncomputable def o26_8_2 : Oper := opN r26_8 2
noncomputable def o26_8_3 : Oper := opN r26_8 3
noncomputable def o26_8_4 : Oper := opN r26_8 4
noncomputable def o26_8_5 : Oper := opN r26_8 5
theorem x26_33 : execA E C (fg 26) B 36 E0 N c26_33 s = regX (runA E C B 36 r26_8 r26_8.toList s) (fun s => gcM E0 [13, 16, 17, 18, 19, 20] (forget s.1 [13, 16, 17, 18, 19, 20], s.2)) := x_reg (ops := r26_8) (by rfl) (by rfl) s
theorem r26_8_l : r26_8.toList = [o26_8_0, o26_8_1, o26_8_2, o26_8_3, o26_8_4, o26_8_5] := nrfl rfl
theorem s26_8_0 : stepA E C B 36 r26_8 o26_8_0 (φ, H) = some (fput φ 16 (fget φ 0), H) := nrfl rfl
theorem s26_8_1 : stepA E C B 36 r26_8 o26_8_1 (φ, H) = some (fput φ 17 (fget φ 3), H) := nrfl rfl
theorem s26_8_2 : stepA E C B 36 r26_8 o26_8_2 (φ, H) = stp (some 18) φ H (just (aIndexAddr E.T 22 (fget φ 16) (fget φ 17))) := nrfl rfl
theorem s26_8_3 : stepA E C B 36 r26_8 o26_8_3 (φ, H) = stp (some 19) φ H (just (aLoad E.T 3 (fget φ 18))) := nrfl rfl
theorem s26_8_4 : stepA E C B 36 r26_8 o26_8_4 (φ, H) = stp (some 20) φ H (aCall C (fun j => B + j * 36 + 20) true 81 [(fget φ 19), (.int .i64 0), (.int .i64 8)]) := nrfl rfl
theorem s26_8_5 : stepA E C B 36 r26_8 o26_8_5 (φ, H) = stp (some 21) φ H (justO (aUn .not (fget φ 20))) := nrfl rfl
noncomputable def c26_34 : Code := kR c26_32
noncomputable def c26_35 : Code := kT c26_34
noncomputable def c26_36 : Code := kL c26_35
noncomputable def r26_9 : Array Oper := kO c26_36
noncomputable def o26_9_0 : Oper := opN r26_9 0
theorem x26_36 : execA E C (fg 26) B 36 E0 N c26_36 s = regX (runA E C B 36 r26_9 r26_9.toList s) (fun s => gcM E0 [0, 3, 21] (forget s.1 [0, 3, 21], s.2)) := x_reg (ops := r26_9) (by rfl) (by rfl) s
theorem r26_9_l : r26_9.toList = [o26_9_0] := nrfl rfl
theorem s26_9_0 : stepA E C B 36 r26_9 o26_9_0 (φ, H) = some (fput φ 2 (.int .i64 1), H) := nrfl rfl
noncomputable def c26_37 : Code := kR c26_35
theorem x26_37 : execA E C (fg 26) B 36 E0 N c26_37 s = some (.ret, s) := x_ret (by rfl) s
theorem x26_35 : execA E C (fg 26) B 36 E0 N c26_35 s = seqX (execA E C (fg 26) B 36 E0 N c26_36 s) (execA E C (fg 26) B 36 E0 N c26_37) := x_seq (by rfl) s
noncomputable def c26_38 : Code := kE c26_34
theorem x26_38 : execA E C (fg 26) B 36 E0 N c26_38 s = some (.normal, s) := x_skip (by rfl) s
theorem x26_34 : execA E C (fg 26) B 36 E0 N c26_34 (φ, H) = condX (fget φ 21) (execA E C (fg 26) B 36 E0 N c26_35 (φ, H)) (execA E C (fg 26) B 36 E0 N c26_38 (φ, H)) := x_cond (by rfl) _
theorem x26_32 : execA E C (fg 26) B 36 E0 N c26_32 s = seqX (execA E C (fg 26) B 36 E0 N c26_33 s) (execA E C (fg 26) B 36 E0 N c26_34) := x_seq (by rfl) s
noncomputable def c26_39 : Code := kR c26_31
noncomputable def c26_40 : Code := kL c26_39
noncomputable def r26_10 : Array Oper := kO c26_40
noncomputable def o26_10_0 : Oper := opN r26_10 0
noncomputable def o26_10_1 : Oper := opN r26_10 1
noncomputable def o26_10_2 : Oper := opN r26_10 2
noncomputable def o26_10_3 : Oper := opN r26_10 3
noncomputable def o26_10_4 : Oper := opN r26_10 4
noncomputable def o26_10_5 : Oper := opN r26_10 5
noncomputable def o26_10_6 : Oper := opN r26_10 6
noncomputable def o26_10_7 : Oper := opN r26_10 7
noncomputable def o26_10_8 : Oper := opN r26_10 8
noncomputable def o26_10_9 : Oper := opN r26_10 9
noncomputable def o26_10_10 : Oper := opN r26_10 10
noncomputable def o26_10_11 : Oper := opN r26_10 11
noncomputable def o26_10_12 : Oper := opN r26_10 12
noncomputable def o26_10_13 : Oper := opN r26_10 13
theorem x26_40 : execA E C (fg 26) B 36 E0 N c26_40 s = regX (drawA E C B 36 r26_10 s) (fun s => gcM E0 [21, 22, 23, 24, 25, 26, 27, 28, 29, 30, 31, 32, 33, 34] (forget s.1 [21, 22, 23, 24, 25, 26, 27, 28, 29, 30, 31, 32, 33, 34], s.2)) := x_draw (ops := r26_10) (by rfl) (by rfl) s
theorem r26_10_l : r26_10.toList = [o26_10_0, o26_10_1, o26_10_2, o26_10_3, o26_10_4, o26_10_5, o26_10_6, o26_10_7, o26_10_8, o26_10_9, o26_10_10, o26_10_11, o26_10_12, o26_10_13] := nrfl rfl
theorem r26_10_st : statOk r26_10 = true := by kernel_rfl
theorem r26_10_dr : drawA E C B 36 r26_10 s = if neat 36 s = true then drX r26_10 (runT E C B 36 r26_10 r26_10.toList 0 s) else none := draw_eq r26_10_st s
theorem r26_10_an (l : List (Nat × Tr)) : dynOk r26_10 l = (!writing l || dynPairs [[], [0], [0, 1], [0, 1, 2], [0, 1, 2], [0, 1, 2, 3, 4], [0, 1, 2, 3, 4, 5], [0, 1, 2], [0, 1, 2], [0, 1, 2, 8], [0, 1, 2, 7, 8, 9], [0, 1, 2, 7, 8, 9, 10], [0, 1, 2, 3, 4, 5, 6, 7, 8, 9, 10, 11], [0, 1, 2, 3, 4, 5, 6, 7, 8, 9, 10, 11, 12]] (touching l)) := dynOk_eq (by kernel_rfl) l
theorem s26_10_0 : stepT E C B 36 r26_10 o26_10_0 (φ, H) = some ((fput φ 22 (fget φ 3), H), ⟨false, [], []⟩) := stT_go rfl (goT_mv rfl rfl)
theorem s26_10_1 : stepT E C B 36 r26_10 o26_10_1 (φ, H) = stpT (some 23) φ H (just (aBin E.T .gtr 3 (fget φ 22) (.int .i64 0))) := stT_go rfl (goT_R rfl rfl)
theorem s26_10_2 : stepT E C B 36 r26_10 o26_10_2 (φ, H) = some ((fput φ 24 (fget φ 23), H), ⟨false, [], []⟩) := stT_go rfl (goT_mv rfl rfl)
theorem s26_10_3 : stepT E C B 36 r26_10 o26_10_3 (φ, H) = gdT φ 24 true (fun φ => (some (fput φ 25 (.tup []), H)).map fun s => (s, ⟨false, [], []⟩)) (fun φ => some ((fput φ 25 (fget φ 0), H), ⟨false, [], []⟩)) := stT_gd (j := 2) (oj := o26_10_2) rfl rfl rfl (fun _ => rfl) (fun _ => goT_mv rfl rfl)
theorem s26_10_4 : stepT E C B 36 r26_10 o26_10_4 (φ, H) = gdT φ 24 true (fun φ => (some (fput φ 26 (.tup []), H)).map fun s => (s, ⟨false, [], []⟩)) (fun φ => some ((fput φ 26 (fget φ 3), H), ⟨false, [], []⟩)) := stT_gd (j := 2) (oj := o26_10_2) rfl rfl rfl (fun _ => rfl) (fun _ => goT_mv rfl rfl)
theorem s26_10_5 : stepT E C B 36 r26_10 o26_10_5 (φ, H) = gdT φ 24 true (fun φ => (some (fput φ 27 (.tup []), H)).map fun s => (s, ⟨false, [], []⟩)) (fun φ => stpT (some 27) φ H (just (aIndexAddr E.T 22 (fget φ 25) (fget φ 26)))) := stT_gd (j := 2) (oj := o26_10_2) rfl rfl rfl (fun _ => rfl) (fun _ => goT_R rfl rfl)
theorem s26_10_6 : stepT E C B 36 r26_10 o26_10_6 (φ, H) = gdT φ 24 true (fun φ => (some (fput φ 28 (.tup []), H)).map fun s => (s, ⟨false, [], []⟩)) (fun φ => stpT (some 28) φ H (just (aLoad E.T 3 (fget φ 27)))) := stT_gd (j := 2) (oj := o26_10_2) rfl rfl rfl (fun _ => rfl) (fun _ => goT_R rfl rfl)
theorem s26_10_7 : stepT E C B 36 r26_10 o26_10_7 (φ, H) = gdT φ 24 true (fun φ => (some (fput φ 29 (.tup []), H)).map fun s => (s, ⟨false, [], []⟩)) (fun φ => some ((fput φ 29 (fget φ 0), H), ⟨false, [], []⟩)) := stT_gd (j := 2) (oj := o26_10_2) rfl rfl rfl (fun _ => rfl) (fun _ => goT_mv rfl rfl)
theorem s26_10_8 : stepT E C B 36 r26_10 o26_10_8 (φ, H) = gdT φ 24 true (fun φ => (some (fput φ 30 (.tup []), H)).map fun s => (s, ⟨false, [], []⟩)) (fun φ => some ((fput φ 30 (fget φ 3), H), ⟨false, [], []⟩)) := stT_gd (j := 2) (oj := o26_10_2) rfl rfl rfl (fun _ => rfl) (fun _ => goT_mv rfl rfl)
theorem s26_10_9 : stepT E C B 36 r26_10 o26_10_9 (φ, H) = gdT φ 24 true (fun φ => (some (fput φ 31 (.tup []), H)).map fun s => (s, ⟨false, [], []⟩)) (fun φ => stpT (some 31) φ H (just (aBin E.T .sub 3 (fget φ 30) (.int .i64 1)))) := stT_gd (j := 2) (oj := o26_10_2) rfl rfl rfl (fun _ => rfl) (fun _ => goT_R rfl rfl)
theorem s26_10_10 : stepT E C B 36 r26_10 o26_10_10 (φ, H) = gdT φ 24 true (fun φ => (some (fput φ 32 (.tup []), H)).map fun s => (s, ⟨false, [], []⟩)) (fun φ => stpT (some 32) φ H (just (aIndexAddr E.T 22 (fget φ 29) (fget φ 31)))) := stT_gd (j := 2) (oj := o26_10_2) rfl rfl rfl (fun _ => rfl) (fun _ => goT_R rfl rfl)
theorem s26_10_11 : stepT E C B 36 r26_10 o26_10_11 (φ, H) = gdT φ 24 true (fun φ => (some (fput φ 33 (.tup []), H)).map fun s => (s, ⟨false, [], []⟩)) (fun φ => stpT (some 33) φ H (just (aLoad E.T 3 (fget φ 32)))) := stT_gd (j := 2) (oj := o26_10_2) rfl rfl rfl (fun _ => rfl) (fun _ => goT_R rfl rfl)
theorem s26_10_12 : stepT E C B 36 r26_10 o26_10_12 (φ, H) = gdT φ 24 true (fun φ => (some (fput φ 34 (.tup []), H)).map fun s => (s, ⟨false, [], []⟩)) (fun φ => stpT (some 34) φ H (just (aBin E.T .gtr 3 (fget φ 28) (fget φ 33)))) := stT_gd (j := 2) (oj := o26_10_2) rfl rfl rfl (fun _ => rfl) (fun _ => goT_R rfl rfl)
theorem s26_10_13 : stepT E C B 36 r26_10 o26_10_13 (φ, H) = stpT (some 35) φ H (opPick (fget φ 24) (fget φ 34) (.bool false)) := stT_go rfl (goT_R rfl rfl)
noncomputable def c26_41 : Code := kR c26_39
noncomputable def c26_42 : Code := kT c26_41
noncomputable def c26_43 : Code := kL c26_42
noncomputable def r26_11 : Array Oper := kO c26_43
noncomputable def o26_11_0 : Oper := opN r26_11 0
theorem x26_43 : execA E C (fg 26) B 36 E0 N c26_43 s = regX (runA E C B 36 r26_11 r26_11.toList s) (fun s => gcM E0 [0, 3, 35] (forget s.1 [0, 3, 35], s.2)) := x_reg (ops := r26_11) (by rfl) (by rfl) s
theorem r26_11_l : r26_11.toList = [o26_11_0] := nrfl rfl
theorem s26_11_0 : stepA E C B 36 r26_11 o26_11_0 (φ, H) = some (fput φ 2 (.int .i64 7), H) := nrfl rfl
noncomputable def c26_44 : Code := kR c26_42
theorem x26_44 : execA E C (fg 26) B 36 E0 N c26_44 s = some (.ret, s) := x_ret (by rfl) s
theorem x26_42 : execA E C (fg 26) B 36 E0 N c26_42 s = seqX (execA E C (fg 26) B 36 E0 N c26_43 s) (execA E C (fg 26) B 36 E0 N c26_44) := x_seq (by rfl) s
noncomputable def c26_45 : Code := kE c26_41
theorem x26_45 : execA E C (fg 26) B 36 E0 N c26_45 s = some (.normal, s) := x_skip (by rfl) s
theorem x26_41 : execA E C (fg 26) B 36 E0 N c26_41 (φ, H) = condX (fget φ 35) (execA E C (fg 26) B 36 E0 N c26_42 (φ, H)) (execA E C (fg 26) B 36 E0 N c26_45 (φ, H)) := x_cond (by rfl) _
theorem x26_39 : execA E C (fg 26) B 36 E0 N c26_39 s = seqX (execA E C (fg 26) B 36 E0 N c26_40 s) (execA E C (fg 26) B 36 E0 N c26_41) := x_seq (by rfl) s
theorem x26_31 : execA E C (fg 26) B 36 E0 N c26_31 s = seqX (execA E C (fg 26) B 36 E0 N c26_32 s) (execA E C (fg 26) B 36 E0 N c26_39) := x_seq (by rfl) s
theorem x26_30 : execA E C (fg 26) B 36 E0 N c26_30 s = blockX 1 (fun s => (forget s.1 [35], s.2)) (execA E C (fg 26) B 36 E0 N c26_31 s) := x_block (by rfl) (by rfl) s
noncomputable def c26_46 : Code := kR c26_29
noncomputable def r26_7 : Array Oper := kO c26_46
noncomputable def o26_7_0 : Oper := opN r26_7 0
noncomputable def o26_7_1 : Oper := opN r26_7 1
noncomputable def o26_7_2 : Oper := opN r26_7 2
theorem x26_46 : execA E C (fg 26) B 36 E0 N c26_46 s = regX (runA E C B 36 r26_7 r26_7.toList s) (fun s => gcM E0 [14, 15] (forget s.1 [14, 15], s.2)) := x_reg (ops := r26_7) (by rfl) (by rfl) s
theorem r26_7_l : r26_7.toList = [o26_7_0, o26_7_1, o26_7_2] := nrfl rfl
theorem s26_7_0 : stepA E C B 36 r26_7 o26_7_0 (φ, H) = some (fput φ 14 (fget φ 3), H) := nrfl rfl
theorem s26_7_1 : stepA E C B 36 r26_7 o26_7_1 (φ, H) = stp (some 15) φ H (just (aBin E.T .add 3 (fget φ 14) (.int .i64 1))) := nrfl rfl
theorem s26_7_2 : stepA E C B 36 r26_7 o26_7_2 (φ, H) = some (fput φ 3 (fget φ 15), H) := nrfl rfl
theorem x26_29 : execA E C (fg 26) B 36 E0 N c26_29 s = seqX (execA E C (fg 26) B 36 E0 N c26_30 s) (execA E C (fg 26) B 36 E0 N c26_46) := x_seq (by rfl) s
theorem x26_23 : execA E C (fg 26) B 36 E0 N c26_23 s = seqX (execA E C (fg 26) B 36 E0 N c26_24 s) (execA E C (fg 26) B 36 E0 N c26_29) := x_seq (by rfl) s
theorem x26_22 : execA E C (fg 26) B 36 E0 N c26_22 s = iterA (execA E C (fg 26) B 36 E0 N c26_23) (headA E0) N s := x_loop (by rfl) s
theorem x26_21 : execA E C (fg 26) B 36 E0 N c26_21 s = blockX 0 (fun s => (forget s.1 [0, 3, 13], s.2)) (execA E C (fg 26) B 36 E0 N c26_22 s) := x_block (by rfl) (by rfl) s
theorem x26_19 : execA E C (fg 26) B 36 E0 N c26_19 s = seqX (execA E C (fg 26) B 36 E0 N c26_20 s) (execA E C (fg 26) B 36 E0 N c26_21) := x_seq (by rfl) s
noncomputable def c26_47 : Code := kR c26_18
noncomputable def c26_48 : Code := kL c26_47
noncomputable def r26_12 : Array Oper := kO c26_48
noncomputable def o26_12_0 : Oper := opN r26_12 0
theorem x26_48 : execA E C (fg 26) B 36 E0 N c26_48 s = regX (runA E C B 36 r26_12 r26_12.toList s) (fun s => gcM E0 [] (forget s.1 [], s.2)) := x_reg (ops := r26_12) (by rfl) (by rfl) s
theorem r26_12_l : r26_12.toList = [o26_12_0] := nrfl rfl
theorem s26_12_0 : stepA E C B 36 r26_12 o26_12_0 (φ, H) = some (fput φ 2 (.int .i64 0), H) := nrfl rfl
noncomputable def c26_49 : Code := kR c26_47
theorem x26_49 : execA E C (fg 26) B 36 E0 N c26_49 s = some (.ret, s) := x_ret (by rfl) s
theorem x26_47 : execA E C (fg 26) B 36 E0 N c26_47 s = seqX (execA E C (fg 26) B 36 E0 N c26_48 s) (execA E C (fg 26) B 36 E0 N c26_49) := x_seq (by rfl) s
theorem x26_18 : execA E C (fg 26) B 36 E0 N c26_18 s = seqX (execA E C (fg 26) B 36 E0 N c26_19 s) (execA E C (fg 26) B 36 E0 N c26_47) := x_seq (by rfl) s
theorem x26_10 : execA E C (fg 26) B 36 E0 N c26_10 s = seqX (execA E C (fg 26) B 36 E0 N c26_11 s) (execA E C (fg 26) B 36 E0 N c26_18) := x_seq (by rfl) s
theorem x26_2 : execA E C (fg 26) B 36 E0 N c26_2 s = seqX (execA E C (fg 26) B 36 E0 N c26_3 s) (execA E C (fg 26) B 36 E0 N c26_10) := x_seq (by rfl) s
theorem x26_0 : execA E C (fg 26) B 36 E0 N c26_0 s = seqX (execA E C (fg 26) B 36 E0 N c26_1 s) (execA E C (fg 26) B 36 E0 N c26_2) := x_seq (by rfl) s
theorem fi_26 : fInfo E 26 = some ⟨36, #[.tmp 2], c26_0⟩ := nrfl rfl
theorem b_26 (args : List AV) : bodyA E C fg N 26 args H B = bodyX E [.tmp 2] (execA E C (fg 26) B 36 H N c26_0 (frame0 args 0 [], H)) := bodyA_eq fi_26 args H
abbrev F_26 := And.intro (And.intro (And.intro (And.intro (And.intro (And.intro @x26_1 (And.intro @r26_0_l @s26_0_0)) (And.intro @x26_4 (And.intro @r26_1_l @s26_1_0))) (And.intro (And.intro @s26_1_1 (And.intro @s26_1_2 @x26_7)) (And.intro (And.intro @r26_2_l @s26_2_0) (And.intro @x26_8 @x26_6)))) (And.intro (And.intro (And.intro @x26_9 (And.intro @x26_5 @x26_3)) (And.intro @x26_12 (And.intro @r26_3_l @s26_3_0))) (And.intro (And.intro @s26_3_1 (And.intro @s26_3_2 @x26_15)) (And.intro (And.intro @r26_4_l @s26_4_0) (And.intro @x26_16 @x26_14))))) (And.intro (And.intro (And.intro (And.intro @x26_17 (And.intro @x26_13 @x26_11)) (And.intro @x26_20 (And.intro @r26_5_l @s26_5_0))) (And.intro (And.intro @x26_25 (And.intro @r26_6_l @s26_6_0)) (And.intro (And.intro @s26_6_1 @s26_6_2) (And.intro @s26_6_3 @x26_27)))) (And.intro (And.intro (And.intro @x26_28 (And.intro @x26_26 @x26_24)) (And.intro (And.intro @x26_33 @r26_8_l) (And.intro @s26_8_0 @s26_8_1))) (And.intro (And.intro @s26_8_2 (And.intro @s26_8_3 @s26_8_4)) (And.intro (And.intro @s26_8_5 @x26_36) (And.intro @r26_9_l @s26_9_0)))))) (And.intro (And.intro (And.intro (And.intro (And.intro @x26_37 (And.intro @x26_35 @x26_38)) (And.intro @x26_34 (And.intro @x26_32 @x26_40))) (And.intro (And.intro @r26_10_l (And.intro @r26_10_dr @r26_10_an)) (And.intro (And.intro @s26_10_0 @s26_10_1) (And.intro @s26_10_2 @s26_10_3)))) (And.intro (And.intro (And.intro @s26_10_4 (And.intro @s26_10_5 @s26_10_6)) (And.intro @s26_10_7 (And.intro @s26_10_8 @s26_10_9))) (And.intro (And.intro @s26_10_10 (And.intro @s26_10_11 @s26_10_12)) (And.intro (And.intro @s26_10_13 @x26_43) (And.intro @r26_11_l @s26_11_0))))) (And.intro (And.intro (And.intro (And.intro @x26_44 (And.intro @x26_42 @x26_45)) (And.intro @x26_41 (And.intro @x26_39 @x26_31))) (And.intro (And.intro @x26_30 (And.intro @x26_46 @r26_7_l)) (And.intro (And.intro @s26_7_0 @s26_7_1) (And.intro @s26_7_2 @x26_29)))) (And.intro (And.intro (And.intro @x26_23 (And.intro @x26_22 @x26_21)) (And.intro (And.intro @x26_19 @x26_48) (And.intro @r26_12_l @s26_12_0))) (And.intro (And.intro @x26_49 (And.intro @x26_47 @x26_18)) (And.intro (And.intro @x26_10 @x26_2) (And.intro @x26_0 @b_26))))))
noncomputable def c80_0 : Code := kBody Proofs.Try.f80
noncomputable def c80_1 : Code := kL c80_0
noncomputable def r80_0 : Array Oper := kO c80_1
noncomputable def o80_0_0 : Oper := opN r80_0 0
theorem x80_1 : execA E C (fg 80) B 18 E0 N c80_1 s = regX (runA E C B 18 r80_0 r80_0.toList s) (fun s => gcM E0 [2] (forget s.1 [2], s.2)) := x_reg (ops := r80_0) (by rfl) (by rfl) s
theorem r80_0_l : r80_0.toList = [o80_0_0] := nrfl rfl
theorem s80_0_0 : stepA E C B 18 r80_0 o80_0_0 (φ, H) = some (fput φ 2 (.int .i64 0), H) := nrfl rfl
noncomputable def c80_2 : Code := kR c80_0
noncomputable def c80_3 : Code := kL c80_2
noncomputable def r80_1 : Array Oper := kO c80_3
noncomputable def o80_1_0 : Oper := opN r80_1 0
theorem x80_3 : execA E C (fg 80) B 18 E0 N c80_3 s = regX (runA E C B 18 r80_1 r80_1.toList s) (fun s => gcM E0 [] (forget s.1 [], s.2)) := x_reg (ops := r80_1) (by rfl) (by rfl) s
theorem r80_1_l : r80_1.toList = [o80_1_0] := nrfl rfl
theorem s80_1_0 : stepA E C B 18 r80_1 o80_1_0 (φ, H) = some (fput φ 3 (.int .i64 0), H) := nrfl rfl
noncomputable def c80_4 : Code := kR c80_2
noncomputable def c80_5 : Code := kL c80_4
noncomputable def c80_6 : Code := kL c80_5
noncomputable def r80_2 : Array Oper := kO c80_6
noncomputable def o80_2_0 : Oper := opN r80_2 0
theorem x80_6 : execA E C (fg 80) B 18 E0 N c80_6 s = regX (runA E C B 18 r80_2 r80_2.toList s) (fun s => gcM E0 [] (forget s.1 [], s.2)) := x_reg (ops := r80_2) (by rfl) (by rfl) s
theorem r80_2_l : r80_2.toList = [o80_2_0] := nrfl rfl
theorem s80_2_0 : stepA E C B 18 r80_2 o80_2_0 (φ, H) = some (fput φ 4 (.int .i64 0), H) := nrfl rfl
noncomputable def c80_7 : Code := kR c80_5
noncomputable def c80_8 : Code := kB c80_7
noncomputable def c80_9 : Code := kB c80_8
noncomputable def c80_10 : Code := kL c80_9
noncomputable def c80_11 : Code := kL c80_10
noncomputable def r80_3 : Array Oper := kO c80_11
noncomputable def o80_3_0 : Oper := opN r80_3 0
noncomputable def o80_3_1 : Oper := opN r80_3 1
noncomputable def o80_3_2 : Oper := opN r80_3 2
noncomputable def o80_3_3 : Oper := opN r80_3 3
theorem x80_11 : execA E C (fg 80) B 18 E0 N c80_11 s = regX (runA E C B 18 r80_3 r80_3.toList s) (fun s => gcM E0 [5, 6, 7] (forget s.1 [5, 6, 7], s.2)) := x_reg (ops := r80_3) (by rfl) (by rfl) s
theorem r80_3_l : r80_3.toList = [o80_3_0, o80_3_1, o80_3_2, o80_3_3] := nrfl rfl
theorem s80_3_0 : stepA E C B 18 r80_3 o80_3_0 (φ, H) = some (fput φ 5 (fget φ 4), H) := nrfl rfl
theorem s80_3_1 : stepA E C B 18 r80_3 o80_3_1 (φ, H) = some (fput φ 6 (fget φ 0), H) := nrfl rfl
theorem s80_3_2 : stepA E C B 18 r80_3 o80_3_2 (φ, H) = stp (some 7) φ H (aBuiltin E.T (B + 7) .len #[22] [(fget φ 6)]) := nrfl rfl
theorem s80_3_3 : stepA E C B 18 r80_3 o80_3_3 (φ, H) = stp (some 8) φ H (just (aBin E.T .lss 3 (fget φ 5) (fget φ 7))) := nrfl rfl
noncomputable def c80_12 : Code := kR c80_10
noncomputable def c80_13 : Code := kT c80_12
theorem x80_13 : execA E C (fg 80) B 18 E0 N c80_13 s = some (.normal, s) := x_skip (by rfl) s
noncomputable def c80_14 : Code := kE c80_12
theorem x80_14 : execA E C (fg 80) B 18 E0 N c80_14 s = some (.exit 0, s) := x_exit (by rfl) s
theorem x80_12 : execA E C (fg 80) B 18 E0 N c80_12 (φ, H) = condX (fget φ 8) (execA E C (fg 80) B 18 E0 N c80_13 (φ, H)) (execA E C (fg 80) B 18 E0 N c80_14 (φ, H)) := x_cond (by rfl) _
theorem x80_10 : execA E C (fg 80) B 18 E0 N c80_10 s = seqX (execA E C (fg 80) B 18 E0 N c80_11 s) (execA E C (fg 80) B 18 E0 N c80_12) := x_seq (by rfl) s
noncomputable def c80_15 : Code := kR c80_9
noncomputable def c80_16 : Code := kL c80_15
noncomputable def c80_17 : Code := kB c80_16
noncomputable def r80_5 : Array Oper := kO c80_17
noncomputable def o80_5_0 : Oper := opN r80_5 0
noncomputable def o80_5_1 : Oper := opN r80_5 1
noncomputable def o80_5_2 : Oper := opN r80_5 2
noncomputable def o80_5_3 : Oper := opN r80_5 3
noncomputable def o80_5_4 : Oper := opN r80_5 4
noncomputable def o80_5_5 : Oper := opN r80_5 5
noncomputable def o80_5_6 : Oper := opN r80_5 6
theorem x80_17 : execA E C (fg 80) B 18 E0 N c80_17 s = regX (runA E C B 18 r80_5 r80_5.toList s) (fun s => gcM E0 [8, 11, 12, 13, 14, 15, 16] (forget s.1 [8, 11, 12, 13, 14, 15, 16], s.2)) := x_reg (ops := r80_5) (by rfl) (by rfl) s
theorem r80_5_l : r80_5.toList = [o80_5_0, o80_5_1, o80_5_2, o80_5_3, o80_5_4, o80_5_5, o80_5_6] := nrfl rfl
theorem s80_5_0 : stepA E C B 18 r80_5 o80_5_0 (φ, H) = some (fput φ 11 (fget φ 3), H) := nrfl rfl
theorem s80_5_1 : stepA E C B 18 r80_5 o80_5_1 (φ, H) = some (fput φ 12 (fget φ 0), H) := nrfl rfl
theorem s80_5_2 : stepA E C B 18 r80_5 o80_5_2 (φ, H) = some (fput φ 13 (fget φ 4), H) := nrfl rfl
theorem s80_5_3 : stepA E C B 18 r80_5 o80_5_3 (φ, H) = stp (some 14) φ H (just (aIndexAddr E.T 22 (fget φ 12) (fget φ 13))) := nrfl rfl
theorem s80_5_4 : stepA E C B 18 r80_5 o80_5_4 (φ, H) = stp (some 15) φ H (just (aLoad E.T 3 (fget φ 14))) := nrfl rfl
theorem s80_5_5 : stepA E C B 18 r80_5 o80_5_5 (φ, H) = stp (some 16) φ H (just (aBin E.T .add 3 (fget φ 11) (fget φ 15))) := nrfl rfl
theorem s80_5_6 : stepA E C B 18 r80_5 o80_5_6 (φ, H) = some (fput φ 3 (fget φ 16), H) := nrfl rfl
theorem x80_16 : execA E C (fg 80) B 18 E0 N c80_16 s = blockX 1 (fun s => (forget s.1 [], s.2)) (execA E C (fg 80) B 18 E0 N c80_17 s) := x_block (by rfl) (by rfl) s
noncomputable def c80_18 : Code := kR c80_15
noncomputable def r80_4 : Array Oper := kO c80_18
noncomputable def o80_4_0 : Oper := opN r80_4 0
noncomputable def o80_4_1 : Oper := opN r80_4 1
noncomputable def o80_4_2 : Oper := opN r80_4 2
theorem x80_18 : execA E C (fg 80) B 18 E0 N c80_18 s = regX (runA E C B 18 r80_4 r80_4.toList s) (fun s => gcM E0 [9, 10] (forget s.1 [9, 10], s.2)) := x_reg (ops := r80_4) (by rfl) (by rfl) s
theorem r80_4_l : r80_4.toList = [o80_4_0, o80_4_1, o80_4_2] := nrfl rfl
theorem s80_4_0 : stepA E C B 18 r80_4 o80_4_0 (φ, H) = some (fput φ 9 (fget φ 4), H) := nrfl rfl
theorem s80_4_1 : stepA E C B 18 r80_4 o80_4_1 (φ, H) = stp (some 10) φ H (just (aBin E.T .add 3 (fget φ 9) (.int .i64 1))) := nrfl rfl
theorem s80_4_2 : stepA E C B 18 r80_4 o80_4_2 (φ, H) = some (fput φ 4 (fget φ 10), H) := nrfl rfl
theorem x80_15 : execA E C (fg 80) B 18 E0 N c80_15 s = seqX (execA E C (fg 80) B 18 E0 N c80_16 s) (execA E C (fg 80) B 18 E0 N c80_18) := x_seq (by rfl) s
theorem x80_9 : execA E C (fg 80) B 18 E0 N c80_9 s = seqX (execA E C (fg 80) B 18 E0 N c80_10 s) (execA E C (fg 80) B 18 E0 N c80_15) := x_seq (by rfl) s
theorem x80_8 : execA E C (fg 80) B 18 E0 N c80_8 s = iterA (execA E C (fg 80) B 18 E0 N c80_9) (headA E0) N s := x_loop (by rfl) s
theorem x80_7 : execA E C (fg 80) B 18 E0 N c80_7 s = blockX 0 (fun s => (forget s.1 [0, 4, 8], s.2)) (execA E C (fg 80) B 18 E0 N c80_8 s) := x_block (by rfl) (by rfl) s
theorem x80_5 : execA E C (fg 80) B 18 E0 N c80_5 s = seqX (execA E C (fg 80) B 18 E0 N c80_6 s) (execA E C (fg 80) B 18 E0 N c80_7) := x_seq (by rfl) s
noncomputable def c80_19 : Code := kR c80_4
noncomputable def c80_20 : Code := kL c80_19
noncomputable def r80_6 : Array Oper := kO c80_20
noncomputable def o80_6_0 : Oper := opN r80_6 0
noncomputable def o80_6_1 : Oper := opN r80_6 1
theorem x80_20 : execA E C (fg 80) B 18 E0 N c80_20 s = regX (runA E C B 18 r80_6 r80_6.toList s) (fun s => gcM E0 [3, 17] (forget s.1 [3, 17], s.2)) := x_reg (ops := r80_6) (by rfl) (by rfl) s
theorem r80_6_l : r80_6.toList = [o80_6_0, o80_6_1] := nrfl rfl
theorem s80_6_0 : stepA E C B 18 r80_6 o80_6_0 (φ, H) = some (fput φ 17 (fget φ 3), H) := nrfl rfl
theorem s80_6_1 : stepA E C B 18 r80_6 o80_6_1 (φ, H) = some (fput φ 2 (fget φ 17), H) := nrfl rfl
noncomputable def c80_21 : Code := kR c80_19
theorem x80_21 : execA E C (fg 80) B 18 E0 N c80_21 s = some (.ret, s) := x_ret (by rfl) s
theorem x80_19 : execA E C (fg 80) B 18 E0 N c80_19 s = seqX (execA E C (fg 80) B 18 E0 N c80_20 s) (execA E C (fg 80) B 18 E0 N c80_21) := x_seq (by rfl) s
theorem x80_4 : execA E C (fg 80) B 18 E0 N c80_4 s = seqX (execA E C (fg 80) B 18 E0 N c80_5 s) (execA E C (fg 80) B 18 E0 N c80_19) := x_seq (by rfl) s
theorem x80_2 : execA E C (fg 80) B 18 E0 N c80_2 s = seqX (execA E C (fg 80) B 18 E0 N c80_3 s) (execA E C (fg 80) B 18 E0 N c80_4) := x_seq (by rfl) s
theorem x80_0 : execA E C (fg 80) B 18 E0 N c80_0 s = seqX (execA E C (fg 80) B 18 E0 N c80_1 s) (execA E C (fg 80) B 18 E0 N c80_2) := x_seq (by rfl) s
theorem fi_80 : fInfo E 80 = some ⟨18, #[.tmp 2], c80_0⟩ := nrfl rfl
theorem b_80 (args : List AV) : bodyA E C fg N 80 args H B = bodyX E [.tmp 2] (execA E C (fg 80) B 18 H N c80_0 (frame0 args 0 [], H)) := bodyA_eq fi_80 args H
abbrev F_80 := And.intro (And.intro (And.intro (And.intro (And.intro @x80_1 (And.intro @r80_0_l @s80_0_0)) (And.intro @x80_3 (And.intro @r80_1_l @s80_1_0))) (And.intro (And.intro @x80_6 (And.intro @r80_2_l @s80_2_0)) (And.intro @x80_11 (And.intro @r80_3_l @s80_3_0)))) (And.intro (And.intro (And.intro @s80_3_1 (And.intro @s80_3_2 @s80_3_3)) (And.intro @x80_13 (And.intro @x80_14 @x80_12))) (And.intro (And.intro @x80_10 (And.intro @x80_17 @r80_5_l)) (And.intro @s80_5_0 (And.intro @s80_5_1 @s80_5_2))))) (And.intro (And.intro (And.intro (And.intro @s80_5_3 (And.intro @s80_5_4 @s80_5_5)) (And.intro @s80_5_6 (And.intro @x80_16 @x80_18))) (And.intro (And.intro @r80_4_l (And.intro @s80_4_0 @s80_4_1)) (And.intro @s80_4_2 (And.intro @x80_15 @x80_9)))) (And.intro (And.intro (And.intro @x80_8 (And.intro @x80_7 @x80_5)) (And.intro @x80_20 (And.intro @r80_6_l @s80_6_0))) (And.intro (And.intro @s80_6_1 (And.intro @x80_21 @x80_19)) (And.intro (And.intro @x80_4 @x80_2) (And.intro @x80_0 @b_80)))))
noncomputable def c19_0 : Code := kBody Proofs.Try.f19
noncomputable def c19_1 : Code := kL c19_0
noncomputable def r19_0 : Array Oper := kO c19_1
noncomputable def o19_0_0 : Oper := opN r19_0 0
noncomputable def o19_0_1 : Oper := opN r19_0 1
theorem x19_1 : execA E C (fg 19) B 26 E0 N c19_1 s = regX (runA E C B 26 r19_0 r19_0.toList s) (fun s => gcM E0 [2, 3] (forget s.1 [2, 3], s.2)) := x_reg (ops := r19_0) (by rfl) (by rfl) s
theorem r19_0_l : r19_0.toList = [o19_0_0, o19_0_1] := nrfl rfl
theorem s19_0_0 : stepA E C B 26 r19_0 o19_0_0 (φ, H) = some (fput φ 2 (.nilsl), H) := nrfl rfl
theorem s19_0_1 : stepA E C B 26 r19_0 o19_0_1 (φ, H) = some (fput φ 3 (.int .i64 0), H) := nrfl rfl
noncomputable def c19_2 : Code := kR c19_0
noncomputable def c19_3 : Code := kL c19_2
noncomputable def r19_1 : Array Oper := kO c19_3
noncomputable def o19_1_0 : Oper := opN r19_1 0
noncomputable def o19_1_1 : Oper := opN r19_1 1
noncomputable def o19_1_2 : Oper := opN r19_1 2
theorem x19_3 : execA E C (fg 19) B 26 E0 N c19_3 s = regX (runA E C B 26 r19_1 r19_1.toList s) (fun s => gcM E0 [7, 8] (forget s.1 [7, 8], s.2)) := x_reg (ops := r19_1) (by rfl) (by rfl) s
theorem r19_1_l : r19_1.toList = [o19_1_0, o19_1_1, o19_1_2] := nrfl rfl
theorem s19_1_0 : stepA E C B 26 r19_1 o19_1_0 (φ, H) = some (fput φ 7 (fget φ 0), H) := nrfl rfl
theorem s19_1_1 : stepA E C B 26 r19_1 o19_1_1 (φ, H) = stp (some 8) φ H (aCall C (fun j => B + j * 26 + 8) true 26 [(fget φ 7)]) := nrfl rfl
theorem s19_1_2 : stepA E C B 26 r19_1 o19_1_2 (φ, H) = some (fput φ 4 (fget φ 8), H) := nrfl rfl
noncomputable def c19_4 : Code := kR c19_2
noncomputable def c19_5 : Code := kL c19_4
noncomputable def c19_6 : Code := kL c19_5
noncomputable def r19_2 : Array Oper := kO c19_6
noncomputable def o19_2_0 : Oper := opN r19_2 0
noncomputable def o19_2_1 : Oper := opN r19_2 1
theorem x19_6 : execA E C (fg 19) B 26 E0 N c19_6 s = regX (runA E C B 26 r19_2 r19_2.toList s) (fun s => gcM E0 [9] (forget s.1 [9], s.2)) := x_reg (ops := r19_2) (by rfl) (by rfl) s
theorem r19_2_l : r19_2.toList = [o19_2_0, o19_2_1] := nrfl rfl
theorem s19_2_0 : stepA E C B 26 r19_2 o19_2_0 (φ, H) = some (fput φ 9 (fget φ 4), H) := nrfl rfl
theorem s19_2_1 : stepA E C B 26 r19_2 o19_2_1 (φ, H) = stp (some 10) φ H (just (aBin E.T .neq 24 (fget φ 9) (.int .i64 0))) := nrfl rfl
noncomputable def c19_7 : Code := kR c19_5
noncomputable def c19_8 : Code := kT c19_7
noncomputable def c19_9 : Code := kL c19_8
noncomputable def r19_3 : Array Oper := kO c19_9
noncomputable def o19_3_0 : Oper := opN r19_3 0
noncomputable def o19_3_1 : Oper := opN r19_3 1
noncomputable def o19_3_2 : Oper := opN r19_3 2
theorem x19_9 : execA E C (fg 19) B 26 E0 N c19_9 s = regX (runA E C B 26 r19_3 r19_3.toList s) (fun s => gcM E0 [0, 4, 10, 11] (forget s.1 [0, 4, 10, 11], s.2)) := x_reg (ops := r19_3) (by rfl) (by rfl) s
theorem r19_3_l : r19_3.toList = [o19_3_0, o19_3_1, o19_3_2] := nrfl rfl
theorem s19_3_0 : stepA E C B 26 r19_3 o19_3_0 (φ, H) = some (fput φ 11 (fget φ 4), H) := nrfl rfl
theorem s19_3_1 : stepA E C B 26 r19_3 o19_3_1 (φ, H) = some (fput φ 2 (.nilsl), H) := nrfl rfl
theorem s19_3_2 : stepA E C B 26 r19_3 o19_3_2 (φ, H) = some (fput φ 3 (fget φ 11), H) := nrfl rfl
noncomputable def c19_10 : Code := kR c19_8
theorem x19_10 : execA E C (fg 19) B 26 E0 N c19_10 s = some (.ret, s) := x_ret (by rfl) s
theorem x19_8 : execA E C (fg 19) B 26 E0 N c19_8 s = seqX (execA E C (fg 19) B 26 E0 N c19_9 s) (execA E C (fg 19) B 26 E0 N c19_10) := x_seq (by rfl) s
noncomputable def c19_11 : Code := kE c19_7
theorem x19_11 : execA E C (fg 19) B 26 E0 N c19_11 s = some (.normal, s) := x_skip (by rfl) s
theorem x19_7 : execA E C (fg 19) B 26 E0 N c19_7 (φ, H) = condX (fget φ 10) (execA E C (fg 19) B 26 E0 N c19_8 (φ, H)) (execA E C (fg 19) B 26 E0 N c19_11 (φ, H)) := x_cond (by rfl) _
theorem x19_5 : execA E C (fg 19) B 26 E0 N c19_5 s = seqX (execA E C (fg 19) B 26 E0 N c19_6 s) (execA E C (fg 19) B 26 E0 N c19_7) := x_seq (by rfl) s
noncomputable def c19_12 : Code := kR c19_4
noncomputable def c19_13 : Code := kL c19_12
noncomputable def r19_4 : Array Oper := kO c19_13
noncomputable def o19_4_0 : Oper := opN r19_4 0
theorem x19_13 : execA E C (fg 19) B 26 E0 N c19_13 s = regX (runA E C B 26 r19_4 r19_4.toList s) (fun s => gcM E0 [4, 10] (forget s.1 [4, 10], s.2)) := x_reg (ops := r19_4) (by rfl) (by rfl) s
theorem r19_4_l : r19_4.toList = [o19_4_0] := nrfl rfl
theorem s19_4_0 : stepA E C B 26 r19_4 o19_4_0 (φ, H) = some (fput φ 5 (.nilsl), H) := nrfl rfl
noncomputable def c19_14 : Code := kR c19_12
noncomputable def c19_15 : Code := kL c19_14
noncomputable def c19_16 : Code := kL c19_15
noncomputable def r19_5 : Array Oper := kO c19_16
noncomputable def o19_5_0 : Oper := opN r19_5 0
theorem x19_16 : execA E C (fg 19) B 26 E0 N c19_16 s = regX (runA E C B 26 r19_5 r19_5.toList s) (fun s => gcM E0 [] (forget s.1 [], s.2)) := x_reg (ops := r19_5) (by rfl) (by rfl) s
theorem r19_5_l : r19_5.toList = [o19_5_0] := nrfl rfl
theorem s19_5_0 : stepA E C B 26 r19_5 o19_5_0 (φ, H) = some (fput φ 6 (.int .i64 0), H) := nrfl rfl
noncomputable def c19_17 : Code := kR c19_15
noncomputable def c19_18 : Code := kB c19_17
noncomputable def c19_19 : Code := kB c19_18
noncomputable def c19_20 : Code := kL c19_19
noncomputable def c19_21 : Code := kL c19_20
noncomputable def r19_6 : Array Oper := kO c19_21
noncomputable def o19_6_0 : Oper := opN r19_6 0
noncomputable def o19_6_1 : Oper := opN r19_6 1
noncomputable def o19_6_2 : Oper := opN r19_6 2
noncomputable def o19_6_3 : Oper := opN r19_6 3
theorem x19_21 : execA E C (fg 19) B 26 E0 N c19_21 s = regX (runA E C B 26 r19_6 r19_6.toList s) (fun s => gcM E0 [12, 13, 14] (forget s.1 [12, 13, 14], s.2)) := x_reg (ops := r19_6) (by rfl) (by rfl) s
theorem r19_6_l : r19_6.toList = [o19_6_0, o19_6_1, o19_6_2, o19_6_3] := nrfl rfl
theorem s19_6_0 : stepA E C B 26 r19_6 o19_6_0 (φ, H) = some (fput φ 12 (fget φ 6), H) := nrfl rfl
theorem s19_6_1 : stepA E C B 26 r19_6 o19_6_1 (φ, H) = some (fput φ 13 (fget φ 0), H) := nrfl rfl
theorem s19_6_2 : stepA E C B 26 r19_6 o19_6_2 (φ, H) = stp (some 14) φ H (aBuiltin E.T (B + 14) .len #[22] [(fget φ 13)]) := nrfl rfl
theorem s19_6_3 : stepA E C B 26 r19_6 o19_6_3 (φ, H) = stp (some 15) φ H (just (aBin E.T .leq 3 (fget φ 12) (fget φ 14))) := nrfl rfl
noncomputable def c19_22 : Code := kR c19_20
noncomputable def c19_23 : Code := kT c19_22
theorem x19_23 : execA E C (fg 19) B 26 E0 N c19_23 s = some (.normal, s) := x_skip (by rfl) s
noncomputable def c19_24 : Code := kE c19_22
theorem x19_24 : execA E C (fg 19) B 26 E0 N c19_24 s = some (.exit 0, s) := x_exit (by rfl) s
theorem x19_22 : execA E C (fg 19) B 26 E0 N c19_22 (φ, H) = condX (fget φ 15) (execA E C (fg 19) B 26 E0 N c19_23 (φ, H)) (execA E C (fg 19) B 26 E0 N c19_24 (φ, H)) := x_cond (by rfl) _
theorem x19_20 : execA E C (fg 19) B 26 E0 N c19_20 s = seqX (execA E C (fg 19) B 26 E0 N c19_21 s) (execA E C (fg 19) B 26 E0 N c19_22) := x_seq (by rfl) s
noncomputable def c19_25 : Code := kR c19_19
noncomputable def c19_26 : Code := kL c19_25
noncomputable def c19_27 : Code := kB c19_26
noncomputable def r19_8 : Array Oper := kO c19_27
noncomputable def o19_8_0 : Oper := opN r19_8 0
noncomputable def o19_8_1 : Oper := opN r19_8 1
noncomputable def o19_8_2 : Oper := opN r19_8 2
noncomputable def o19_8_3 : Oper := opN r19_8 3
noncomputable def o19_8_4 : Oper := opN r19_8 4
noncomputable def o19_8_5 : Oper := opN r19_8 5
noncomputable def o19_8_6 : Oper := opN r19_8 6
noncomputable def o19_8_7 : Oper := opN r19_8 7
theorem x19_27 : execA E C (fg 19) B 26 E0 N c19_27 s = regX (runA E C B 26 r19_8 r19_8.toList s) (fun s => gcM E0 [15, 18, 19, 20, 21, 22, 23, 24] (forget s.1 [15, 18, 19, 20, 21, 22, 23, 24], s.2)) := x_reg (ops := r19_8) (by rfl) (by rfl) s
theorem r19_8_l : r19_8.toList = [o19_8_0, o19_8_1, o19_8_2, o19_8_3, o19_8_4, o19_8_5, o19_8_6, o19_8_7] := nrfl rfl
theorem s19_8_0 : stepA E C B 26 r19_8 o19_8_0 (φ, H) = some (fput φ 18 (fget φ 5), H) := nrfl rfl
theorem s19_8_1 : stepA E C B 26 r19_8 o19_8_1 (φ, H) = some (fput φ 19 (fget φ 0), H) := nrfl rfl
theorem s19_8_2 : stepA E C B 26 r19_8 o19_8_2 (φ, H) = some (fput φ 20 (fget φ 6), H) := nrfl rfl
theorem s19_8_3 : stepA E C B 26 r19_8 o19_8_3 (φ, H) = stp (some 21) φ H (just (aSlice E.T 22 (fget φ 19) none (some (fget φ 20)) none)) := nrfl rfl
theorem s19_8_4 : stepA E C B 26 r19_8 o19_8_4 (φ, H) = stp (some 22) φ H (aCall C (fun j => B + j * 26 + 22) true 80 [(fget φ 21)]) := nrfl rfl
theorem s19_8_5 : stepA E C B 26 r19_8 o19_8_5 (φ, H) = stp (some 23) φ H (aBuildSlice E.T (B + 23) 22 1 (evO E φ) [(0, Operand.tmp 22)]) := nrfl rfl
theorem s19_8_6 : stepA E C B 26 r19_8 o19_8_6 (φ, H) = stp (some 24) φ H (aBuiltin E.T (B + 24) .append #[22, 22] [(fget φ 18), (fget φ 23)]) := nrfl rfl
theorem s19_8_7 : stepA E C B 26 r19_8 o19_8_7 (φ, H) = some (fput φ 5 (fget φ 24), H) := nrfl rfl
theorem x19_26 : execA E C (fg 19) B 26 E0 N c19_26 s = blockX 1 (fun s => (forget s.1 [], s.2)) (execA E C (fg 19) B 26 E0 N c19_27 s) := x_block (by rfl) (by rfl) s
noncomputable def c19_28 : Code := kR c19_25
noncomputable def r19_7 : Array Oper := kO c19_28
noncomputable def o19_7_0 : Oper := opN r19_7 0
noncomputable def o19_7_1 : Oper := opN r19_7 1
noncomputable def o19_7_2 : Oper := opN r19_7 2
theorem x19_28 : execA E C (fg 19) B 26 E0 N c19_28 s = regX (runA E C B 26 r19_7 r19_7.toList s) (fun s => gcM E0 [16, 17] (forget s.1 [16, 17], s.2)) := x_reg (ops := r19_7) (by rfl) (by rfl) s
theorem r19_7_l : r19_7.toList = [o19_7_0, o19_7_1, o19_7_2] := nrfl rfl
theorem s19_7_0 : stepA E C B 26 r19_7 o19_7_0 (φ, H) = some (fput φ 16 (fget φ 6), H) := nrfl rfl
theorem s19_7_1 : stepA E C B 26 r19_7 o19_7_1 (φ, H) = stp (some 17) φ H (just (aBin E.T .add 3 (fget φ 16) (.int .i64 1))) := nrfl rfl
theorem s19_7_2 : stepA E C B 26 r19_7 o19_7_2 (φ, H) = some (fput φ 6 (fget φ 17), H) := nrfl rfl
theorem x19_25 : execA E C (fg 19) B 26 E0 N c19_25 s = seqX (execA E C (fg 19) B 26 E0 N c19_26 s) (execA E C (fg 19) B 26 E0 N c19_28) := x_seq (by rfl) s
theorem x19_19 : execA E C (fg 19) B 26 E0 N c19_19 s = seqX (execA E C (fg 19) B 26 E0 N c19_20 s) (execA E C (fg 19) B 26 E0 N c19_25) := x_seq (by rfl) s
theorem x19_18 : execA E C (fg 19) B 26 E0 N c19_18 s = iterA (execA E C (fg 19) B 26 E0 N c19_19) (headA E0) N s := x_loop (by rfl) s
theorem x19_17 : execA E C (fg 19) B 26 E0 N c19_17 s = blockX 0 (fun s => (forget s.1 [0, 6, 15], s.2)) (execA E C (fg 19) B 26 E0 N c19_18 s) := x_block (by rfl) (by rfl) s
theorem x19_15 : execA E C (fg 19) B 26 E0 N c19_15 s = seqX (execA E C (fg 19) B 26 E0 N c19_16 s) (execA E C (fg 19) B 26 E0 N c19_17) := x_seq (by rfl) s
noncomputable def c19_29 : Code := kR c19_14
noncomputable def c19_30 : Code := kL c19_29
noncomputable def r19_9 : Array Oper := kO c19_30
noncomputable def o19_9_0 : Oper := opN r19_9 0
noncomputable def o19_9_1 : Oper := opN r19_9 1
noncomputable def o19_9_2 : Oper := opN r19_9 2
theorem x19_30 : execA E C (fg 19) B 26 E0 N c19_30 s = regX (runA E C B 26 r19_9 r19_9.toList s) (fun s => gcM E0 [5, 25] (forget s.1 [5, 25], s.2)) := x_reg (ops := r19_9) (by rfl) (by rfl) s
theorem r19_9_l : r19_9.toList = [o19_9_0, o19_9_1, o19_9_2] := nrfl rfl
theorem s19_9_0 : stepA E C B 26 r19_9 o19_9_0 (φ, H) = some (fput φ 25 (fget φ 5), H) := nrfl rfl
theorem s19_9_1 : stepA E C B 26 r19_9 o19_9_1 (φ, H) = some (fput φ 2 (fget φ 25), H) := nrfl rfl
theorem s19_9_2 : stepA E C B 26 r19_9 o19_9_2 (φ, H) = some (fput φ 3 (.int .i64 0), H) := nrfl rfl
noncomputable def c19_31 : Code := kR c19_29
theorem x19_31 : execA E C (fg 19) B 26 E0 N c19_31 s = some (.ret, s) := x_ret (by rfl) s
theorem x19_29 : execA E C (fg 19) B 26 E0 N c19_29 s = seqX (execA E C (fg 19) B 26 E0 N c19_30 s) (execA E C (fg 19) B 26 E0 N c19_31) := x_seq (by rfl) s
theorem x19_14 : execA E C (fg 19) B 26 E0 N c19_14 s = seqX (execA E C (fg 19) B 26 E0 N c19_15 s) (execA E C (fg 19) B 26 E0 N c19_29) := x_seq (by rfl) s
theorem x19_12 : execA E C (fg 19) B 26 E0 N c19_12 s = seqX (execA E C (fg 19) B 26 E0 N c19_13 s) (execA E C (fg 19) B 26 E0 N c19_14) := x_seq (by rfl) s
theorem x19_4 : execA E C (fg 19) B 26 E0 N c19_4 s = seqX (execA E C (fg 19) B 26 E0 N c19_5 s) (execA E C (fg 19) B 26 E0 N c19_12) := x_seq (by rfl) s
theorem x19_2 : execA E C (fg 19) B 26 E0 N c19_2 s = seqX (execA E C (fg 19) B 26 E0 N c19_3 s) (execA E C (fg 19) B 26 E0 N c19_4) := x_seq (by rfl) s
theorem x19_0 : execA E C (fg 19) B 26 E0 N c19_0 s = seqX (execA E C (fg 19) B 26 E0 N c19_1 s) (execA E C (fg 19) B 26 E0 N c19_2) := x_seq (by rfl) s
theorem fi_19 : fInfo E 19 = some ⟨26, #[.tmp 2, .tmp 3], c19_0⟩ := nrfl rfl
theorem b_19 (args : List AV) : bodyA E C fg N 19 args H B = bodyX E [.tmp 2, .tmp 3] (execA E C (fg 19) B 26 H N c19_0 (frame0 args 0 [], H)) := bodyA_eq fi_19 args H
abbrev F_19 := And.intro (And.intro (And.intro (And.intro (And.intro (And.intro @x19_1 @r19_0_l) (And.intro @s19_0_0 @s19_0_1)) (And.intro (And.intro @x19_3 @r19_1_l) (And.intro @s19_1_0 (And.intro @s19_1_1 @s19_1_2)))) (And.intro (And.intro (And.intro @x19_6 @r19_2_l) (And.intro @s19_2_0 @s19_2_1)) (And.intro (And.intro @x19_9 @r19_3_l) (And.intro @s19_3_0 (And.intro @s19_3_1 @s19_3_2))))) (And.intro (And.intro (And.intro (And.intro @x19_10 @x19_8) (And.intro @x19_11 @x19_7)) (And.intro (And.intro @x19_5 @x19_13) (And.intro @r19_4_l (And.intro @s19_4_0 @x19_16)))) (And.intro (And.intro (And.intro @r19_5_l @s19_5_0) (And.intro @x19_21 @r19_6_l)) (And.intro (And.intro @s19_6_0 @s19_6_1) (And.intro @s19_6_2 (And.intro @s19_6_3 @x19_23)))))) (And.intro (And.intro (And.intro (And.intro (And.intro @x19_24 @x19_22) (And.intro @x19_20 @x19_27)) (And.intro (And.intro @r19_8_l @s19_8_0) (And.intro @s19_8_1 (And.intro @s19_8_2 @s19_8_3)))) (And.intro (And.intro (And.intro @s19_8_4 @s19_8_5) (And.intro @s19_8_6 @s19_8_7)) (And.intro (And.intro @x19_26 @x19_28) (And.intro @r19_7_l (And.intro @s19_7_0 @s19_7_1))))) (And.intro (And.intro (And.intro (And.intro @s19_7_2 @x19_25) (And.intro @x19_19 @x19_18)) (And.intro (And.intro @x19_17 @x19_15) (And.intro @x19_30 (And.intro @r19_9_l @s19_9_0)))) (And.intro (And.intro (And.intro @s19_9_1 @s19_9_2) (And.intro @x19_31 (And.intro @x19_29 @x19_14))) (And.intro (And.intro @x19_12 @x19_4) (And.intro @x19_2 (And.intro @x19_0 @b_19))))))
noncomputable def c21_0 : Code := kBody Proofs.Try.f21
noncomputable def c21_1 : Code := kL c21_0
noncomputable def r21_0 : Array Oper := kO c21_1
noncomputable def o21_0_0 : Oper := opN r21_0 0
noncomputable def o21_0_1 : Oper := opN r21_0 1
theorem x21_1 : execA E C (fg 21) B 68 E0 N c21_1 s = regX (runA E C B 68 r21_0 r21_0.toList s) (fun s => gcM E0 [2, 3] (forget s.1 [2, 3], s.2)) := x_reg (ops := r21_0) (by rfl) (by rfl) s
theorem r21_0_l : r21_0.toList = [o21_0_0, o21_0_1] := nrfl rfl
theorem s21_0_0 : stepA E C B 68 r21_0 o21_0_0 (φ, H) = some (fput φ 2 (.nilsl), H) := nrfl rfl
theorem s21_0_1 : stepA E C B 68 r21_0 o21_0_1 (φ, H) = some (fput φ 3 (.int .i64 0), H) := nrfl rfl
noncomputable def c21_2 : Code := kR c21_0
noncomputable def c21_3 : Code := kL c21_2
noncomputable def c21_4 : Code := kL c21_3
noncomputable def r21_1 : Array Oper := kO c21_4
noncomputable def o21_1_0 : Oper := opN r21_1 0
noncomputable def o21_1_1 : Oper := opN r21_1 1
noncomputable def o21_1_2 : Oper := opN r21_1 2
theorem x21_4 : execA E C (fg 21) B 68 E0 N c21_4 s = regX (runA E C B 68 r21_1 r21_1.toList s) (fun s => gcM E0 [6, 7] (forget s.1 [6, 7], s.2)) := x_reg (ops := r21_1) (by rfl) (by rfl) s
theorem r21_1_l : r21_1.toList = [o21_1_0, o21_1_1, o21_1_2] := nrfl rfl
theorem s21_1_0 : stepA E C B 68 r21_1 o21_1_0 (φ, H) = some (fput φ 6 (fget φ 0), H) := nrfl rfl
theorem s21_1_1 : stepA E C B 68 r21_1 o21_1_1 (φ, H) = stp (some 7) φ H (aBuiltin E.T (B + 7) .len #[22] [(fget φ 6)]) := nrfl rfl
theorem s21_1_2 : stepA E C B 68 r21_1 o21_1_2 (φ, H) = stp (some 8) φ H (just (aBin E.T .lss 3 (fget φ 7) (.int .i64 2))) := nrfl rfl
noncomputable def c21_5 : Code := kR c21_3
noncomputable def c21_6 : Code := kT c21_5
noncomputable def c21_7 : Code := kL c21_6
noncomputable def r21_2 : Array Oper := kO c21_7
noncomputable def o21_2_0 : Oper := opN r21_2 0
noncomputable def o21_2_1 : Oper := opN r21_2 1
theorem x21_7 : execA E C (fg 21) B 68 E0 N c21_7 s = regX (runA E C B 68 r21_2 r21_2.toList s) (fun s => gcM E0 [0, 8] (forget s.1 [0, 8], s.2)) := x_reg (ops := r21_2) (by rfl) (by rfl) s
theorem r21_2_l : r21_2.toList = [o21_2_0, o21_2_1] := nrfl rfl
theorem s21_2_0 : stepA E C B 68 r21_2 o21_2_0 (φ, H) = some (fput φ 2 (.nilsl), H) := nrfl rfl
theorem s21_2_1 : stepA E C B 68 r21_2 o21_2_1 (φ, H) = some (fput φ 3 (.int .i64 4), H) := nrfl rfl
noncomputable def c21_8 : Code := kR c21_6
theorem x21_8 : execA E C (fg 21) B 68 E0 N c21_8 s = some (.ret, s) := x_ret (by rfl) s
theorem x21_6 : execA E C (fg 21) B 68 E0 N c21_6 s = seqX (execA E C (fg 21) B 68 E0 N c21_7 s) (execA E C (fg 21) B 68 E0 N c21_8) := x_seq (by rfl) s
noncomputable def c21_9 : Code := kE c21_5
theorem x21_9 : execA E C (fg 21) B 68 E0 N c21_9 s = some (.normal, s) := x_skip (by rfl) s
theorem x21_5 : execA E C (fg 21) B 68 E0 N c21_5 (φ, H) = condX (fget φ 8) (execA E C (fg 21) B 68 E0 N c21_6 (φ, H)) (execA E C (fg 21) B 68 E0 N c21_9 (φ, H)) := x_cond (by rfl) _
theorem x21_3 : execA E C (fg 21) B 68 E0 N c21_3 s = seqX (execA E C (fg 21) B 68 E0 N c21_4 s) (execA E C (fg 21) B 68 E0 N c21_5) := x_seq (by rfl) s
noncomputable def c21_10 : Code := kR c21_2
noncomputable def c21_11 : Code := kL c21_10
noncomputable def c21_12 : Code := kL c21_11
noncomputable def r21_3 : Array Oper := kO c21_12
noncomputable def o21_3_0 : Oper := opN r21_3 0
noncomputable def o21_3_1 : Oper := opN r21_3 1
noncomputable def o21_3_2 : Oper := opN r21_3 2
noncomputable def o21_3_3 : Oper := opN r21_3 3
theorem x21_12 : execA E C (fg 21) B 68 E0 N c21_12 s = regX (runA E C B 68 r21_3 r21_3.toList s) (fun s => gcM E0 [8, 9, 10, 11] (forget s.1 [8, 9, 10, 11], s.2)) := x_reg (ops := r21_3) (by rfl) (by rfl) s
theorem r21_3_l : r21_3.toList = [o21_3_0, o21_3_1, o21_3_2, o21_3_3] := nrfl rfl
theorem s21_3_0 : stepA E C B 68 r21_3 o21_3_0 (φ, H) = some (fput φ 9 (fget φ 0), H) := nrfl rfl
theorem s21_3_1 : stepA E C B 68 r21_3 o21_3_1 (φ, H) = stp (some 10) φ H (just (aIndexAddr E.T 22 (fget φ 9) (.int .i64 0))) := nrfl rfl
theorem s21_3_2 : stepA E C B 68 r21_3 o21_3_2 (φ, H) = stp (some 11) φ H (just (aLoad E.T 3 (fget φ 10))) := nrfl rfl
theorem s21_3_3 : stepA E C B 68 r21_3 o21_3_3 (φ, H) = stp (some 12) φ H (just (aBin E.T .neq 3 (fget φ 11) (.int .i64 0))) := nrfl rfl
noncomputable def c21_13 : Code := kR c21_11
noncomputable def c21_14 : Code := kT c21_13
noncomputable def c21_15 : Code := kL c21_14
noncomputable def r21_4 : Array Oper := kO c21_15
noncomputable def o21_4_0 : Oper := opN r21_4 0
noncomputable def o21_4_1 : Oper := opN r21_4 1
theorem x21_15 : execA E C (fg 21) B 68 E0 N c21_15 s = regX (runA E C B 68 r21_4 r21_4.toList s) (fun s => gcM E0 [0, 12] (forget s.1 [0, 12], s.2)) := x_reg (ops := r21_4) (by rfl) (by rfl) s
theorem r21_4_l : r21_4.toList = [o21_4_0, o21_4_1] := nrfl rfl
theorem s21_4_0 : stepA E C B 68 r21_4 o21_4_0 (φ, H) = some (fput φ 2 (.nilsl), H) := nrfl rfl
theorem s21_4_1 : stepA E C B 68 r21_4 o21_4_1 (φ, H) = some (fput φ 3 (.int .i64 5), H) := nrfl rfl
noncomputable def c21_16 : Code := kR c21_14
theorem x21_16 : execA E C (fg 21) B 68 E0 N c21_16 s = some (.ret, s) := x_ret (by rfl) s
theorem x21_14 : execA E C (fg 21) B 68 E0 N c21_14 s = seqX (execA E C (fg 21) B 68 E0 N c21_15 s) (execA E C (fg 21) B 68 E0 N c21_16) := x_seq (by rfl) s
noncomputable def c21_17 : Code := kE c21_13
theorem x21_17 : execA E C (fg 21) B 68 E0 N c21_17 s = some (.normal, s) := x_skip (by rfl) s
theorem x21_13 : execA E C (fg 21) B 68 E0 N c21_13 (φ, H) = condX (fget φ 12) (execA E C (fg 21) B 68 E0 N c21_14 (φ, H)) (execA E C (fg 21) B 68 E0 N c21_17 (φ, H)) := x_cond (by rfl) _
theorem x21_11 : execA E C (fg 21) B 68 E0 N c21_11 s = seqX (execA E C (fg 21) B 68 E0 N c21_12 s) (execA E C (fg 21) B 68 E0 N c21_13) := x_seq (by rfl) s
noncomputable def c21_18 : Code := kR c21_10
noncomputable def c21_19 : Code := kL c21_18
noncomputable def c21_20 : Code := kL c21_19
noncomputable def r21_5 : Array Oper := kO c21_20
noncomputable def o21_5_0 : Oper := opN r21_5 0
noncomputable def o21_5_1 : Oper := opN r21_5 1
noncomputable def o21_5_2 : Oper := opN r21_5 2
theorem x21_20 : execA E C (fg 21) B 68 E0 N c21_20 s = regX (runA E C B 68 r21_5 r21_5.toList s) (fun s => gcM E0 [12, 13, 14] (forget s.1 [12, 13, 14], s.2)) := x_reg (ops := r21_5) (by rfl) (by rfl) s
theorem r21_5_l : r21_5.toList = [o21_5_0, o21_5_1, o21_5_2] := nrfl rfl
theorem s21_5_0 : stepA E C B 68 r21_5 o21_5_0 (φ, H) = some (fput φ 13 (fget φ 0), H) := nrfl rfl
theorem s21_5_1 : stepA E C B 68 r21_5 o21_5_1 (φ, H) = stp (some 14) φ H (aBuiltin E.T (B + 14) .len #[22] [(fget φ 13)]) := nrfl rfl
theorem s21_5_2 : stepA E C B 68 r21_5 o21_5_2 (φ, H) = stp (some 15) φ H (just (aBin E.T .gtr 3 (fget φ 14) (.int .i64 7))) := nrfl rfl
noncomputable def c21_21 : Code := kR c21_19
noncomputable def c21_22 : Code := kT c21_21
noncomputable def c21_23 : Code := kL c21_22
noncomputable def r21_6 : Array Oper := kO c21_23
noncomputable def o21_6_0 : Oper := opN r21_6 0
noncomputable def o21_6_1 : Oper := opN r21_6 1
theorem x21_23 : execA E C (fg 21) B 68 E0 N c21_23 s = regX (runA E C B 68 r21_6 r21_6.toList s) (fun s => gcM E0 [0, 15] (forget s.1 [0, 15], s.2)) := x_reg (ops := r21_6) (by rfl) (by rfl) s
theorem r21_6_l : r21_6.toList = [o21_6_0, o21_6_1] := nrfl rfl
theorem s21_6_0 : stepA E C B 68 r21_6 o21_6_0 (φ, H) = some (fput φ 2 (.nilsl), H) := nrfl rfl
theorem s21_6_1 : stepA E C B 68 r21_6 o21_6_1 (φ, H) = some (fput φ 3 (.int .i64 3), H) := nrfl rfl
noncomputable def c21_24 : Code := kR c21_22
theorem x21_24 : execA E C (fg 21) B 68 E0 N c21_24 s = some (.ret, s) := x_ret (by rfl) s
theorem x21_22 : execA E C (fg 21) B 68 E0 N c21_22 s = seqX (execA E C (fg 21) B 68 E0 N c21_23 s) (execA E C (fg 21) B 68 E0 N c21_24) := x_seq (by rfl) s
noncomputable def c21_25 : Code := kE c21_21
theorem x21_25 : execA E C (fg 21) B 68 E0 N c21_25 s = some (.normal, s) := x_skip (by rfl) s
theorem x21_21 : execA E C (fg 21) B 68 E0 N c21_21 (φ, H) = condX (fget φ 15) (execA E C (fg 21) B 68 E0 N c21_22 (φ, H)) (execA E C (fg 21) B 68 E0 N c21_25 (φ, H)) := x_cond (by rfl) _
theorem x21_19 : execA E C (fg 21) B 68 E0 N c21_19 s = seqX (execA E C (fg 21) B 68 E0 N c21_20 s) (execA E C (fg 21) B 68 E0 N c21_21) := x_seq (by rfl) s
noncomputable def c21_26 : Code := kR c21_18
noncomputable def c21_27 : Code := kL c21_26
noncomputable def r21_7 : Array Oper := kO c21_27
noncomputable def o21_7_0 : Oper := opN r21_7 0
theorem x21_27 : execA E C (fg 21) B 68 E0 N c21_27 s = regX (runA E C B 68 r21_7 r21_7.toList s) (fun s => gcM E0 [15] (forget s.1 [15], s.2)) := x_reg (ops := r21_7) (by rfl) (by rfl) s
theorem r21_7_l : r21_7.toList = [o21_7_0] := nrfl rfl
theorem s21_7_0 : stepA E C B 68 r21_7 o21_7_0 (φ, H) = some (fput φ 4 (.nilsl), H) := nrfl rfl
noncomputable def c21_28 : Code := kR c21_26
noncomputable def c21_29 : Code := kL c21_28
noncomputable def c21_30 : Code := kL c21_29
noncomputable def r21_8 : Array Oper := kO c21_30
noncomputable def o21_8_0 : Oper := opN r21_8 0
theorem x21_30 : execA E C (fg 21) B 68 E0 N c21_30 s = regX (runA E C B 68 r21_8 r21_8.toList s) (fun s => gcM E0 [] (forget s.1 [], s.2)) := x_reg (ops := r21_8) (by rfl) (by rfl) s
theorem r21_8_l : r21_8.toList = [o21_8_0] := nrfl rfl
theorem s21_8_0 : stepA E C B 68 r21_8 o21_8_0 (φ, H) = some (fput φ 5 (.int .i64 1), H) := nrfl rfl
noncomputable def c21_31 : Code := kR c21_29
noncomputable def c21_32 : Code := kB c21_31
noncomputable def c21_33 : Code := kB c21_32
noncomputable def c21_34 : Code := kL c21_33
noncomputable def c21_35 : Code := kL c21_34
noncomputable def r21_9 : Array Oper := kO c21_35
noncomputable def o21_9_0 : Oper := opN r21_9 0
noncomputable def o21_9_1 : Oper := opN r21_9 1
noncomputable def o21_9_2 : Oper := opN r21_9 2
noncomputable def o21_9_3 : Oper := opN r21_9 3
theorem x21_35 : execA E C (fg 21) B 68 E0 N c21_35 s = regX (runA E C B 68 r21_9 r21_9.toList s) (fun s => gcM E0 [16, 17, 18] (forget s.1 [16, 17, 18], s.2)) := x_reg (ops := r21_9) (by rfl) (by rfl) s
theorem r21_9_l : r21_9.toList = [o21_9_0, o21_9_1, o21_9_2, o21_9_3] := nrfl rfl
theorem s21_9_0 : stepA E C B 68 r21_9 o21_9_0 (φ, H) = some (fput φ 16 (fget φ 5), H) := nrfl rfl
theorem s21_9_1 : stepA E C B 68 r21_9 o21_9_1 (φ, H) = some (fput φ 17 (fget φ 0), H) := nrfl rfl
theorem s21_9_2 : stepA E C B 68 r21_9 o21_9_2 (φ, H) = stp (some 18) φ H (aBuiltin E.T (B + 18) .len #[22] [(fget φ 17)]) := nrfl rfl
theorem s21_9_3 : stepA E C B 68 r21_9 o21_9_3 (φ, H) = stp (some 19) φ H (just (aBin E.T .lss 3 (fget φ 16) (fget φ 18))) := nrfl rfl
noncomputable def c21_36 : Code := kR c21_34
noncomputable def c21_37 : Code := kT c21_36
theorem x21_37 : execA E C (fg 21) B 68 E0 N c21_37 s = some (.normal, s) := x_skip (by rfl) s
noncomputable def c21_38 : Code := kE c21_36
theorem x21_38 : execA E C (fg 21) B 68 E0 N c21_38 s = some (.exit 0, s) := x_exit (by rfl) s
theorem x21_36 : execA E C (fg 21) B 68 E0 N c21_36 (φ, H) = condX (fget φ 19) (execA E C (fg 21) B 68 E0 N c21_37 (φ, H)) (execA E C (fg 21) B 68 E0 N c21_38 (φ, H)) := x_cond (by rfl) _
theorem x21_34 : execA E C (fg 21) B 68 E0 N c21_34 s = seqX (execA E C (fg 21) B 68 E0 N c21_35 s) (execA E C (fg 21) B 68 E0 N c21_36) := x_seq (by rfl) s
noncomputable def c21_39 : Code := kR c21_33
noncomputable def c21_40 : Code := kL c21_39
noncomputable def c21_41 : Code := kB c21_40
noncomputable def c21_42 : Code := kL c21_41
noncomputable def c21_43 : Code := kL c21_42
noncomputable def r21_11 : Array Oper := kO c21_43
noncomputable def o21_11_0 : Oper := opN r21_11 0
noncomputable def o21_11_1 : Oper := opN r21_11 1
noncomputable def o21_11_2 : Oper := opN r21_11 2
noncomputable def o21_11_3 : Oper := opN r21_11 3
noncomputable def o21_11_4 : Oper := opN r21_11 4
noncomputable def o21_11_5 : Oper := opN r21_11 5
noncomputable def o21_11_6 : Oper := opN r21_11 6
noncomputable def o21_11_7 : Oper := opN r21_11 7
noncomputable def o21_11_8 : Oper := opN r21_11 8
noncomputable def o21_11_9 : Oper := opN r21_11 9
noncomputable def o21_11_10 : Oper := opN r21_11 10
noncomputable def o21_11_11 : Oper := opN r21_11 11
noncomputable def o21_11_12 : Oper := opN r21_11 12
noncomputable def o21_11_13 : Oper := opN r21_11 13
noncomputable def o21_11_14 : Oper := opN r21_11 14
noncomputable def o21_11_15 : Oper := opN r21_11 15
noncomputable def o21_11_16 : Oper := opN r21_11 16
theorem x21_43 : execA E C (fg 21) B 68 E0 N c21_43 s = regX (drawA E C B 68 r21_11 s) (fun s => gcM E0 [19, 22, 23, 24, 25, 26, 27, 28, 29, 30, 31, 32, 33, 34, 35, 36, 37] (forget s.1 [19, 22, 23, 24, 25, 26, 27, 28, 29, 30, 31, 32, 33, 34, 35, 36, 37], s.2)) := x_draw (ops := r21_11) (by rfl) (by rfl) s
theorem r21_11_l : r21_11.toList = [o21_11_0, o21_11_1, o21_11_2, o21_11_3, o21_11_4, o21_11_5, o21_11_6, o21_11_7, o21_11_8, o21_11_9, o21_11_10, o21_11_11, o21_11_12, o21_11_13, o21_11_14, o21_11_15, o21_11_16] := nrfl rfl
theorem r21_11_st : statOk r21_11 = true := by kernel_rfl
theorem r21_11_dr : drawA E C B 68 r21_11 s = if neat 68 s = true then drX r21_11 (runT E C B 68 r21_11 r21_11.toList 0 s) else none := draw_eq r21_11_st s
theorem r21_11_an (l : List (Nat × Tr)) : dynOk r21_11 l = (!writing l || dynPairs [[], [], [0, 1], [0, 1, 2], [], [], [5], [4, 5, 6], [4, 5, 6, 7], [], [], [10], [9, 10, 11], [9, 10, 11, 12], [9, 10, 11, 12, 13], [0, 1, 2, 3, 4, 5, 6, 7, 8, 9, 10, 11, 12, 13, 14], [0, 1, 2, 3, 4, 5, 6, 7, 8, 9, 10, 11, 12, 13, 14, 15]] (touching l)) := dynOk_eq (by kernel_rfl) l
theorem s21_11_0 : stepT E C B 68 r21_11 o21_11_0 (φ, H) = some ((fput φ 22 (fget φ 0), H), ⟨false, [], []⟩) := stT_go rfl (goT_mv rfl rfl)
theorem s21_11_1 : stepT E C B 68 r21_11 o21_11_1 (φ, H) = some ((fput φ 23 (fget φ 5), H), ⟨false, [], []⟩) := stT_go rfl (goT_mv rfl rfl)
theorem s21_11_2 : stepT E C B 68 r21_11 o21_11_2 (φ, H) = stpT (some 24) φ H (just (aIndexAddr E.T 22 (fget φ 22) (fget φ 23))) := stT_go rfl (goT_R rfl rfl)
theorem s21_11_3 : stepT E C B 68 r21_11 o21_11_3 (φ, H) = stpT (some 25) φ H (just (aLoad E.T 3 (fget φ 24))) := stT_go rfl (goT_R rfl rfl)
theorem s21_11_4 : stepT E C B 68 r21_11 o21_11_4 (φ, H) = some ((fput φ 26 (fget φ 0), H), ⟨false, [], []⟩) := stT_go rfl (goT_mv rfl rfl)
theorem s21_11_5 : stepT E C B 68 r21_11 o21_11_5 (φ, H) = some ((fput φ 27 (fget φ 5), H), ⟨false, [], []⟩) := stT_go rfl (goT_mv rfl rfl)
theorem s21_11_6 : stepT E C B 68 r21_11 o21_11_6 (φ, H) = stpT (some 28) φ H (just (aBin E.T .sub 3 (fget φ 27) (.int .i64 1))) := stT_go rfl (goT_R rfl rfl)
theorem s21_11_7 : stepT E C B 68 r21_11 o21_11_7 (φ, H) = stpT (some 29) φ H (just (aIndexAddr E.T 22 (fget φ 26) (fget φ 28))) := stT_go rfl (goT_R rfl rfl)
theorem s21_11_8 : stepT E C B 68 r21_11 o21_11_8 (φ, H) = stpT (some 30) φ H (just (aLoad E.T 3 (fget φ 29))) := stT_go rfl (goT_R rfl rfl)
theorem s21_11_9 : stepT E C B 68 r21_11 o21_11_9 (φ, H) = some ((fput φ 31 (fget φ 0), H), ⟨false, [], []⟩) := stT_go rfl (goT_mv rfl rfl)
theorem s21_11_10 : stepT E C B 68 r21_11 o21_11_10 (φ, H) = some ((fput φ 32 (fget φ 5), H), ⟨false, [], []⟩) := stT_go rfl (goT_mv rfl rfl)
theorem s21_11_11 : stepT E C B 68 r21_11 o21_11_11 (φ, H) = stpT (some 33) φ H (just (aBin E.T .sub 3 (fget φ 32) (.int .i64 1))) := stT_go rfl (goT_R rfl rfl)
theorem s21_11_12 : stepT E C B 68 r21_11 o21_11_12 (φ, H) = stpT (some 34) φ H (just (aIndexAddr E.T 22 (fget φ 31) (fget φ 33))) := stT_go rfl (goT_R rfl rfl)
theorem s21_11_13 : stepT E C B 68 r21_11 o21_11_13 (φ, H) = stpT (some 35) φ H (just (aLoad E.T 3 (fget φ 34))) := stT_go rfl (goT_R rfl rfl)
theorem s21_11_14 : stepT E C B 68 r21_11 o21_11_14 (φ, H) = stpT (some 36) φ H (just (aBin E.T .add 3 (fget φ 35) (.int .i64 8))) := stT_go rfl (goT_R rfl rfl)
theorem s21_11_15 : stepT E C B 68 r21_11 o21_11_15 (φ, H) = stpT (some 37) φ H (aCall C (fun j => B + j * 68 + 37) true 81 [(fget φ 25), (fget φ 30), (fget φ 36)]) := stT_go rfl (goT_R rfl rfl)
theorem s21_11_16 : stepT E C B 68 r21_11 o21_11_16 (φ, H) = stpT (some 38) φ H (justO (aUn .not (fget φ 37))) := stT_go rfl (goT_R rfl rfl)
noncomputable def c21_44 : Code := kR c21_42
noncomputable def c21_45 : Code := kT c21_44
noncomputable def c21_46 : Code := kL c21_45
noncomputable def r21_12 : Array Oper := kO c21_46
noncomputable def o21_12_0 : Oper := opN r21_12 0
noncomputable def o21_12_1 : Oper := opN r21_12 1
theorem x21_46 : execA E C (fg 21) B 68 E0 N c21_46 s = regX (runA E C B 68 r21_12 r21_12.toList s) (fun s => gcM E0 [0, 4, 5, 38] (forget s.1 [0, 4, 5, 38], s.2)) := x_reg (ops := r21_12) (by rfl) (by rfl) s
theorem r21_12_l : r21_12.toList = [o21_12_0, o21_12_1] := nrfl rfl
theorem s21_12_0 : stepA E C B 68 r21_12 o21_12_0 (φ, H) = some (fput φ 2 (.nilsl), H) := nrfl rfl
theorem s21_12_1 : stepA E C B 68 r21_12 o21_12_1 (φ, H) = some (fput φ 3 (.int .i64 1), H) := nrfl rfl
noncomputable def c21_47 : Code := kR c21_45
theorem x21_47 : execA E C (fg 21) B 68 E0 N c21_47 s = some (.ret, s) := x_ret (by rfl) s
theorem x21_45 : execA E C (fg 21) B 68 E0 N c21_45 s = seqX (execA E C (fg 21) B 68 E0 N c21_46 s) (execA E C (fg 21) B 68 E0 N c21_47) := x_seq (by rfl) s
noncomputable def c21_48 : Code := kE c21_44
theorem x21_48 : execA E C (fg 21) B 68 E0 N c21_48 s = some (.normal, s) := x_skip (by rfl) s
theorem x21_44 : execA E C (fg 21) B 68 E0 N c21_44 (φ, H) = condX (fget φ 38) (execA E C (fg 21) B 68 E0 N c21_45 (φ, H)) (execA E C (fg 21) B 68 E0 N c21_48 (φ, H)) := x_cond (by rfl) _
theorem x21_42 : execA E C (fg 21) B 68 E0 N c21_42 s = seqX (execA E C (fg 21) B 68 E0 N c21_43 s) (execA E C (fg 21) B 68 E0 N c21_44) := x_seq (by rfl) s
noncomputable def c21_49 : Code := kR c21_41
noncomputable def c21_50 : Code := kL c21_49
noncomputable def r21_13 : Array Oper := kO c21_50
noncomputable def o21_13_0 : Oper := opN r21_13 0
noncomputable def o21_13_1 : Oper := opN r21_13 1
noncomputable def o21_13_2 : Oper := opN r21_13 2
noncomputable def o21_13_3 : Oper := opN r21_13 3
noncomputable def o21_13_4 : Oper := opN r21_13 4
noncomputable def o21_13_5 : Oper := opN r21_13 5
noncomputable def o21_13_6 : Oper := opN r21_13 6
noncomputable def o21_13_7 : Oper := opN r21_13 7
noncomputable def o21_13_8 : Oper := opN r21_13 8
noncomputable def o21_13_9 : Oper := opN r21_13 9
noncomputable def o21_13_10 : Oper := opN r21_13 10
noncomputable def o21_13_11 : Oper := opN r21_13 11
noncomputable def o21_13_12 : Oper := opN r21_13 12
noncomputable def o21_13_13 : Oper := opN r21_13 13
theorem x21_50 : execA E C (fg 21) B 68 E0 N c21_50 s = regX (drawA E C B 68 r21_13 s) (fun s => gcM E0 [38, 39, 40, 41, 42, 43, 44, 45, 46, 47, 48, 49, 50, 51] (forget s.1 [38, 39, 40, 41, 42, 43, 44, 45, 46, 47, 48, 49, 50, 51], s.2)) := x_draw (ops := r21_13) (by rfl) (by rfl) s
theorem r21_13_l : r21_13.toList = [o21_13_0, o21_13_1, o21_13_2, o21_13_3, o21_13_4, o21_13_5, o21_13_6, o21_13_7, o21_13_8, o21_13_9, o21_13_10, o21_13_11, o21_13_12, o21_13_13] := nrfl rfl
theorem r21_13_st : statOk r21_13 = true := by kernel_rfl
theorem r21_13_dr : drawA E C B 68 r21_13 s = if neat 68 s = true then drX r21_13 (runT E C B 68 r21_13 r21_13.toList 0 s) else none := draw_eq r21_13_st s
theorem r21_13_an (l : List (Nat × Tr)) : dynOk r21_13 l = (!writing l || dynPairs [[], [], [], [1, 2], [1, 2, 3], [], [], [6], [5, 6, 7], [5, 6, 7, 8], [1, 2, 3, 4, 5, 6, 7, 8, 9], [1, 2, 3, 4, 5, 6, 7, 8, 9, 10], [0, 1, 2, 3, 4, 5, 6, 7, 8, 9, 10, 11], [0, 1, 2, 3, 4, 5, 6, 7, 8, 9, 10, 11, 12]] (touching l)) := dynOk_eq (by kernel_rfl) l
theorem s21_13_0 : stepT E C B 68 r21_13 o21_13_0 (φ, H) = some ((fput φ 39 (fget φ 4), H), ⟨false, [], []⟩) := stT_go rfl (goT_mv rfl rfl)
theorem s21_13_1 : stepT E C B 68 r21_13 o21_13_1 (φ, H) = some ((fput φ 40 (fget φ 0), H), ⟨false, [], []⟩) := stT_go rfl (goT_mv rfl rfl)
theorem s21_13_2 : stepT E C B 68 r21_13 o21_13_2 (φ, H) = some ((fput φ 41 (fget φ 5), H), ⟨false, [], []⟩) := stT_go rfl (goT_mv rfl rfl)
theorem s21_13_3 : stepT E C B 68 r21_13 o21_13_3 (φ, H) = stpT (some 42) φ H (just (aIndexAddr E.T 22 (fget φ 40) (fget φ 41))) := stT_go rfl (goT_R rfl rfl)
theorem s21_13_4 : stepT E C B 68 r21_13 o21_13_4 (φ, H) = stpT (some 43) φ H (just (aLoad E.T 3 (fget φ 42))) := stT_go rfl (goT_R rfl rfl)
theorem s21_13_5 : stepT E C B 68 r21_13 o21_13_5 (φ, H) = some ((fput φ 44 (fget φ 0), H), ⟨false, [], []⟩) := stT_go rfl (goT_mv rfl rfl)
theorem s21_13_6 : stepT E C B 68 r21_13 o21_13_6 (φ, H) = some ((fput φ 45 (fget φ 5), H), ⟨false, [], []⟩) := stT_go rfl (goT_mv rfl rfl)
theorem s21_13_7 : stepT E C B 68 r21_13 o21_13_7 (φ, H) = stpT (some 46) φ H (just (aBin E.T .sub 3 (fget φ 45) (.int .i64 1))) := stT_go rfl (goT_R rfl rfl)
theorem s21_13_8 : stepT E C B 68 r21_13 o21_13_8 (φ, H) = stpT (some 47) φ H (just (aIndexAddr E.T 22 (fget φ 44) (fget φ 46))) := stT_go rfl (goT_R rfl rfl)
theorem s21_13_9 : stepT E C B 68 r21_13 o21_13_9 (φ, H) = stpT (some 48) φ H (just (aLoad E.T 3 (fget φ 47))) := stT_go rfl (goT_R rfl rfl)
theorem s21_13_10 : stepT E C B 68 r21_13 o21_13_10 (φ, H) = stpT (some 49) φ H (just (aBin E.T .sub 3 (fget φ 43) (fget φ 48))) := stT_go rfl (goT_R rfl rfl)
theorem s21_13_11 : stepT E C B 68 r21_13 o21_13_11 (φ, H) = stpT (some 50) φ H (aBuildSlice E.T (B + 50) 22 1 (evO E φ) [(0, Operand.tmp 49)]) := stT_go rfl (goT_R rfl rfl)
theorem s21_13_12 : stepT E C B 68 r21_13 o21_13_12 (φ, H) = stpT (some 51) φ H (aBuiltin E.T (B + 51) .append #[22, 22] [(fget φ 39), (fget φ 50)]) := stT_go rfl (goT_R rfl rfl)
theorem s21_13_13 : stepT E C B 68 r21_13 o21_13_13 (φ, H) = some ((fput φ 4 (fget φ 51), H), ⟨false, [], []⟩) := stT_go rfl (goT_mv rfl rfl)
noncomputable def c21_51 : Code := kR c21_49
noncomputable def c21_52 : Code := kL c21_51
noncomputable def r21_14 : Array Oper := kO c21_52
noncomputable def o21_14_0 : Oper := opN r21_14 0
noncomputable def o21_14_1 : Oper := opN r21_14 1
noncomputable def o21_14_2 : Oper := opN r21_14 2
noncomputable def o21_14_3 : Oper := opN r21_14 3
noncomputable def o21_14_4 : Oper := opN r21_14 4
noncomputable def o21_14_5 : Oper := opN r21_14 5
noncomputable def o21_14_6 : Oper := opN r21_14 6
noncomputable def o21_14_7 : Oper := opN r21_14 7
noncomputable def o21_14_8 : Oper := opN r21_14 8
noncomputable def o21_14_9 : Oper := opN r21_14 9
noncomputable def o21_14_10 : Oper := opN r21_14 10
noncomputable def o21_14_11 : Oper := opN r21_14 11
noncomputable def o21_14_12 : Oper := opN r21_14 12
noncomputable def o21_14_13 : Oper := opN r21_14 13
noncomputable def o21_14_14 : Oper := opN r21_14 14
theorem x21_52 : execA E C (fg 21) B 68 E0 N c21_52 s = regX (drawA E C B 68 r21_14 s) (fun s => gcM E0 [52, 53, 54, 55, 56, 57, 58, 59, 60, 61, 62, 63, 64, 65] (forget s.1 [52, 53, 54, 55, 56, 57, 58, 59, 60, 61, 62, 63, 64, 65], s.2)) := x_draw (ops := r21_14) (by rfl) (by rfl) s
theorem r21_14_l : r21_14.toList = [o21_14_0, o21_14_1, o21_14_2, o21_14_3, o21_14_4, o21_14_5, o21_14_6, o21_14_7, o21_14_8, o21_14_9, o21_14_10, o21_14_11, o21_14_12, o21_14_13, o21_14_14] := nrfl rfl
theorem r21_14_st : statOk r21_14 = true := by kernel_rfl
theorem r21_14_dr : drawA E C B 68 r21_14 s = if neat 68 s = true then drX r21_14 (runT E C B 68 r21_14 r21_14.toList 0 s) else none := draw_eq r21_14_st s
theorem r21_14_an (l : List (Nat × Tr)) : dynOk r21_14 l = (!writing l || dynPairs [[], [0], [0, 1], [0, 1, 2], [0, 1, 2], [0, 1, 2, 4], [0, 1, 2, 3, 4, 5], [0, 1, 2, 3, 4, 5, 6], [0, 1, 2], [0, 1, 2], [0, 1, 2, 9], [0, 1, 2, 8, 9, 10], [0, 1, 2, 8, 9, 10, 11], [0, 1, 2, 3, 4, 5, 6, 7, 8, 9, 10, 11, 12], [0, 1, 2, 3, 4, 5, 6, 7, 8, 9, 10, 11, 12, 13]] (touching l)) := dynOk_eq (by kernel_rfl) l
theorem s21_14_0 : stepT E C B 68 r21_14 o21_14_0 (φ, H) = some ((fput φ 52 (fget φ 5), H), ⟨false, [], []⟩) := stT_go rfl (goT_mv rfl rfl)
theorem s21_14_1 : stepT E C B 68 r21_14 o21_14_1 (φ, H) = stpT (some 53) φ H (just (aBin E.T .gtr 3 (fget φ 52) (.int .i64 1))) := stT_go rfl (goT_R rfl rfl)
theorem s21_14_2 : stepT E C B 68 r21_14 o21_14_2 (φ, H) = some ((fput φ 54 (fget φ 53), H), ⟨false, [], []⟩) := stT_go rfl (goT_mv rfl rfl)
theorem s21_14_3 : stepT E C B 68 r21_14 o21_14_3 (φ, H) = gdT φ 54 true (fun φ => (some (fput φ 55 (.tup []), H)).map fun s => (s, ⟨false, [], []⟩)) (fun φ => some ((fput φ 55 (fget φ 4), H), ⟨false, [], []⟩)) := stT_gd (j := 2) (oj := o21_14_2) rfl rfl rfl (fun _ => rfl) (fun _ => goT_mv rfl rfl)
theorem s21_14_4 : stepT E C B 68 r21_14 o21_14_4 (φ, H) = gdT φ 54 true (fun φ => (some (fput φ 56 (.tup []), H)).map fun s => (s, ⟨false, [], []⟩)) (fun φ => some ((fput φ 56 (fget φ 5), H), ⟨false, [], []⟩)) := stT_gd (j := 2) (oj := o21_14_2) rfl rfl rfl (fun _ => rfl) (fun _ => goT_mv rfl rfl)
theorem s21_14_5 : stepT E C B 68 r21_14 o21_14_5 (φ, H) = gdT φ 54 true (fun φ => (some (fput φ 57 (.tup []), H)).map fun s => (s, ⟨false, [], []⟩)) (fun φ => stpT (some 57) φ H (just (aBin E.T .sub 3 (fget φ 56) (.int .i64 1)))) := stT_gd (j := 2) (oj := o21_14_2) rfl rfl rfl (fun _ => rfl) (fun _ => goT_R rfl rfl)
theorem s21_14_6 : stepT E C B 68 r21_14 o21_14_6 (φ, H) = gdT φ 54 true (fun φ => (some (fput φ 58 (.tup []), H)).map fun s => (s, ⟨false, [], []⟩)) (fun φ => stpT (some 58) φ H (just (aIndexAddr E.T 22 (fget φ 55) (fget φ 57)))) := stT_gd (j := 2) (oj := o21_14_2) rfl rfl rfl (fun _ => rfl) (fun _ => goT_R rfl rfl)
theorem s21_14_7 : stepT E C B 68 r21_14 o21_14_7 (φ, H) = gdT φ 54 true (fun φ => (some (fput φ 59 (.tup []), H)).map fun s => (s, ⟨false, [], []⟩)) (fun φ => stpT (some 59) φ H (just (aLoad E.T 3 (fget φ 58)))) := stT_gd (j := 2) (oj := o21_14_2) rfl rfl rfl (fun _ => rfl) (fun _ => goT_R rfl rfl)
theorem s21_14_8 : stepT E C B 68 r21_14 o21_14_8 (φ, H) = gdT φ 54 true (fun φ => (some (fput φ 60 (.tup []), H)).map fun s => (s, ⟨false, [], []⟩)) (fun φ => some ((fput φ 60 (fget φ 4), H), ⟨false, [], []⟩)) := stT_gd (j := 2) (oj := o21_14_2) rfl rfl rfl (fun _ => rfl) (fun _ => goT_mv rfl rfl)
theorem s21_14_9 : stepT E C B 68 r21_14 o21_14_9 (φ, H) = gdT φ 54 true (fun φ => (some (fput φ 61 (.tup []), H)).map fun s => (s, ⟨false, [], []⟩)) (fun φ => some ((fput φ 61 (fget φ 5), H), ⟨false, [], []⟩)) := stT_gd (j := 2) (oj := o21_14_2) rfl rfl rfl (fun _ => rfl) (fun _ => goT_mv rfl rfl)
theorem s21_14_10 : stepT E C B 68 r21_14 o21_14_10 (φ, H) = gdT φ 54 true (fun φ => (some (fput φ 62 (.tup []), H)).map fun s => (s, ⟨false, [], []⟩)) (fun φ => stpT (some 62) φ H (just (aBin E.T .sub 3 (fget φ 61) (.int .i64 2)))) := stT_gd (j := 2) (oj := o21_14_2) rfl rfl rfl (fun _ => rfl) (fun _ => goT_R rfl rfl)
theorem s21_14_11 : stepT E C B 68 r21_14 o21_14_11 (φ, H) = gdT φ 54 true (fun φ => (some (fput φ 63 (.tup []), H)).map fun s => (s, ⟨false, [], []⟩)) (fun φ => stpT (some 63) φ H (just (aIndexAddr E.T 22 (fget φ 60) (fget φ 62)))) := stT_gd (j := 2) (oj := o21_14_2) rfl rfl rfl (fun _ => rfl) (fun _ => goT_R rfl rfl)
theorem s21_14_12 : stepT E C B 68 r21_14 o21_14_12 (φ, H) = gdT φ 54 true (fun φ => (some (fput φ 64 (.tup []), H)).map fun s => (s, ⟨false, [], []⟩)) (fun φ => stpT (some 64) φ H (just (aLoad E.T 3 (fget φ 63)))) := stT_gd (j := 2) (oj := o21_14_2) rfl rfl rfl (fun _ => rfl) (fun _ => goT_R rfl rfl)
theorem s21_14_13 : stepT E C B 68 r21_14 o21_14_13 (φ, H) = gdT φ 54 true (fun φ => (some (fput φ 65 (.tup []), H)).map fun s => (s, ⟨false, [], []⟩)) (fun φ => stpT (some 65) φ H (just (aBin E.T .gtr 3 (fget φ 59) (fget φ 64)))) := stT_gd (j := 2) (oj := o21_14_2) rfl rfl rfl (fun _ => rfl) (fun _ => goT_R rfl rfl)
theorem s21_14_14 : stepT E C B 68 r21_14 o21_14_14 (φ, H) = stpT (some 66) φ H (opPick (fget φ 54) (fget φ 65) (.bool false)) := stT_go rfl (goT_R rfl rfl)
noncomputable def c21_53 : Code := kR c21_51
noncomputable def c21_54 : Code := kT c21_53
noncomputable def c21_55 : Code := kL c21_54
noncomputable def r21_15 : Array Oper := kO c21_55
noncomputable def o21_15_0 : Oper := opN r21_15 0
noncomputable def o21_15_1 : Oper := opN r21_15 1
theorem x21_55 : execA E C (fg 21) B 68 E0 N c21_55 s = regX (runA E C B 68 r21_15 r21_15.toList s) (fun s => gcM E0 [0, 4, 5, 66] (forget s.1 [0, 4, 5, 66], s.2)) := x_reg (ops := r21_15) (by rfl) (by rfl) s
theorem r21_15_l : r21_15.toList = [o21_15_0, o21_15_1] := nrfl rfl
theorem s21_15_0 : stepA E C B 68 r21_15 o21_15_0 (φ, H) = some (fput φ 2 (.nilsl), H) := nrfl rfl
theorem s21_15_1 : stepA E C B 68 r21_15 o21_15_1 (φ, H) = some (fput φ 3 (.int .i64 7), H) := nrfl rfl
noncomputable def c21_56 : Code := kR c21_54
theorem x21_56 : execA E C (fg 21) B 68 E0 N c21_56 s = some (.ret, s) := x_ret (by rfl) s
theorem x21_54 : execA E C (fg 21) B 68 E0 N c21_54 s = seqX (execA E C (fg 21) B 68 E0 N c21_55 s) (execA E C (fg 21) B 68 E0 N c21_56) := x_seq (by rfl) s
noncomputable def c21_57 : Code := kE c21_53
theorem x21_57 : execA E C (fg 21) B 68 E0 N c21_57 s = some (.normal, s) := x_skip (by rfl) s
theorem x21_53 : execA E C (fg 21) B 68 E0 N c21_53 (φ, H) = condX (fget φ 66) (execA E C (fg 21) B 68 E0 N c21_54 (φ, H)) (execA E C (fg 21) B 68 E0 N c21_57 (φ, H)) := x_cond (by rfl) _
theorem x21_51 : execA E C (fg 21) B 68 E0 N c21_51 s = seqX (execA E C (fg 21) B 68 E0 N c21_52 s) (execA E C (fg 21) B 68 E0 N c21_53) := x_seq (by rfl) s
theorem x21_49 : execA E C (fg 21) B 68 E0 N c21_49 s = seqX (execA E C (fg 21) B 68 E0 N c21_50 s) (execA E C (fg 21) B 68 E0 N c21_51) := x_seq (by rfl) s
theorem x21_41 : execA E C (fg 21) B 68 E0 N c21_41 s = seqX (execA E C (fg 21) B 68 E0 N c21_42 s) (execA E C (fg 21) B 68 E0 N c21_49) := x_seq (by rfl) s
theorem x21_40 : execA E C (fg 21) B 68 E0 N c21_40 s = blockX 1 (fun s => (forget s.1 [66], s.2)) (execA E C (fg 21) B 68 E0 N c21_41 s) := x_block (by rfl) (by rfl) s
noncomputable def c21_58 : Code := kR c21_39
noncomputable def r21_10 : Array Oper := kO c21_58
noncomputable def o21_10_0 : Oper := opN r21_10 0
noncomputable def o21_10_1 : Oper := opN r21_10 1
noncomputable def o21_10_2 : Oper := opN r21_10 2
theorem x21_58 : execA E C (fg 21) B 68 E0 N c21_58 s = regX (runA E C B 68 r21_10 r21_10.toList s) (fun s => gcM E0 [20, 21] (forget s.1 [20, 21], s.2)) := x_reg (ops := r21_10) (by rfl) (by rfl) s
theorem r21_10_l : r21_10.toList = [o21_10_0, o21_10_1, o21_10_2] := nrfl rfl
theorem s21_10_0 : stepA E C B 68 r21_10 o21_10_0 (φ, H) = some (fput φ 20 (fget φ 5), H) := nrfl rfl
theorem s21_10_1 : stepA E C B 68 r21_10 o21_10_1 (φ, H) = stp (some 21) φ H (just (aBin E.T .add 3 (fget φ 20) (.int .i64 1))) := nrfl rfl
theorem s21_10_2 : stepA E C B 68 r21_10 o21_10_2 (φ, H) = some (fput φ 5 (fget φ 21), H) := nrfl rfl
theorem x21_39 : execA E C (fg 21) B 68 E0 N c21_39 s = seqX (execA E C (fg 21) B 68 E0 N c21_40 s) (execA E C (fg 21) B 68 E0 N c21_58) := x_seq (by rfl) s
theorem x21_33 : execA E C (fg 21) B 68 E0 N c21_33 s = seqX (execA E C (fg 21) B 68 E0 N c21_34 s) (execA E C (fg 21) B 68 E0 N c21_39) := x_seq (by rfl) s
theorem x21_32 : execA E C (fg 21) B 68 E0 N c21_32 s = iterA (execA E C (fg 21) B 68 E0 N c21_33) (headA E0) N s := x_loop (by rfl) s
theorem x21_31 : execA E C (fg 21) B 68 E0 N c21_31 s = blockX 0 (fun s => (forget s.1 [0, 5, 19], s.2)) (execA E C (fg 21) B 68 E0 N c21_32 s) := x_block (by rfl) (by rfl) s
theorem x21_29 : execA E C (fg 21) B 68 E0 N c21_29 s = seqX (execA E C (fg 21) B 68 E0 N c21_30 s) (execA E C (fg 21) B 68 E0 N c21_31) := x_seq (by rfl) s
noncomputable def c21_59 : Code := kR c21_28
noncomputable def c21_60 : Code := kL c21_59
noncomputable def r21_16 : Array Oper := kO c21_60
noncomputable def o21_16_0 : Oper := opN r21_16 0
noncomputable def o21_16_1 : Oper := opN r21_16 1
noncomputable def o21_16_2 : Oper := opN r21_16 2
theorem x21_60 : execA E C (fg 21) B 68 E0 N c21_60 s = regX (runA E C B 68 r21_16 r21_16.toList s) (fun s => gcM E0 [4, 67] (forget s.1 [4, 67], s.2)) := x_reg (ops := r21_16) (by rfl) (by rfl) s
theorem r21_16_l : r21_16.toList = [o21_16_0, o21_16_1, o21_16_2] := nrfl rfl
theorem s21_16_0 : stepA E C B 68 r21_16 o21_16_0 (φ, H) = some (fput φ 67 (fget φ 4), H) := nrfl rfl
theorem s21_16_1 : stepA E C B 68 r21_16 o21_16_1 (φ, H) = some (fput φ 2 (fget φ 67), H) := nrfl rfl
theorem s21_16_2 : stepA E C B 68 r21_16 o21_16_2 (φ, H) = some (fput φ 3 (.int .i64 0), H) := nrfl rfl
noncomputable def c21_61 : Code := kR c21_59
theorem x21_61 : execA E C (fg 21) B 68 E0 N c21_61 s = some (.ret, s) := x_ret (by rfl) s
theorem x21_59 : execA E C (fg 21) B 68 E0 N c21_59 s = seqX (execA E C (fg 21) B 68 E0 N c21_60 s) (execA E C (fg 21) B 68 E0 N c21_61) := x_seq (by rfl) s
theorem x21_28 : execA E C (fg 21) B 68 E0 N c21_28 s = seqX (execA E C (fg 21) B 68 E0 N c21_29 s) (execA E C (fg 21) B 68 E0 N c21_59) := x_seq (by rfl) s
theorem x21_26 : execA E C (fg 21) B 68 E0 N c21_26 s = seqX (execA E C (fg 21) B 68 E0 N c21_27 s) (execA E C (fg 21) B 68 E0 N c21_28) := x_seq (by rfl) s
theorem x21_18 : execA E C (fg 21) B 68 E0 N c21_18 s = seqX (execA E C (fg 21) B 68 E0 N c21_19 s) (execA E C (fg 21) B 68 E0 N c21_26) := x_seq (by rfl) s
theorem x21_10 : execA E C (fg 21) B 68 E0 N c21_10 s = seqX (execA E C (fg 21) B 68 E0 N c21_11 s) (execA E C (fg 21) B 68 E0 N c21_18) := x_seq (by rfl) s
theorem x21_2 : execA E C (fg 21) B 68 E0 N c21_2 s = seqX (execA E C (fg 21) B 68 E0 N c21_3 s) (execA E C (fg 21) B 68 E0 N c21_10) := x_seq (by rfl) s
theorem x21_0 : execA E C (fg 21) B 68 E0 N c21_0 s = seqX (execA E C (fg 21) B 68 E0 N c21_1 s) (execA E C (fg 21) B 68 E0 N c21_2) := x_seq (by rfl) s
theorem fi_21 : fInfo E 21 = some ⟨68, #[.tmp 2, .tmp 3], c21_0⟩ := nrfl rfl
theorem b_21 (args : List AV) : bodyA E C fg N 21 args H B = bodyX E [.tmp 2, .tmp 3] (execA E C (fg 21) B 68 H N c21_0 (frame0 args 0 [], H)) := bodyA_eq fi_21 args H
abbrev F_21 := And.intro (And.intro (And.intro (And.intro (And.intro (And.intro (And.intro @x21_1 @r21_0_l) (And.intro @s21_0_0 (And.intro @s21_0_1 @x21_4))) (And.intro (And.intro @r21_1_l @s21_1_0) (And.intro @s21_1_1 (And.intro @s21_1_2 @x21_7)))) (And.intro (And.intro (And.intro @r21_2_l @s21_2_0) (And.intro @s21_2_1 (And.intro @x21_8 @x21_6))) (And.intro (And.intro @x21_9 @x21_5) (And.intro @x21_3 (And.intro @x21_12 @r21_3_l))))) (And.intro (And.intro (And.intro (And.intro @s21_3_0 @s21_3_1) (And.intro @s21_3_2 (And.intro @s21_3_3 @x21_15))) (And.intro (And.intro @r21_4_l @s21_4_0) (And.intro @s21_4_1 (And.intro @x21_16 @x21_14)))) (And.intro (And.intro (And.intro @x21_17 @x21_13) (And.intro @x21_11 (And.intro @x21_20 @r21_5_l))) (And.intro (And.intro @s21_5_0 (And.intro @s21_5_1 @s21_5_2)) (And.intro @x21_23 (And.intro @r21_6_l @s21_6_0)))))) (And.intro (And.intro (And.intro (And.intro (And.intro @s21_6_1 @x21_24) (And.intro @x21_22 (And.intro @x21_25 @x21_21))) (And.intro (And.intro @x21_19 @x21_27) (And.intro @r21_7_l (And.intro @s21_7_0 @x21_30)))) (And.intro (And.intro (And.intro @r21_8_l @s21_8_0) (And.intro @x21_35 (And.intro @r21_9_l @s21_9_0))) (And.intro (And.intro @s21_9_1 (And.intro @s21_9_2 @s21_9_3)) (And.intro @x21_37 (And.intro @x21_38 @x21_36))))) (And.intro (And.intro (And.intro (And.intro @x21_34 @x21_43) (And.intro @r21_11_l (And.intro @r21_11_dr @r21_11_an))) (And.intro (And.intro @s21_11_0 @s21_11_1) (And.intro @s21_11_2 (And.intro @s21_11_3 @s21_11_4)))) (And.intro (And.intro (And.intro @s21_11_5 @s21_11_6) (And.intro @s21_11_7 (And.intro @s21_11_8 @s21_11_9))) (And.intro (And.intro @s21_11_10 (And.intro @s21_11_11 @s21_11_12)) (And.intro @s21_11_13 (And.intro @s21_11_14 @s21_11_15))))))) (And.intro (And.intro (And.intro (And.intro (And.intro (And.intro @s21_11_16 @x21_46) (And.intro @r21_12_l (And.intro @s21_12_0 @s21_12_1))) (And.intro (And.intro @x21_47 @x21_45) (And.intro @x21_48 (And.intro @x21_44 @x21_42)))) (And.intro (And.intro (And.intro @x21_50 @r21_13_l) (And.intro @r21_13_dr (And.intro @r21_13_an @s21_13_0))) (And.intro (And.intro @s21_13_1 @s21_13_2) (And.intro @s21_13_3 (And.intro @s21_13_4 @s21_13_5))))) (And.intro (And.intro (And.intro (And.intro @s21_13_6 @s21_13_7) (And.intro @s21_13_8 (And.intro @s21_13_9 @s21_13_10))) (And.intro (And.intro @s21_13_11 @s21_13_12) (And.intro @s21_13_13 (And.intro @x21_52 @r21_14_l)))) (And.intro (And.intro (And.intro @r21_14_dr @r21_14_an) (And.intro @s21_14_0 (And.intro @s21_14_1 @s21_14_2))) (And.intro (And.intro @s21_14_3 (And.intro @s21_14_4 @s21_14_5)) (And.intro @s21_14_6 (And.intro @s21_14_7 @s21_14_8)))))) (And.intro (And.intro (And.intro (And.intro (And.intro @s21_14_9 @s21_14_10) (And.intro @s21_14_11 (And.intro @s21_14_12 @s21_14_13))) (And.intro (And.intro @s21_14_14 @x21_55) (And.intro @r21_15_l (And.intro @s21_15_0 @s21_15_1)))) (And.intro (And.intro (And.intro @x21_56 @x21_54) (And.intro @x21_57 (And.intro @x21_53 @x21_51))) (And.intro (And.intro @x21_49 (And.intro @x21_41 @x21_40)) (And.intro @x21_58 (And.intro @r21_10_l @s21_10_0))))) (And.intro (And.intro (And.intro (And.intro @s21_10_1 @s21_10_2) (And.intro @x21_39 (And.intro @x21_33 @x21_32))) (And.intro (And.intro @x21_31 @x21_29) (And.intro @x21_60 (And.intro @r21_16_l @s21_16_0)))) (And.intro (And.intro (And.intro @s21_16_1 @s21_16_2) (And.intro @x21_61 (And.intro @x21_59 @x21_28))) (And.intro (And.intro @x21_26 (And.intro @x21_18 @x21_10)) (And.intro @x21_2 (And.intro @x21_0 @b_21)))))))
noncomputable def c84_0 : Code := kBody Proofs.Try.f84
noncomputable def c84_1 : Code := kL c84_0
noncomputable def r84_0 : Array Oper := kO c84_1
noncomputable def o84_0_0 : Oper := opN r84_0 0
theorem x84_1 : execA E C (fg 84) B 55 E0 N c84_1 s = regX (runA E C B 55 r84_0 r84_0.toList s) (fun s => gcM E0 [6] (forget s.1 [6], s.2)) := x_reg (ops := r84_0) (by rfl) (by rfl) s
theorem r84_0_l : r84_0.toList = [o84_0_0] := nrfl rfl
theorem s84_0_0 : stepA E C B 55 r84_0 o84_0_0 (φ, H) = some (fput φ 6 (.nilsl), H) := nrfl rfl
noncomputable def c84_2 : Code := kR c84_0
noncomputable def c84_3 : Code := kL c84_2
noncomputable def r84_1 : Array Oper := kO c84_3
noncomputable def o84_1_0 : Oper := opN r84_1 0
noncomputable def o84_1_1 : Oper := opN r84_1 1
noncomputable def o84_1_2 : Oper := opN r84_1 2
noncomputable def o84_1_3 : Oper := opN r84_1 3
theorem x84_3 : execA E C (fg 84) B 55 E0 N c84_3 s = regX (runA E C B 55 r84_1 r84_1.toList s) (fun s => gcM E0 [8, 9, 10] (forget s.1 [8, 9, 10], s.2)) := x_reg (ops := r84_1) (by rfl) (by rfl) s
theorem r84_1_l : r84_1.toList = [o84_1_0, o84_1_1, o84_1_2, o84_1_3] := nrfl rfl
theorem s84_1_0 : stepA E C B 55 r84_1 o84_1_0 (φ, H) = stp (some 8) φ H (aBuildSlice E.T (B + 8) 22 0 (evO E φ) []) := nrfl rfl
theorem s84_1_1 : stepA E C B 55 r84_1 o84_1_1 (φ, H) = some (fput φ 9 (fget φ 0), H) := nrfl rfl
theorem s84_1_2 : stepA E C B 55 r84_1 o84_1_2 (φ, H) = stp (some 10) φ H (aBuiltin E.T (B + 10) .append #[22, 22] [(fget φ 8), (fget φ 9)]) := nrfl rfl
theorem s84_1_3 : stepA E C B 55 r84_1 o84_1_3 (φ, H) = some (fput φ 7 (fget φ 10), H) := nrfl rfl
noncomputable def c84_4 : Code := kR c84_2
noncomputable def c84_5 : Code := kL c84_4
noncomputable def c84_6 : Code := kB c84_5
noncomputable def c84_7 : Code := kB c84_6
noncomputable def c84_8 : Code := kL c84_7
noncomputable def c84_9 : Code := kL c84_8
noncomputable def r84_2 : Array Oper := kO c84_9
noncomputable def o84_2_0 : Oper := opN r84_2 0
noncomputable def o84_2_1 : Oper := opN r84_2 1
noncomputable def o84_2_2 : Oper := opN r84_2 2
noncomputable def o84_2_3 : Oper := opN r84_2 3
noncomputable def o84_2_4 : Oper := opN r84_2 4
noncomputable def o84_2_5 : Oper := opN r84_2 5
noncomputable def o84_2_6 : Oper := opN r84_2 6
noncomputable def o84_2_7 : Oper := opN r84_2 7
noncomputable def o84_2_8 : Oper := opN r84_2 8
noncomputable def o84_2_9 : Oper := opN r84_2 9
noncomputable def o84_2_10 : Oper := opN r84_2 10
noncomputable def o84_2_11 : Oper := opN r84_2 11
noncomputable def o84_2_12 : Oper := opN r84_2 12
noncomputable def o84_2_13 : Oper := opN r84_2 13
noncomputable def o84_2_14 : Oper := opN r84_2 14
noncomputable def o84_2_15 : Oper := opN r84_2 15
noncomputable def o84_2_16 : Oper := opN r84_2 16
theorem x84_9 : execA E C (fg 84) B 55 E0 N c84_9 s = regX (drawA E C B 55 r84_2 s) (fun s => gcM E0 [11, 12, 13, 14, 15, 16, 17, 18, 19, 20, 21, 22, 23, 24, 25, 26] (forget s.1 [11, 12, 13, 14, 15, 16, 17, 18, 19, 20, 21, 22, 23, 24, 25, 26], s.2)) := x_draw (ops := r84_2) (by rfl) (by rfl) s
theorem r84_2_l : r84_2.toList = [o84_2_0, o84_2_1, o84_2_2, o84_2_3, o84_2_4, o84_2_5, o84_2_6, o84_2_7, o84_2_8, o84_2_9, o84_2_10, o84_2_11, o84_2_12, o84_2_13, o84_2_14, o84_2_15, o84_2_16] := nrfl rfl
theorem r84_2_st : statOk r84_2 = true := by kernel_rfl
theorem r84_2_dr : drawA E C B 55 r84_2 s = if neat 55 s = true then drX r84_2 (runT E C B 55 r84_2 r84_2.toList 0 s) else none := draw_eq r84_2_st s
theorem r84_2_an (l : List (Nat × Tr)) : dynOk r84_2 l = (!writing l || dynPairs [[], [0], [], [2], [0, 1, 2, 3], [0, 1, 2, 3, 4], [0, 1, 2, 3, 4, 5], [0, 1, 2, 3, 4, 5], [0, 1, 2, 3, 4, 5, 7], [0, 1, 2, 3, 4, 5, 6, 7, 8], [0, 1, 2, 3, 4, 5, 6, 7, 8, 9], [0, 1, 2, 3, 4, 5], [0, 1, 2, 3, 4, 5], [0, 1, 2, 3, 4, 5, 11, 12], [0, 1, 2, 3, 4, 5, 11, 12, 13], [0, 1, 2, 3, 4, 5, 6, 7, 8, 9, 10, 11, 12, 13, 14], [0, 1, 2, 3, 4, 5, 6, 7, 8, 9, 10, 11, 12, 13, 14, 15]] (touching l)) := dynOk_eq (by kernel_rfl) l
theorem s84_2_0 : stepT E C B 55 r84_2 o84_2_0 (φ, H) = some ((fput φ 11 (fget φ 1), H), ⟨false, [], []⟩) := stT_go rfl (goT_mv rfl rfl)
theorem s84_2_1 : stepT E C B 55 r84_2 o84_2_1 (φ, H) = stpT (some 12) φ H (just (aBin E.T .add 3 (fget φ 11) (.int .i64 1))) := stT_go rfl (goT_R rfl rfl)
theorem s84_2_2 : stepT E C B 55 r84_2 o84_2_2 (φ, H) = some ((fput φ 13 (fget φ 0), H), ⟨false, [], []⟩) := stT_go rfl (goT_mv rfl rfl)
theorem s84_2_3 : stepT E C B 55 r84_2 o84_2_3 (φ, H) = stpT (some 14) φ H (aBuiltin E.T (B + 14) .len #[22] [(fget φ 13)]) := stT_go rfl (goT_R rfl rfl)
theorem s84_2_4 : stepT E C B 55 r84_2 o84_2_4 (φ, H) = stpT (some 15) φ H (just (aBin E.T .lss 3 (fget φ 12) (fget φ 14))) := stT_go rfl (goT_R rfl rfl)
theorem s84_2_5 : stepT E C B 55 r84_2 o84_2_5 (φ, H) = some ((fput φ 16 (fget φ 15), H), ⟨false, [], []⟩) := stT_go rfl (goT_mv rfl rfl)
theorem s84_2_6 : stepT E C B 55 r84_2 o84_2_6 (φ, H) = gdT φ 16 true (fun φ => (some (fput φ 17 (.tup []), H)).map fun s => (s, ⟨false, [], []⟩)) (fun φ => some ((fput φ 17 (fget φ 0), H), ⟨false, [], []⟩)) := stT_gd (j := 5) (oj := o84_2_5) rfl rfl rfl (fun _ => rfl) (fun _ => goT_mv rfl rfl)
theorem s84_2_7 : stepT E C B 55 r84_2 o84_2_7 (φ, H) = gdT φ 16 true (fun φ => (some (fput φ 18 (.tup []), H)).map fun s => (s, ⟨false, [], []⟩)) (fun φ => some ((fput φ 18 (fget φ 1), H), ⟨false, [], []⟩)) := stT_gd (j := 5) (oj := o84_2_5) rfl rfl rfl (fun _ => rfl) (fun _ => goT_mv rfl rfl)
theorem s84_2_8 : stepT E C B 55 r84_2 o84_2_8 (φ, H) = gdT φ 16 true (fun φ => (some (fput φ 19 (.tup []), H)).map fun s => (s, ⟨false, [], []⟩)) (fun φ => stpT (some 19) φ H (just (aBin E.T .add 3 (fget φ 18) (.int .i64 1)))) := stT_gd (j := 5) (oj := o84_2_5) rfl rfl rfl (fun _ => rfl) (fun _ => goT_R rfl rfl)
theorem s84_2_9 : stepT E C B 55 r84_2 o84_2_9 (φ, H) = gdT φ 16 true (fun φ => (some (fput φ 20 (.tup []), H)).map fun s => (s, ⟨false, [], []⟩)) (fun φ => stpT (some 20) φ H (just (aIndexAddr E.T 22 (fget φ 17) (fget φ 19)))) := stT_gd (j := 5) (oj := o84_2_5) rfl rfl rfl (fun _ => rfl) (fun _ => goT_R rfl rfl)
theorem s84_2_10 : stepT E C B 55 r84_2 o84_2_10 (φ, H) = gdT φ 16 true (fun φ => (some (fput φ 21 (.tup []), H)).map fun s => (s, ⟨false, [], []⟩)) (fun φ => stpT (some 21) φ H (just (aLoad E.T 3 (fget φ 20)))) := stT_gd (j := 5) (oj := o84_2_5) rfl rfl rfl (fun _ => rfl) (fun _ => goT_R rfl rfl)
theorem s84_2_11 : stepT E C B 55 r84_2 o84_2_11 (φ, H) = gdT φ 16 true (fun φ => (some (fput φ 22 (.tup []), H)).map fun s => (s, ⟨false, [], []⟩)) (fun φ => some ((fput φ 22 (fget φ 0), H), ⟨false, [], []⟩)) := stT_gd (j := 5) (oj := o84_2_5) rfl rfl rfl (fun _ => rfl) (fun _ => goT_mv rfl rfl)
theorem s84_2_12 : stepT E C B 55 r84_2 o84_2_12 (φ, H) = gdT φ 16 true (fun φ => (some (fput φ 23 (.tup []), H)).map fun s => (s, ⟨false, [], []⟩)) (fun φ => some ((fput φ 23 (fget φ 1), H), ⟨false, [], []⟩)) := stT_gd (j := 5) (oj := o84_2_5) rfl rfl rfl (fun _ => rfl) (fun _ => goT_mv rfl rfl)
theorem s84_2_13 : stepT E C B 55 r84_2 o84_2_13 (φ, H) = gdT φ 16 true (fun φ => (some (fput φ 24 (.tup []), H)).map fun s => (s, ⟨false, [], []⟩)) (fun φ => stpT (some 24) φ H (just (aIndexAddr E.T 22 (fget φ 22) (fget φ 23)))) := stT_gd (j := 5) (oj := o84_2_5) rfl rfl rfl (fun _ => rfl) (fun _ => goT_R rfl rfl)
theorem s84_2_14 : stepT E C B 55 r84_2 o84_2_14 (φ, H) = gdT φ 16 true (fun φ => (some (fput φ 25 (.tup []), H)).map fun s => (s, ⟨false, [], []⟩)) (fun φ => stpT (some 25) φ H (just (aLoad E.T 3 (fget φ 24)))) := stT_gd (j := 5) (oj := o84_2_5) rfl rfl rfl (fun _ => rfl) (fun _ => goT_R rfl rfl)
theorem s84_2_15 : stepT E C B 55 r84_2 o84_2_15 (φ, H) = gdT φ 16 true (fun φ => (some (fput φ 26 (.tup []), H)).map fun s => (s, ⟨false, [], []⟩)) (fun φ => stpT (some 26) φ H (just (aBin E.T .eql 3 (fget φ 21) (fget φ 25)))) := stT_gd (j := 5) (oj := o84_2_5) rfl rfl rfl (fun _ => rfl) (fun _ => goT_R rfl rfl)
theorem s84_2_16 : stepT E C B 55 r84_2 o84_2_16 (φ, H) = stpT (some 27) φ H (opPick (fget φ 16) (fget φ 26) (.bool false)) := stT_go rfl (goT_R rfl rfl)
noncomputable def c84_10 : Code := kR c84_8
noncomputable def c84_11 : Code := kT c84_10
theorem x84_11 : execA E C (fg 84) B 55 E0 N c84_11 s = some (.normal, s) := x_skip (by rfl) s
noncomputable def c84_12 : Code := kE c84_10
theorem x84_12 : execA E C (fg 84) B 55 E0 N c84_12 s = some (.exit 0, s) := x_exit (by rfl) s
theorem x84_10 : execA E C (fg 84) B 55 E0 N c84_10 (φ, H) = condX (fget φ 27) (execA E C (fg 84) B 55 E0 N c84_11 (φ, H)) (execA E C (fg 84) B 55 E0 N c84_12 (φ, H)) := x_cond (by rfl) _
theorem x84_8 : execA E C (fg 84) B 55 E0 N c84_8 s = seqX (execA E C (fg 84) B 55 E0 N c84_9 s) (execA E C (fg 84) B 55 E0 N c84_10) := x_seq (by rfl) s
noncomputable def c84_13 : Code := kR c84_7
noncomputable def c84_14 : Code := kB c84_13
noncomputable def r84_3 : Array Oper := kO c84_14
noncomputable def o84_3_0 : Oper := opN r84_3 0
noncomputable def o84_3_1 : Oper := opN r84_3 1
noncomputable def o84_3_2 : Oper := opN r84_3 2
theorem x84_14 : execA E C (fg 84) B 55 E0 N c84_14 s = regX (runA E C B 55 r84_3 r84_3.toList s) (fun s => gcM E0 [27, 28, 29] (forget s.1 [27, 28, 29], s.2)) := x_reg (ops := r84_3) (by rfl) (by rfl) s
theorem r84_3_l : r84_3.toList = [o84_3_0, o84_3_1, o84_3_2] := nrfl rfl
theorem s84_3_0 : stepA E C B 55 r84_3 o84_3_0 (φ, H) = some (fput φ 28 (fget φ 1), H) := nrfl rfl
theorem s84_3_1 : stepA E C B 55 r84_3 o84_3_1 (φ, H) = stp (some 29) φ H (just (aBin E.T .add 3 (fget φ 28) (.int .i64 1))) := nrfl rfl
theorem s84_3_2 : stepA E C B 55 r84_3 o84_3_2 (φ, H) = some (fput φ 1 (fget φ 29), H) := nrfl rfl
theorem x84_13 : execA E C (fg 84) B 55 E0 N c84_13 s = blockX 1 (fun s => (forget s.1 [], s.2)) (execA E C (fg 84) B 55 E0 N c84_14 s) := x_block (by rfl) (by rfl) s
theorem x84_7 : execA E C (fg 84) B 55 E0 N c84_7 s = seqX (execA E C (fg 84) B 55 E0 N c84_8 s) (execA E C (fg 84) B 55 E0 N c84_13) := x_seq (by rfl) s
theorem x84_6 : execA E C (fg 84) B 55 E0 N c84_6 s = iterA (execA E C (fg 84) B 55 E0 N c84_7) (headA E0) N s := x_loop (by rfl) s
theorem x84_5 : execA E C (fg 84) B 55 E0 N c84_5 s = blockX 0 (fun s => (forget s.1 [27], s.2)) (execA E C (fg 84) B 55 E0 N c84_6 s) := x_block (by rfl) (by rfl) s
noncomputable def c84_15 : Code := kR c84_4
noncomputable def c84_16 : Code := kL c84_15
noncomputable def c84_17 : Code := kB c84_16
noncomputable def c84_18 : Code := kB c84_17
noncomputable def c84_19 : Code := kL c84_18
noncomputable def c84_20 : Code := kL c84_19
noncomputable def r84_4 : Array Oper := kO c84_20
noncomputable def o84_4_0 : Oper := opN r84_4 0
noncomputable def o84_4_1 : Oper := opN r84_4 1
noncomputable def o84_4_2 : Oper := opN r84_4 2
noncomputable def o84_4_3 : Oper := opN r84_4 3
noncomputable def o84_4_4 : Oper := opN r84_4 4
noncomputable def o84_4_5 : Oper := opN r84_4 5
noncomputable def o84_4_6 : Oper := opN r84_4 6
noncomputable def o84_4_7 : Oper := opN r84_4 7
noncomputable def o84_4_8 : Oper := opN r84_4 8
noncomputable def o84_4_9 : Oper := opN r84_4 9
theorem x84_20 : execA E C (fg 84) B 55 E0 N c84_20 s = regX (drawA E C B 55 r84_4 s) (fun s => gcM E0 [30, 31, 32, 33, 34, 35, 36, 37, 38] (forget s.1 [30, 31, 32, 33, 34, 35, 36, 37, 38], s.2)) := x_draw (ops := r84_4) (by rfl) (by rfl) s
theorem r84_4_l : r84_4.toList = [o84_4_0, o84_4_1, o84_4_2, o84_4_3, o84_4_4, o84_4_5, o84_4_6, o84_4_7, o84_4_8, o84_4_9] := nrfl rfl
theorem r84_4_st : statOk r84_4 = true := by kernel_rfl
theorem r84_4_dr : drawA E C B 55 r84_4 s = if neat 55 s = true then drX r84_4 (runT E C B 55 r84_4 r84_4.toList 0 s) else none := draw_eq r84_4_st s
theorem r84_4_an (l : List (Nat × Tr)) : dynOk r84_4 l = (!writing l || dynPairs [[], [], [1], [0, 1, 2], [0, 1, 2, 3], [], [], [5, 6], [5, 6, 7], [0, 1, 2, 3, 4, 5, 6, 7, 8]] (touching l)) := dynOk_eq (by kernel_rfl) l
theorem s84_4_0 : stepT E C B 55 r84_4 o84_4_0 (φ, H) = some ((fput φ 30 (fget φ 0), H), ⟨false, [], []⟩) := stT_go rfl (goT_mv rfl rfl)
theorem s84_4_1 : stepT E C B 55 r84_4 o84_4_1 (φ, H) = some ((fput φ 31 (fget φ 2), H), ⟨false, [], []⟩) := stT_go rfl (goT_mv rfl rfl)
theorem s84_4_2 : stepT E C B 55 r84_4 o84_4_2 (φ, H) = stpT (some 32) φ H (just (aBin E.T .sub 3 (fget φ 31) (.int .i64 1))) := stT_go rfl (goT_R rfl rfl)
theorem s84_4_3 : stepT E C B 55 r84_4 o84_4_3 (φ, H) = stpT (some 33) φ H (just (aIndexAddr E.T 22 (fget φ 30) (fget φ 32))) := stT_go rfl (goT_R rfl rfl)
theorem s84_4_4 : stepT E C B 55 r84_4 o84_4_4 (φ, H) = stpT (some 34) φ H (just (aLoad E.T 3 (fget φ 33))) := stT_go rfl (goT_R rfl rfl)
theorem s84_4_5 : stepT E C B 55 r84_4 o84_4_5 (φ, H) = some ((fput φ 35 (fget φ 0), H), ⟨false, [], []⟩) := stT_go rfl (goT_mv rfl rfl)
theorem s84_4_6 : stepT E C B 55 r84_4 o84_4_6 (φ, H) = some ((fput φ 36 (fget φ 2), H), ⟨false, [], []⟩) := stT_go rfl (goT_mv rfl rfl)
theorem s84_4_7 : stepT E C B 55 r84_4 o84_4_7 (φ, H) = stpT (some 37) φ H (just (aIndexAddr E.T 22 (fget φ 35) (fget φ 36))) := stT_go rfl (goT_R rfl rfl)
theorem s84_4_8 : stepT E C B 55 r84_4 o84_4_8 (φ, H) = stpT (some 38) φ H (just (aLoad E.T 3 (fget φ 37))) := stT_go rfl (goT_R rfl rfl)
theorem s84_4_9 : stepT E C B 55 r84_4 o84_4_9 (φ, H) = stpT (some 39) φ H (just (aBin E.T .eql 3 (fget φ 34) (fget φ 38))) := stT_go rfl (goT_R rfl rfl)
noncomputable def c84_21 : Code := kR c84_19
noncomputable def c84_22 : Code := kT c84_21
theorem x84_22 : execA E C (fg 84) B 55 E0 N c84_22 s = some (.normal, s) := x_skip (by rfl) s
noncomputable def c84_23 : Code := kE c84_21
theorem x84_23 : execA E C (fg 84) B 55 E0 N c84_23 s = some (.exit 2, s) := x_exit (by rfl) s
theorem x84_21 : execA E C (fg 84) B 55 E0 N c84_21 (φ, H) = condX (fget φ 39) (execA E C (fg 84) B 55 E0 N c84_22 (φ, H)) (execA E C (fg 84) B 55 E0 N c84_23 (φ, H)) := x_cond (by rfl) _
theorem x84_19 : execA E C (fg 84) B 55 E0 N c84_19 s = seqX (execA E C (fg 84) B 55 E0 N c84_20 s) (execA E C (fg 84) B 55 E0 N c84_21) := x_seq (by rfl) s
noncomputable def c84_24 : Code := kR c84_18
noncomputable def c84_25 : Code := kB c84_24
noncomputable def r84_5 : Array Oper := kO c84_25
noncomputable def o84_5_0 : Oper := opN r84_5 0
noncomputable def o84_5_1 : Oper := opN r84_5 1
noncomputable def o84_5_2 : Oper := opN r84_5 2
theorem x84_25 : execA E C (fg 84) B 55 E0 N c84_25 s = regX (runA E C B 55 r84_5 r84_5.toList s) (fun s => gcM E0 [39, 40, 41] (forget s.1 [39, 40, 41], s.2)) := x_reg (ops := r84_5) (by rfl) (by rfl) s
theorem r84_5_l : r84_5.toList = [o84_5_0, o84_5_1, o84_5_2] := nrfl rfl
theorem s84_5_0 : stepA E C B 55 r84_5 o84_5_0 (φ, H) = some (fput φ 40 (fget φ 2), H) := nrfl rfl
theorem s84_5_1 : stepA E C B 55 r84_5 o84_5_1 (φ, H) = stp (some 41) φ H (just (aBin E.T .sub 3 (fget φ 40) (.int .i64 1))) := nrfl rfl
theorem s84_5_2 : stepA E C B 55 r84_5 o84_5_2 (φ, H) = some (fput φ 2 (fget φ 41), H) := nrfl rfl
theorem x84_24 : execA E C (fg 84) B 55 E0 N c84_24 s = blockX 3 (fun s => (forget s.1 [], s.2)) (execA E C (fg 84) B 55 E0 N c84_25 s) := x_block (by rfl) (by rfl) s
theorem x84_18 : execA E C (fg 84) B 55 E0 N c84_18 s = seqX (execA E C (fg 84) B 55 E0 N c84_19 s) (execA E C (fg 84) B 55 E0 N c84_24) := x_seq (by rfl) s
theorem x84_17 : execA E C (fg 84) B 55 E0 N c84_17 s = iterA (execA E C (fg 84) B 55 E0 N c84_18) (headA E0) N s := x_loop (by rfl) s
theorem x84_16 : execA E C (fg 84) B 55 E0 N c84_16 s = blockX 2 (fun s => (forget s.1 [0, 39], s.2)) (execA E C (fg 84) B 55 E0 N c84_17 s) := x_block (by rfl) (by rfl) s
noncomputable def c84_26 : Code := kR c84_15
noncomputable def c84_27 : Code := kL c84_26
noncomputable def r84_6 : Array Oper := kO c84_27
noncomputable def o84_6_0 : Oper := opN r84_6 0
noncomputable def o84_6_1 : Oper := opN r84_6 1
noncomputable def o84_6_2 : Oper := opN r84_6 2
noncomputable def o84_6_3 : Oper := opN r84_6 3
noncomputable def o84_6_4 : Oper := opN r84_6 4
noncomputable def o84_6_5 : Oper := opN r84_6 5
noncomputable def o84_6_6 : Oper := opN r84_6 6
theorem x84_27 : execA E C (fg 84) B 55 E0 N c84_27 s = regX (runA E C B 55 r84_6 r84_6.toList s) (fun s => gcM E0 [1, 42, 43, 44, 45, 46, 47] (forget s.1 [1, 42, 43, 44, 45, 46, 47], s.2)) := x_reg (ops := r84_6) (by rfl) (by rfl) s
theorem r84_6_l : r84_6.toList = [o84_6_0, o84_6_1, o84_6_2, o84_6_3, o84_6_4, o84_6_5, o84_6_6] := nrfl rfl
theorem s84_6_0 : stepA E C B 55 r84_6 o84_6_0 (φ, H) = some (fput φ 42 (fget φ 7), H) := nrfl rfl
theorem s84_6_1 : stepA E C B 55 r84_6 o84_6_1 (φ, H) = some (fput φ 43 (fget φ 1), H) := nrfl rfl
theorem s84_6_2 : stepA E C B 55 r84_6 o84_6_2 (φ, H) = stp (some 44) φ H (just (aIndexAddr E.T 22 (fget φ 42) (fget φ 43))) := nrfl rfl
theorem s84_6_3 : stepA E C B 55 r84_6 o84_6_3 (φ, H) = stp (some 45) φ H (just (aLoad E.T 3 (fget φ 44))) := nrfl rfl
theorem s84_6_4 : stepA E C B 55 r84_6 o84_6_4 (φ, H) = stp (some 46) φ H (just (aBin E.T .sub 3 (fget φ 45) (.int .i64 1))) := nrfl rfl
theorem s84_6_5 : stepA E C B 55 r84_6 o84_6_5 (φ, H) = stp (some 47) φ H (just (aIndexAddr E.T 22 (fget φ 42) (fget φ 43))) := nrfl rfl
theorem s84_6_6 : stepA E C B 55 r84_6 o84_6_6 (φ, H) = stp none φ H (opStore E.T 3 (fget φ 47) (fget φ 46)) := nrfl rfl
noncomputable def c84_28 : Code := kR c84_26
noncomputable def c84_29 : Code := kL c84_28
noncomputable def r84_7 : Array Oper := kO c84_29
noncomputable def o84_7_0 : Oper := opN r84_7 0
noncomputable def o84_7_1 : Oper := opN r84_7 1
noncomputable def o84_7_2 : Oper := opN r84_7 2
noncomputable def o84_7_3 : Oper := opN r84_7 3
noncomputable def o84_7_4 : Oper := opN r84_7 4
noncomputable def o84_7_5 : Oper := opN r84_7 5
noncomputable def o84_7_6 : Oper := opN r84_7 6
theorem x84_29 : execA E C (fg 84) B 55 E0 N c84_29 s = regX (runA E C B 55 r84_7 r84_7.toList s) (fun s => gcM E0 [2, 48, 49, 50, 51, 52, 53] (forget s.1 [2, 48, 49, 50, 51, 52, 53], s.2)) := x_reg (ops := r84_7) (by rfl) (by rfl) s
theorem r84_7_l : r84_7.toList = [o84_7_0, o84_7_1, o84_7_2, o84_7_3, o84_7_4, o84_7_5, o84_7_6] := nrfl rfl
theorem s84_7_0 : stepA E C B 55 r84_7 o84_7_0 (φ, H) = some (fput φ 48 (fget φ 7), H) := nrfl rfl
theorem s84_7_1 : stepA E C B 55 r84_7 o84_7_1 (φ, H) = some (fput φ 49 (fget φ 2), H) := nrfl rfl
theorem s84_7_2 : stepA E C B 55 r84_7 o84_7_2 (φ, H) = stp (some 50) φ H (just (aIndexAddr E.T 22 (fget φ 48) (fget φ 49))) := nrfl rfl
theorem s84_7_3 : stepA E C B 55 r84_7 o84_7_3 (φ, H) = stp (some 51) φ H (just (aLoad E.T 3 (fget φ 50))) := nrfl rfl
theorem s84_7_4 : stepA E C B 55 r84_7 o84_7_4 (φ, H) = stp (some 52) φ H (just (aBin E.T .add 3 (fget φ 51) (.int .i64 1))) := nrfl rfl
theorem s84_7_5 : stepA E C B 55 r84_7 o84_7_5 (φ, H) = stp (some 53) φ H (just (aIndexAddr E.T 22 (fget φ 48) (fget φ 49))) := nrfl rfl
theorem s84_7_6 : stepA E C B 55 r84_7 o84_7_6 (φ, H) = stp none φ H (opStore E.T 3 (fget φ 53) (fget φ 52)) := nrfl rfl
noncomputable def c84_30 : Code := kR c84_28
noncomputable def c84_31 : Code := kL c84_30
noncomputable def r84_8 : Array Oper := kO c84_31
noncomputable def o84_8_0 : Oper := opN r84_8 0
noncomputable def o84_8_1 : Oper := opN r84_8 1
theorem x84_31 : execA E C (fg 84) B 55 E0 N c84_31 s = regX (runA E C B 55 r84_8 r84_8.toList s) (fun s => gcM E0 [7, 54] (forget s.1 [7, 54], s.2)) := x_reg (ops := r84_8) (by rfl) (by rfl) s
theorem r84_8_l : r84_8.toList = [o84_8_0, o84_8_1] := nrfl rfl
theorem s84_8_0 : stepA E C B 55 r84_8 o84_8_0 (φ, H) = some (fput φ 54 (fget φ 7), H) := nrfl rfl
theorem s84_8_1 : stepA E C B 55 r84_8 o84_8_1 (φ, H) = some (fput φ 6 (fget φ 54), H) := nrfl rfl
noncomputable def c84_32 : Code := kR c84_30
theorem x84_32 : execA E C (fg 84) B 55 E0 N c84_32 s = some (.ret, s) := x_ret (by rfl) s
theorem x84_30 : execA E C (fg 84) B 55 E0 N c84_30 s = seqX (execA E C (fg 84) B 55 E0 N c84_31 s) (execA E C (fg 84) B 55 E0 N c84_32) := x_seq (by rfl) s
theorem x84_28 : execA E C (fg 84) B 55 E0 N c84_28 s = seqX (execA E C (fg 84) B 55 E0 N c84_29 s) (execA E C (fg 84) B 55 E0 N c84_30) := x_seq (by rfl) s
theorem x84_26 : execA E C (fg 84) B 55 E0 N c84_26 s = seqX (execA E C (fg 84) B 55 E0 N c84_27 s) (execA E C (fg 84) B 55 E0 N c84_28) := x_seq (by rfl) s
theorem x84_15 : execA E C (fg 84) B 55 E0 N c84_15 s = seqX (execA E C (fg 84) B 55 E0 N c84_16 s) (execA E C (fg 84) B 55 E0 N c84_26) := x_seq (by rfl) s
theorem x84_4 : execA E C (fg 84) B 55 E0 N c84_4 s = seqX (execA E C (fg 84) B 55 E0 N c84_5 s) (execA E C (fg 84) B 55 E0 N c84_15) := x_seq (by rfl) s
theorem x84_2 : execA E C (fg 84) B 55 E0 N c84_2 s = seqX (execA E C (fg 84) B 55 E0 N c84_3 s) (execA E C (fg 84) B 55 E0 N c84_4) := x_seq (by rfl) s
theorem x84_0 : execA E C (fg 84) B 55 E0 N c84_0 s = seqX (execA E C (fg 84) B 55 E0 N c84_1 s) (execA E C (fg 84) B 55 E0 N c84_2) := x_seq (by rfl) s
theorem fi_84 : fInfo E 84 = some ⟨55, #[.tmp 6], c84_0⟩ := nrfl rfl
theorem b_84 (args : List AV) : bodyA E C fg N 84 args H B = bodyX E [.tmp 6] (execA E C (fg 84) B 55 H N c84_0 (frame0 args 0 [], H)) := bodyA_eq fi_84 args H
abbrev F_84 := And.intro (And.intro (And.intro (And.intro (And.intro (And.intro @x84_1 (And.intro @r84_0_l @s84_0_0)) (And.intro @x84_3 (And.intro @r84_1_l @s84_1_0))) (And.intro (And.intro @s84_1_1 (And.intro @s84_1_2 @s84_1_3)) (And.intro @x84_9 (And.intro @r84_2_l @r84_2_dr)))) (And.intro (And.intro (And.intro @r84_2_an (And.intro @s84_2_0 @s84_2_1)) (And.intro @s84_2_2 (And.intro @s84_2_3 @s84_2_4))) (And.intro (And.intro @s84_2_5 (And.intro @s84_2_6 @s84_2_7)) (And.intro (And.intro @s84_2_8 @s84_2_9) (And.intro @s84_2_10 @s84_2_11))))) (And.intro (And.intro (And.intro (And.intro @s84_2_12 (And.intro @s84_2_13 @s84_2_14)) (And.intro @s84_2_15 (And.intro @s84_2_16 @x84_11))) (And.intro (And.intro @x84_12 (And.intro @x84_10 @x84_8)) (And.intro @x84_14 (And.intro @r84_3_l @s84_3_0)))) (And.intro (And.intro (And.intro @s84_3_1 (And.intro @s84_3_2 @x84_13)) (And.intro @x84_7 (And.intro @x84_6 @x84_5))) (And.intro (And.intro @x84_20 (And.intro @r84_4_l @r84_4_dr)) (And.intro (And.intro @r84_4_an @s84_4_0) (And.intro @s84_4_1 @s84_4_2)))))) (And.intro (And.intro (And.intro (And.intro (And.intro @s84_4_3 (And.intro @s84_4_4 @s84_4_5)) (And.intro @s84_4_6 (And.intro @s84_4_7 @s84_4_8))) (And.intro (And.intro @s84_4_9 (And.intro @x84_22 @x84_23)) (And.intro @x84_21 (And.intro @x84_19 @x84_25)))) (And.intro (And.intro (And.intro @r84_5_l (And.intro @s84_5_0 @s84_5_1)) (And.intro @s84_5_2 (And.intro @x84_24 @x84_18))) (And.intro (And.intro @x84_17 (And.intro @x84_16 @x84_27)) (And.intro (And.intro @r84_6_l @s84_6_0) (And.intro @s84_6_1 @s84_6_2))))) (And.intro (And.intro (And.intro (And.intro @s84_6_3 (And.intro @s84_6_4 @s84_6_5)) (And.intro @s84_6_6 (And.intro @x84_29 @r84_7_l))) (And.intro (And.intro @s84_7_0 (And.intro @s84_7_1 @s84_7_2)) (And.intro (And.intro @s84_7_3 @s84_7_4) (And.intro @s84_7_5 @s84_7_6)))) (And.intro (And.intro (And.intro @x84_31 (And.intro @r84_8_l @s84_8_0)) (And.intro @s84_8_1 (And.intro @x84_32 @x84_30))) (And.intro (And.intro @x84_28 (And.intro @x84_26 @x84_15)) (And.intro (And.intro @x84_4 @x84_2) (And.intro @x84_0 @b_84))))))
noncomputable def c23_0 : Code := kBody Proofs.Try.f23
noncomputable def c23_1 : Code := kL c23_0
noncomputable def r23_0 : Array Oper := kO c23_1
noncomputable def o23_0_0 : Oper := opN r23_0 0
noncomputable def o23_0_1 : Oper := opN r23_0 1
theorem x23_1 : execA E C (fg 23) B 57 E0 N c23_1 s = regX (runA E C B 57 r23_0 r23_0.toList s) (fun s => gcM E0 [6, 7] (forget s.1 [6, 7], s.2)) := x_reg (ops := r23_0) (by rfl) (by rfl) s
theorem r23_0_l : r23_0.toList = [o23_0_0, o23_0_1] := nrfl rfl
theorem s23_0_0 : stepA E C B 57 r23_0 o23_0_0 (φ, H) = some (fput φ 6 (.nilsl), H) := nrfl rfl
theorem s23_0_1 : stepA E C B 57 r23_0 o23_0_1 (φ, H) = some (fput φ 7 (.int .i64 0), H) := nrfl rfl
noncomputable def c23_2 : Code := kR c23_0
noncomputable def c23_3 : Code := kL c23_2
noncomputable def r23_1 : Array Oper := kO c23_3
noncomputable def o23_1_0 : Oper := opN r23_1 0
noncomputable def o23_1_1 : Oper := opN r23_1 1
noncomputable def o23_1_2 : Oper := opN r23_1 2
theorem x23_3 : execA E C (fg 23) B 57 E0 N c23_3 s = regX (runA E C B 57 r23_1 r23_1.toList s) (fun s => gcM E0 [9, 10] (forget s.1 [9, 10], s.2)) := x_reg (ops := r23_1) (by rfl) (by rfl) s
theorem r23_1_l : r23_1.toList = [o23_1_0, o23_1_1, o23_1_2] := nrfl rfl
theorem s23_1_0 : stepA E C B 57 r23_1 o23_1_0 (φ, H) = some (fput φ 9 (fget φ 0), H) := nrfl rfl
theorem s23_1_1 : stepA E C B 57 r23_1 o23_1_1 (φ, H) = stp (some 10) φ H (aCall C (fun j => B + j * 57 + 10) true 26 [(fget φ 9)]) := nrfl rfl
theorem s23_1_2 : stepA E C B 57 r23_1 o23_1_2 (φ, H) = some (fput φ 8 (fget φ 10), H) := nrfl rfl
noncomputable def c23_4 : Code := kR c23_2
noncomputable def c23_5 : Code := kL c23_4
noncomputable def c23_6 : Code := kL c23_5
noncomputable def r23_2 : Array Oper := kO c23_6
noncomputable def o23_2_0 : Oper := opN r23_2 0
noncomputable def o23_2_1 : Oper := opN r23_2 1
noncomputable def o23_2_2 : Oper := opN r23_2 2
noncomputable def o23_2_3 : Oper := opN r23_2 3
noncomputable def o23_2_4 : Oper := opN r23_2 4
noncomputable def o23_2_5 : Oper := opN r23_2 5
noncomputable def o23_2_6 : Oper := opN r23_2 6
noncomputable def o23_2_7 : Oper := opN r23_2 7
noncomputable def o23_2_8 : Oper := opN r23_2 8
noncomputable def o23_2_9 : Oper := opN r23_2 9
noncomputable def o23_2_10 : Oper := opN r23_2 10
noncomputable def o23_2_11 : Oper := opN r23_2 11
noncomputable def o23_2_12 : Oper := opN r23_2 12
noncomputable def o23_2_13 : Oper := opN r23_2 13
noncomputable def o23_2_14 : Oper := opN r23_2 14
noncomputable def o23_2_15 : Oper := opN r23_2 15
noncomputable def o23_2_16 : Oper := opN r23_2 16
noncomputable def o23_2_17 : Oper := opN r23_2 17
theorem x23_6 : execA E C (fg 23) B 57 E0 N c23_6 s = regX (runA E C B 57 r23_2 r23_2.toList s) (fun s => gcM E0 [11, 12, 13, 14, 15, 16, 17, 18, 19, 20, 21, 22, 23, 24, 25, 26, 27] (forget s.1 [11, 12, 13, 14, 15, 16, 17, 18, 19, 20, 21, 22, 23, 24, 25, 26, 27], s.2)) := x_reg (ops := r23_2) (by rfl) (by rfl) s
theorem r23_2_l : r23_2.toList = [o23_2_0, o23_2_1, o23_2_2, o23_2_3, o23_2_4, o23_2_5, o23_2_6, o23_2_7, o23_2_8, o23_2_9, o23_2_10, o23_2_11, o23_2_12, o23_2_13, o23_2_14, o23_2_15, o23_2_16, o23_2_17] := nrfl rfl
theorem s23_2_0 : stepA E C B 57 r23_2 o23_2_0 (φ, H) = some (fput φ 11 (fget φ 8), H) := nrfl rfl
theorem s23_2_1 : stepA E C B 57 r23_2 o23_2_1 (φ, H) = stp (some 12) φ H (just (aBin E.T .eql 24 (fget φ 11) (.int .i64 0))) := nrfl rfl
theorem s23_2_2 : stepA E C B 57 r23_2 o23_2_2 (φ, H) = some (fput φ 13 (fget φ 12), H) := nrfl rfl
theorem s23_2_3 : stepA E C B 57 r23_2 o23_2_3 (φ, H) = gd φ 13 true (fun φ => some (fput φ 14 (.tup []), H)) (fun φ => some (fput φ 14 (fget φ 1), H)) := s_gd (j := 2) (oj := o23_2_2) rfl rfl rfl (fun _ => rfl) (fun _ => rfl)
theorem s23_2_4 : stepA E C B 57 r23_2 o23_2_4 (φ, H) = gd φ 13 true (fun φ => some (fput φ 15 (.tup []), H)) (fun φ => some (fput φ 15 (fget φ 0), H)) := s_gd (j := 2) (oj := o23_2_2) rfl rfl rfl (fun _ => rfl) (fun _ => rfl)
theorem s23_2_5 : stepA E C B 57 r23_2 o23_2_5 (φ, H) = gd φ 13 true (fun φ => some (fput φ 16 (.tup []), H)) (fun φ => stp (some 16) φ H (aBuiltin E.T (B + 16) .len #[22] [(fget φ 15)])) := s_gd (j := 2) (oj := o23_2_2) rfl rfl rfl (fun _ => rfl) (fun _ => rfl)
theorem s23_2_6 : stepA E C B 57 r23_2 o23_2_6 (φ, H) = gd φ 13 true (fun φ => some (fput φ 17 (.tup []), H)) (fun φ => stp (some 17) φ H (just (aBin E.T .sub 3 (fget φ 16) (.int .i64 1)))) := s_gd (j := 2) (oj := o23_2_2) rfl rfl rfl (fun _ => rfl) (fun _ => rfl)
theorem s23_2_7 : stepA E C B 57 r23_2 o23_2_7 (φ, H) = gd φ 13 true (fun φ => some (fput φ 18 (.tup []), H)) (fun φ => stp (some 18) φ H (aCall C (fun j => B + j * 57 + 18) true 81 [(fget φ 14), (.int .i64 0), (fget φ 17)])) := s_gd (j := 2) (oj := o23_2_2) rfl rfl rfl (fun _ => rfl) (fun _ => rfl)
theorem s23_2_8 : stepA E C B 57 r23_2 o23_2_8 (φ, H) = gd φ 13 true (fun φ => some (fput φ 19 (.tup []), H)) (fun φ => stp (some 19) φ H (justO (aUn .not (fget φ 18)))) := s_gd (j := 2) (oj := o23_2_2) rfl rfl rfl (fun _ => rfl) (fun _ => rfl)
theorem s23_2_9 : stepA E C B 57 r23_2 o23_2_9 (φ, H) = gd φ 13 true (fun φ => some (fput φ 20 (.tup []), H)) (fun φ => some (fput φ 20 (fget φ 19), H)) := s_gd (j := 2) (oj := o23_2_2) rfl rfl rfl (fun _ => rfl) (fun _ => rfl)
theorem s23_2_10 : stepA E C B 57 r23_2 o23_2_10 (φ, H) = gd φ 20 false (fun φ => some (fput φ 21 (.tup []), H)) (fun φ => some (fput φ 21 (fget φ 2), H)) := s_gd (j := 9) (oj := o23_2_9) rfl rfl rfl (fun _ => rfl) (fun _ => rfl)
theorem s23_2_11 : stepA E C B 57 r23_2 o23_2_11 (φ, H) = gd φ 20 false (fun φ => some (fput φ 22 (.tup []), H)) (fun φ => some (fput φ 22 (fget φ 0), H)) := s_gd (j := 9) (oj := o23_2_9) rfl rfl rfl (fun _ => rfl) (fun _ => rfl)
theorem s23_2_12 : stepA E C B 57 r23_2 o23_2_12 (φ, H) = gd φ 20 false (fun φ => some (fput φ 23 (.tup []), H)) (fun φ => stp (some 23) φ H (aBuiltin E.T (B + 23) .len #[22] [(fget φ 22)])) := s_gd (j := 9) (oj := o23_2_9) rfl rfl rfl (fun _ => rfl) (fun _ => rfl)
theorem s23_2_13 : stepA E C B 57 r23_2 o23_2_13 (φ, H) = gd φ 20 false (fun φ => some (fput φ 24 (.tup []), H)) (fun φ => stp (some 24) φ H (just (aBin E.T .sub 3 (fget φ 23) (.int .i64 1)))) := s_gd (j := 9) (oj := o23_2_9) rfl rfl rfl (fun _ => rfl) (fun _ => rfl)
theorem s23_2_14 : stepA E C B 57 r23_2 o23_2_14 (φ, H) = gd φ 20 false (fun φ => some (fput φ 25 (.tup []), H)) (fun φ => stp (some 25) φ H (aCall C (fun j => B + j * 57 + 25) true 81 [(fget φ 21), (.int .i64 0), (fget φ 24)])) := s_gd (j := 9) (oj := o23_2_9) rfl rfl rfl (fun _ => rfl) (fun _ => rfl)
theorem s23_2_15 : stepA E C B 57 r23_2 o23_2_15 (φ, H) = gd φ 20 false (fun φ => some (fput φ 26 (.tup []), H)) (fun φ => stp (some 26) φ H (justO (aUn .not (fget φ 25)))) := s_gd (j := 9) (oj := o23_2_9) rfl rfl rfl (fun _ => rfl) (fun _ => rfl)
theorem s23_2_16 : stepA E C B 57 r23_2 o23_2_16 (φ, H) = gd φ 13 true (fun φ => some (fput φ 27 (.tup []), H)) (fun φ => stp (some 27) φ H (opPick (fget φ 20) (.bool true) (fget φ 26))) := s_gd (j := 2) (oj := o23_2_2) rfl rfl rfl (fun _ => rfl) (fun _ => rfl)
theorem s23_2_17 : stepA E C B 57 r23_2 o23_2_17 (φ, H) = stp (some 28) φ H (opPick (fget φ 13) (fget φ 27) (.bool false)) := nrfl rfl
noncomputable def c23_7 : Code := kR c23_5
noncomputable def c23_8 : Code := kT c23_7
noncomputable def r23_3 : Array Oper := kO c23_8
noncomputable def o23_3_0 : Oper := opN r23_3 0
theorem x23_8 : execA E C (fg 23) B 57 E0 N c23_8 s = regX (runA E C B 57 r23_3 r23_3.toList s) (fun s => gcM E0 [28] (forget s.1 [28], s.2)) := x_reg (ops := r23_3) (by rfl) (by rfl) s
theorem r23_3_l : r23_3.toList = [o23_3_0] := nrfl rfl
theorem s23_3_0 : stepA E C B 57 r23_3 o23_3_0 (φ, H) = some (fput φ 8 (.int .i64 2), H) := nrfl rfl
noncomputable def c23_9 : Code := kE c23_7
theorem x23_9 : execA E C (fg 23) B 57 E0 N c23_9 s = some (.normal, s) := x_skip (by rfl) s
theorem x23_7 : execA E C (fg 23) B 57 E0 N c23_7 (φ, H) = condX (fget φ 28) (execA E C (fg 23) B 57 E0 N c23_8 (φ, H)) (execA E C (fg 23) B 57 E0 N c23_9 (φ, H)) := x_cond (by rfl) _
theorem x23_5 : execA E C (fg 23) B 57 E0 N c23_5 s = seqX (execA E C (fg 23) B 57 E0 N c23_6 s) (execA E C (fg 23) B 57 E0 N c23_7) := x_seq (by rfl) s
noncomputable def c23_10 : Code := kR c23_4
noncomputable def c23_11 : Code := kL c23_10
noncomputable def c23_12 : Code := kL c23_11
noncomputable def r23_4 : Array Oper := kO c23_12
noncomputable def o23_4_0 : Oper := opN r23_4 0
noncomputable def o23_4_1 : Oper := opN r23_4 1
noncomputable def o23_4_2 : Oper := opN r23_4 2
noncomputable def o23_4_3 : Oper := opN r23_4 3
noncomputable def o23_4_4 : Oper := opN r23_4 4
noncomputable def o23_4_5 : Oper := opN r23_4 5
noncomputable def o23_4_6 : Oper := opN r23_4 6
theorem x23_12 : execA E C (fg 23) B 57 E0 N c23_12 s = regX (runA E C B 57 r23_4 r23_4.toList s) (fun s => gcM E0 [28, 29, 30, 31, 32, 33, 34] (forget s.1 [28, 29, 30, 31, 32, 33, 34], s.2)) := x_reg (ops := r23_4) (by rfl) (by rfl) s
theorem r23_4_l : r23_4.toList = [o23_4_0, o23_4_1, o23_4_2, o23_4_3, o23_4_4, o23_4_5, o23_4_6] := nrfl rfl
theorem s23_4_0 : stepA E C B 57 r23_4 o23_4_0 (φ, H) = some (fput φ 29 (fget φ 8), H) := nrfl rfl
theorem s23_4_1 : stepA E C B 57 r23_4 o23_4_1 (φ, H) = stp (some 30) φ H (just (aBin E.T .eql 24 (fget φ 29) (.int .i64 0))) := nrfl rfl
theorem s23_4_2 : stepA E C B 57 r23_4 o23_4_2 (φ, H) = some (fput φ 31 (fget φ 30), H) := nrfl rfl
theorem s23_4_3 : stepA E C B 57 r23_4 o23_4_3 (φ, H) = gd φ 31 true (fun φ => some (fput φ 32 (.tup []), H)) (fun φ => some (fput φ 32 (fget φ 1), H)) := s_gd (j := 2) (oj := o23_4_2) rfl rfl rfl (fun _ => rfl) (fun _ => rfl)
theorem s23_4_4 : stepA E C B 57 r23_4 o23_4_4 (φ, H) = gd φ 31 true (fun φ => some (fput φ 33 (.tup []), H)) (fun φ => some (fput φ 33 (fget φ 2), H)) := s_gd (j := 2) (oj := o23_4_2) rfl rfl rfl (fun _ => rfl) (fun _ => rfl)
theorem s23_4_5 : stepA E C B 57 r23_4 o23_4_5 (φ, H) = gd φ 31 true (fun φ => some (fput φ 34 (.tup []), H)) (fun φ => stp (some 34) φ H (just (aBin E.T .geq 3 (fget φ 32) (fget φ 33)))) := s_gd (j := 2) (oj := o23_4_2) rfl rfl rfl (fun _ => rfl) (fun _ => rfl)
theorem s23_4_6 : stepA E C B 57 r23_4 o23_4_6 (φ, H) = stp (some 35) φ H (opPick (fget φ 31) (fget φ 34) (.bool false)) := nrfl rfl
noncomputable def c23_13 : Code := kR c23_11
noncomputable def c23_14 : Code := kT c23_13
noncomputable def r23_5 : Array Oper := kO c23_14
noncomputable def o23_5_0 : Oper := opN r23_5 0
theorem x23_14 : execA E C (fg 23) B 57 E0 N c23_14 s = regX (runA E C B 57 r23_5 r23_5.toList s) (fun s => gcM E0 [35] (forget s.1 [35], s.2)) := x_reg (ops := r23_5) (by rfl) (by rfl) s
theorem r23_5_l : r23_5.toList = [o23_5_0] := nrfl rfl
theorem s23_5_0 : stepA E C B 57 r23_5 o23_5_0 (φ, H) = some (fput φ 8 (.int .i64 7), H) := nrfl rfl
noncomputable def c23_15 : Code := kE c23_13
theorem x23_15 : execA E C (fg 23) B 57 E0 N c23_15 s = some (.normal, s) := x_skip (by rfl) s
theorem x23_13 : execA E C (fg 23) B 57 E0 N c23_13 (φ, H) = condX (fget φ 35) (execA E C (fg 23) B 57 E0 N c23_14 (φ, H)) (execA E C (fg 23) B 57 E0 N c23_15 (φ, H)) := x_cond (by rfl) _
theorem x23_11 : execA E C (fg 23) B 57 E0 N c23_11 s = seqX (execA E C (fg 23) B 57 E0 N c23_12 s) (execA E C (fg 23) B 57 E0 N c23_13) := x_seq (by rfl) s
noncomputable def c23_16 : Code := kR c23_10
noncomputable def c23_17 : Code := kL c23_16
noncomputable def c23_18 : Code := kL c23_17
noncomputable def r23_6 : Array Oper := kO c23_18
noncomputable def o23_6_0 : Oper := opN r23_6 0
noncomputable def o23_6_1 : Oper := opN r23_6 1
noncomputable def o23_6_2 : Oper := opN r23_6 2
noncomputable def o23_6_3 : Oper := opN r23_6 3
noncomputable def o23_6_4 : Oper := opN r23_6 4
noncomputable def o23_6_5 : Oper := opN r23_6 5
noncomputable def o23_6_6 : Oper := opN r23_6 6
noncomputable def o23_6_7 : Oper := opN r23_6 7
noncomputable def o23_6_8 : Oper := opN r23_6 8
noncomputable def o23_6_9 : Oper := opN r23_6 9
noncomputable def o23_6_10 : Oper := opN r23_6 10
noncomputable def o23_6_11 : Oper := opN r23_6 11
noncomputable def o23_6_12 : Oper := opN r23_6 12
noncomputable def o23_6_13 : Oper := opN r23_6 13
theorem x23_18 : execA E C (fg 23) B 57 E0 N c23_18 s = regX (drawA E C B 57 r23_6 s) (fun s => gcM E0 [35, 36, 37, 38, 39, 40, 41, 42, 43, 44, 45, 46, 47, 48] (forget s.1 [35, 36, 37, 38, 39, 40, 41, 42, 43, 44, 45, 46, 47, 48], s.2)) := x_draw (ops := r23_6) (by rfl) (by rfl) s
theorem r23_6_l : r23_6.toList = [o23_6_0, o23_6_1, o23_6_2, o23_6_3, o23_6_4, o23_6_5, o23_6_6, o23_6_7, o23_6_8, o23_6_9, o23_6_10, o23_6_11, o23_6_12, o23_6_13] := nrfl rfl
theorem r23_6_st : statOk r23_6 = true := by kernel_rfl
theorem r23_6_dr : drawA E C B 57 r23_6 s = if neat 57 s = true then drX r23_6 (runT E C B 57 r23_6 r23_6.toList 0 s) else none := draw_eq r23_6_st s
theorem r23_6_an (l : List (Nat × Tr)) : dynOk r23_6 l = (!writing l || dynPairs [[], [0], [0, 1], [0, 1, 2], [0, 1, 2], [0, 1, 2, 3, 4], [0, 1, 2, 3, 4, 5], [0, 1, 2], [0, 1, 2], [0, 1, 2, 7, 8], [0, 1, 2, 7, 8, 9], [0, 1, 2, 3, 4, 5, 6, 7, 8, 9, 10], [0, 1, 2, 3, 4, 5, 6, 7, 8, 9, 10, 11], [0, 1, 2, 3, 4, 5, 6, 7, 8, 9, 10, 11, 12]] (touching l)) := dynOk_eq (by kernel_rfl) l
theorem s23_6_0 : stepT E C B 57 r23_6 o23_6_0 (φ, H) = some ((fput φ 36 (fget φ 8), H), ⟨false, [], []⟩) := stT_go rfl (goT_mv rfl rfl)
theorem s23_6_1 : stepT E C B 57 r23_6 o23_6_1 (φ, H) = stpT (some 37) φ H (just (aBin E.T .eql 24 (fget φ 36) (.int .i64 0))) := stT_go rfl (goT_R rfl rfl)
theorem s23_6_2 : stepT E C B 57 r23_6 o23_6_2 (φ, H) = some ((fput φ 38 (fget φ 37), H), ⟨false, [], []⟩) := stT_go rfl (goT_mv rfl rfl)
theorem s23_6_3 : stepT E C B 57 r23_6 o23_6_3 (φ, H) = gdT φ 38 true (fun φ => (some (fput φ 39 (.tup []), H)).map fun s => (s, ⟨false, [], []⟩)) (fun φ => some ((fput φ 39 (fget φ 0), H), ⟨false, [], []⟩)) := stT_gd (j := 2) (oj := o23_6_2) rfl rfl rfl (fun _ => rfl) (fun _ => goT_mv rfl rfl)
theorem s23_6_4 : stepT E C B 57 r23_6 o23_6_4 (φ, H) = gdT φ 38 true (fun φ => (some (fput φ 40 (.tup []), H)).map fun s => (s, ⟨false, [], []⟩)) (fun φ => some ((fput φ 40 (fget φ 1), H), ⟨false, [], []⟩)) := stT_gd (j := 2) (oj := o23_6_2) rfl rfl rfl (fun _ => rfl) (fun _ => goT_mv rfl rfl)
theorem s23_6_5 : stepT E C B 57 r23_6 o23_6_5 (φ, H) = gdT φ 38 true (fun φ => (some (fput φ 41 (.tup []), H)).map fun s => (s, ⟨false, [], []⟩)) (fun φ => stpT (some 41) φ H (just (aIndexAddr E.T 22 (fget φ 39) (fget φ 40)))) := stT_gd (j := 2) (oj := o23_6_2) rfl rfl rfl (fun _ => rfl) (fun _ => goT_R rfl rfl)
theorem s23_6_6 : stepT E C B 57 r23_6 o23_6_6 (φ, H) = gdT φ 38 true (fun φ => (some (fput φ 42 (.tup []), H)).map fun s => (s, ⟨false, [], []⟩)) (fun φ => stpT (some 42) φ H (just (aLoad E.T 3 (fget φ 41)))) := stT_gd (j := 2) (oj := o23_6_2) rfl rfl rfl (fun _ => rfl) (fun _ => goT_R rfl rfl)
theorem s23_6_7 : stepT E C B 57 r23_6 o23_6_7 (φ, H) = gdT φ 38 true (fun φ => (some (fput φ 43 (.tup []), H)).map fun s => (s, ⟨false, [], []⟩)) (fun φ => some ((fput φ 43 (fget φ 0), H), ⟨false, [], []⟩)) := stT_gd (j := 2) (oj := o23_6_2) rfl rfl rfl (fun _ => rfl) (fun _ => goT_mv rfl rfl)
theorem s23_6_8 : stepT E C B 57 r23_6 o23_6_8 (φ, H) = gdT φ 38 true (fun φ => (some (fput φ 44 (.tup []), H)).map fun s => (s, ⟨false, [], []⟩)) (fun φ => some ((fput φ 44 (fget φ 2), H), ⟨false, [], []⟩)) := stT_gd (j := 2) (oj := o23_6_2) rfl rfl rfl (fun _ => rfl) (fun _ => goT_mv rfl rfl)
theorem s23_6_9 : stepT E C B 57 r23_6 o23_6_9 (φ, H) = gdT φ 38 true (fun φ => (some (fput φ 45 (.tup []), H)).map fun s => (s, ⟨false, [], []⟩)) (fun φ => stpT (some 45) φ H (just (aIndexAddr E.T 22 (fget φ 43) (fget φ 44)))) := stT_gd (j := 2) (oj := o23_6_2) rfl rfl rfl (fun _ => rfl) (fun _ => goT_R rfl rfl)
theorem s23_6_10 : stepT E C B 57 r23_6 o23_6_10 (φ, H) = gdT φ 38 true (fun φ => (some (fput φ 46 (.tup []), H)).map fun s => (s, ⟨false, [], []⟩)) (fun φ => stpT (some 46) φ H (just (aLoad E.T 3 (fget φ 45)))) := stT_gd (j := 2) (oj := o23_6_2) rfl rfl rfl (fun _ => rfl) (fun _ => goT_R rfl rfl)
theorem s23_6_11 : stepT E C B 57 r23_6 o23_6_11 (φ, H) = gdT φ 38 true (fun φ => (some (fput φ 47 (.tup []), H)).map fun s => (s, ⟨false, [], []⟩)) (fun φ => stpT (some 47) φ H (just (aBin E.T .sub 3 (fget φ 42) (fget φ 46)))) := stT_gd (j := 2) (oj := o23_6_2) rfl rfl rfl (fun _ => rfl) (fun _ => goT_R rfl rfl)
theorem s23_6_12 : stepT E C B 57 r23_6 o23_6_12 (φ, H) = gdT φ 38 true (fun φ => (some (fput φ 48 (.tup []), H)).map fun s => (s, ⟨false, [], []⟩)) (fun φ => stpT (some 48) φ H (just (aBin E.T .lss 3 (fget φ 47) (.int .i64 2)))) := stT_gd (j := 2) (oj := o23_6_2) rfl rfl rfl (fun _ => rfl) (fun _ => goT_R rfl rfl)
theorem s23_6_13 : stepT E C B 57 r23_6 o23_6_13 (φ, H) = stpT (some 49) φ H (opPick (fget φ 38) (fget φ 48) (.bool false)) := stT_go rfl (goT_R rfl rfl)
noncomputable def c23_19 : Code := kR c23_17
noncomputable def c23_20 : Code := kT c23_19
noncomputable def r23_7 : Array Oper := kO c23_20
noncomputable def o23_7_0 : Oper := opN r23_7 0
theorem x23_20 : execA E C (fg 23) B 57 E0 N c23_20 s = regX (runA E C B 57 r23_7 r23_7.toList s) (fun s => gcM E0 [49] (forget s.1 [49], s.2)) := x_reg (ops := r23_7) (by rfl) (by rfl) s
theorem r23_7_l : r23_7.toList = [o23_7_0] := nrfl rfl
theorem s23_7_0 : stepA E C B 57 r23_7 o23_7_0 (φ, H) = some (fput φ 8 (.int .i64 13), H) := nrfl rfl
noncomputable def c23_21 : Code := kE c23_19
theorem x23_21 : execA E C (fg 23) B 57 E0 N c23_21 s = some (.normal, s) := x_skip (by rfl) s
theorem x23_19 : execA E C (fg 23) B 57 E0 N c23_19 (φ, H) = condX (fget φ 49) (execA E C (fg 23) B 57 E0 N c23_20 (φ, H)) (execA E C (fg 23) B 57 E0 N c23_21 (φ, H)) := x_cond (by rfl) _
theorem x23_17 : execA E C (fg 23) B 57 E0 N c23_17 s = seqX (execA E C (fg 23) B 57 E0 N c23_18 s) (execA E C (fg 23) B 57 E0 N c23_19) := x_seq (by rfl) s
noncomputable def c23_22 : Code := kR c23_16
noncomputable def c23_23 : Code := kL c23_22
noncomputable def c23_24 : Code := kL c23_23
noncomputable def r23_8 : Array Oper := kO c23_24
noncomputable def o23_8_0 : Oper := opN r23_8 0
noncomputable def o23_8_1 : Oper := opN r23_8 1
theorem x23_24 : execA E C (fg 23) B 57 E0 N c23_24 s = regX (runA E C B 57 r23_8 r23_8.toList s) (fun s => gcM E0 [49, 50] (forget s.1 [49, 50], s.2)) := x_reg (ops := r23_8) (by rfl) (by rfl) s
theorem r23_8_l : r23_8.toList = [o23_8_0, o23_8_1] := nrfl rfl
theorem s23_8_0 : stepA E C B 57 r23_8 o23_8_0 (φ, H) = some (fput φ 50 (fget φ 8), H) := nrfl rfl
theorem s23_8_1 : stepA E C B 57 r23_8 o23_8_1 (φ, H) = stp (some 51) φ H (just (aBin E.T .neq 24 (fget φ 50) (.int .i64 0))) := nrfl rfl
noncomputable def c23_25 : Code := kR c23_23
noncomputable def c23_26 : Code := kT c23_25
noncomputable def c23_27 : Code := kL c23_26
noncomputable def r23_9 : Array Oper := kO c23_27
noncomputable def o23_9_0 : Oper := opN r23_9 0
noncomputable def o23_9_1 : Oper := opN r23_9 1
noncomputable def o23_9_2 : Oper := opN r23_9 2
theorem x23_27 : execA E C (fg 23) B 57 E0 N c23_27 s = regX (runA E C B 57 r23_9 r23_9.toList s) (fun s => gcM E0 [0, 1, 2, 8, 51, 52] (forget s.1 [0, 1, 2, 8, 51, 52], s.2)) := x_reg (ops := r23_9) (by rfl) (by rfl) s
theorem r23_9_l : r23_9.toList = [o23_9_0, o23_9_1, o23_9_2] := nrfl rfl
theorem s23_9_0 : stepA E C B 57 r23_9 o23_9_0 (φ, H) = some (fput φ 52 (fget φ 8), H) := nrfl rfl
theorem s23_9_1 : stepA E C B 57 r23_9 o23_9_1 (φ, H) = some (fput φ 6 (.nilsl), H) := nrfl rfl
theorem s23_9_2 : stepA E C B 57 r23_9 o23_9_2 (φ, H) = some (fput φ 7 (fget φ 52), H) := nrfl rfl
noncomputable def c23_28 : Code := kR c23_26
theorem x23_28 : execA E C (fg 23) B 57 E0 N c23_28 s = some (.ret, s) := x_ret (by rfl) s
theorem x23_26 : execA E C (fg 23) B 57 E0 N c23_26 s = seqX (execA E C (fg 23) B 57 E0 N c23_27 s) (execA E C (fg 23) B 57 E0 N c23_28) := x_seq (by rfl) s
noncomputable def c23_29 : Code := kE c23_25
theorem x23_29 : execA E C (fg 23) B 57 E0 N c23_29 s = some (.normal, s) := x_skip (by rfl) s
theorem x23_25 : execA E C (fg 23) B 57 E0 N c23_25 (φ, H) = condX (fget φ 51) (execA E C (fg 23) B 57 E0 N c23_26 (φ, H)) (execA E C (fg 23) B 57 E0 N c23_29 (φ, H)) := x_cond (by rfl) _
theorem x23_23 : execA E C (fg 23) B 57 E0 N c23_23 s = seqX (execA E C (fg 23) B 57 E0 N c23_24 s) (execA E C (fg 23) B 57 E0 N c23_25) := x_seq (by rfl) s
noncomputable def c23_30 : Code := kR c23_22
noncomputable def c23_31 : Code := kL c23_30
noncomputable def r23_10 : Array Oper := kO c23_31
noncomputable def o23_10_0 : Oper := opN r23_10 0
noncomputable def o23_10_1 : Oper := opN r23_10 1
noncomputable def o23_10_2 : Oper := opN r23_10 2
noncomputable def o23_10_3 : Oper := opN r23_10 3
noncomputable def o23_10_4 : Oper := opN r23_10 4
noncomputable def o23_10_5 : Oper := opN r23_10 5
theorem x23_31 : execA E C (fg 23) B 57 E0 N c23_31 s = regX (runA E C B 57 r23_10 r23_10.toList s) (fun s => gcM E0 [0, 1, 2, 8, 51, 53, 54, 55, 56] (forget s.1 [0, 1, 2, 8, 51, 53, 54, 55, 56], s.2)) := x_reg (ops := r23_10) (by rfl) (by rfl) s
theorem r23_10_l : r23_10.toList = [o23_10_0, o23_10_1, o23_10_2, o23_10_3, o23_10_4, o23_10_5] := nrfl rfl
theorem s23_10_0 : stepA E C B 57 r23_10 o23_10_0 (φ, H) = some (fput φ 53 (fget φ 0), H) := nrfl rfl
theorem s23_10_1 : stepA E C B 57 r23_10 o23_10_1 (φ, H) = some (fput φ 54 (fget φ 1), H) := nrfl rfl
theorem s23_10_2 : stepA E C B 57 r23_10 o23_10_2 (φ, H) = some (fput φ 55 (fget φ 2), H) := nrfl rfl
theorem s23_10_3 : stepA E C B 57 r23_10 o23_10_3 (φ, H) = stp (some 56) φ H (aCall C (fun j => B + j * 57 + 56) true 84 [(fget φ 53), (fget φ 54), (fget φ 55)]) := nrfl rfl
theorem s23_10_4 : stepA E C B 57 r23_10 o23_10_4 (φ, H) = some (fput φ 6 (fget φ 56), H) := nrfl rfl
theorem s23_10_5 : stepA E C B 57 r23_10 o23_10_5 (φ, H) = some (fput φ 7 (.int .i64 0), H) := nrfl rfl
noncomputable def c23_32 : Code := kR c23_30
theorem x23_32 : execA E C (fg 23) B 57 E0 N c23_32 s = some (.ret, s) := x_ret (by rfl) s
theorem x23_30 : execA E C (fg 23) B 57 E0 N c23_30 s = seqX (execA E C (fg 23) B 57 E0 N c23_31 s) (execA E C (fg 23) B 57 E0 N c23_32) := x_seq (by rfl) s
theorem x23_22 : execA E C (fg 23) B 57 E0 N c23_22 s = seqX (execA E C (fg 23) B 57 E0 N c23_23 s) (execA E C (fg 23) B 57 E0 N c23_30) := x_seq (by rfl) s
theorem x23_16 : execA E C (fg 23) B 57 E0 N c23_16 s = seqX (execA E C (fg 23) B 57 E0 N c23_17 s) (execA E C (fg 23) B 57 E0 N c23_22) := x_seq (by rfl) s
theorem x23_10 : execA E C (fg 23) B 57 E0 N c23_10 s = seqX (execA E C (fg 23) B 57 E0 N c23_11 s) (execA E C (fg 23) B 57 E0 N c23_16) := x_seq (by rfl) s
theorem x23_4 : execA E C (fg 23) B 57 E0 N c23_4 s = seqX (execA E C (fg 23) B 57 E0 N c23_5 s) (execA E C (fg 23) B 57 E0 N c23_10) := x_seq (by rfl) s
theorem x23_2 : execA E C (fg 23) B 57 E0 N c23_2 s = seqX (execA E C (fg 23) B 57 E0 N c23_3 s) (execA E C (fg 23) B 57 E0 N c23_4) := x_seq (by rfl) s
theorem x23_0 : execA E C (fg 23) B 57 E0 N c23_0 s = seqX (execA E C (fg 23) B 57 E0 N c23_1 s) (execA E C (fg 23) B 57 E0 N c23_2) := x_seq (by rfl) s
theorem fi_23 : fInfo E 23 = some ⟨57, #[.tmp 6, .tmp 7], c23_0⟩ := nrfl rfl
theorem b_23 (args : List AV) : bodyA E C fg N 23 args H B = bodyX E [.tmp 6, .tmp 7] (execA E C (fg 23) B 57 H N c23_0 (frame0 args 0 [], H)) := bodyA_eq fi_23 args H
abbrev F_23 := And.intro (And.intro (And.intro (And.intro (And.intro (And.intro @x23_1 (And.intro @r23_0_l @s23_0_0)) (And.intro @s23_0_1 (And.intro @x23_3 @r23_1_l))) (And.intro (And.intro @s23_1_0 (And.intro @s23_1_1 @s23_1_2)) (And.intro (And.intro @x23_6 @r23_2_l) (And.intro @s23_2_0 @s23_2_1)))) (And.intro (And.intro (And.intro @s23_2_2 (And.intro @s23_2_3 @s23_2_4)) (And.intro @s23_2_5 (And.intro @s23_2_6 @s23_2_7))) (And.intro (And.intro @s23_2_8 (And.intro @s23_2_9 @s23_2_10)) (And.intro (And.intro @s23_2_11 @s23_2_12) (And.intro @s23_2_13 @s23_2_14))))) (And.intro (And.intro (And.intro (And.intro @s23_2_15 (And.intro @s23_2_16 @s23_2_17)) (And.intro @x23_8 (And.intro @r23_3_l @s23_3_0))) (And.intro (And.intro @x23_9 (And.intro @x23_7 @x23_5)) (And.intro (And.intro @x23_12 @r23_4_l) (And.intro @s23_4_0 @s23_4_1)))) (And.intro (And.intro (And.intro @s23_4_2 (And.intro @s23_4_3 @s23_4_4)) (And.intro @s23_4_5 (And.intro @s23_4_6 @x23_14))) (And.intro (And.intro @r23_5_l (And.intro @s23_5_0 @x23_15)) (And.intro (And.intro @x23_13 @x23_11) (And.intro @x23_18 @r23_6_l)))))) (And.intro (And.intro (And.intro (And.intro (And.intro @r23_6_dr (And.intro @r23_6_an @s23_6_0)) (And.intro @s23_6_1 (And.intro @s23_6_2 @s23_6_3))) (And.intro (And.intro @s23_6_4 (And.intro @s23_6_5 @s23_6_6)) (And.intro (And.intro @s23_6_7 @s23_6_8) (And.intro @s23_6_9 @s23_6_10)))) (And.intro (And.intro (And.intro @s23_6_11 (And.intro @s23_6_12 @s23_6_13)) (And.intro @x23_20 (And.intro @r23_7_l @s23_7_0))) (And.intro (And.intro @x23_21 (And.intro @x23_19 @x23_17)) (And.intro (And.intro @x23_24 @r23_8_l) (And.intro @s23_8_0 @s23_8_1))))) (And.intro (And.intro (And.intro (And.intro @x23_27 (And.intro @r23_9_l @s23_9_0)) (And.intro @s23_9_1 (And.intro @s23_9_2 @x23_28))) (And.intro (And.intro @x23_26 (And.intro @x23_29 @x23_25)) (And.intro (And.intro @x23_23 @x23_31) (And.intro @r23_10_l @s23_10_0)))) (And.intro (And.intro (And.intro @s23_10_1 (And.intro @s23_10_2 @s23_10_3)) (And.intro (And.intro @s23_10_4 @s23_10_5) (And.intro @x23_32 @x23_30))) (And.intro (And.intro @x23_22 (And.intro @x23_16 @x23_10)) (And.intro (And.intro @x23_4 @x23_2) (And.intro @x23_0 @b_23))))))
end Go.AM.Ytfmnoohhhokicaa
end

section
namespace Go.AM.Ytfmnoohhhokicaa
open Go Go.AM Go.AM.Rub
set_option maxRecDepth 100000
set_option maxHeartbeats 4000000
def chE (l : List Int) (i : Nat) : Int := if rowF l i < 0 ∨ rowF l i > 8 then 1 else if 0 < i ∧ rowF l i > rowF l (i - 1) then 7 else 0
def chkR (l : List Int) : Int := if l.length = 0 then 4 else if l.length > 6 then 3 else fe (chE l) 0 l.length
theorem chkR_zero {l : List Int} : chkR l = 0 ↔ 0 < l.length ∧ l.length ≤ 6 ∧ Rw l.length l := by
  unfold chkR
  split
  · rename_i h; exact ⟨fun e => absurd e (by decide), fun e => by omega⟩
  · split
    · rename_i h; exact ⟨fun e => absurd e (by decide), fun e => by omega⟩
    · rename_i h1 h2
      rw [fe_zero]
      constructor
      · intro h
        have h0 : ∀ i, i < l.length → 0 ≤ rowF l i ∧ rowF l i ≤ 8 ∧ (0 < i → rowF l i ≤ rowF l (i - 1)) := by
          intro i hi
          have := h i (by omega) (by omega)
          unfold chE at this
          split at this
          · exact absurd this (by decide)
          · split at this
            · exact absurd this (by decide)
            · rename_i a b
              exact ⟨by omega, by omega, fun hp => Int.not_lt.1 fun hh => b ⟨hp, hh⟩⟩
        refine ⟨by omega, by omega, rfl, isRow_of (fun i hi => (h0 i hi).1) (fun hp => (h0 0 hp).2.1) fun i hi => ?_⟩
        have := (h0 (i + 1) hi).2.2 (by omega)
        simpa using this
      · rintro ⟨_, _, hr⟩ i _ hi
        have hb := rw_b hr (k := i) (by omega)
        unfold chE
        rw [if_neg (by omega), if_neg]
        rintro ⟨hp, hlt⟩
        have := row_desc hr.row (i - 1) (by omega)
        rw [show i - 1 + 1 = i by omega] at this
        omega
abbrev chS (l : List Int) (ex : Bool) (i : Nat) : St := ([(15, .int .i64 i), (14, .int .i64 l.length), (13, .imm (ics l) l.length ex), (0, .imm (ics l) l.length ex)], [])
theorem ch_go {C : Callee} {l : List Int} {ex : Bool} (h6 : l.length ≤ 6) (i : Nat) (hi : i < l.length) (he : chE l i = 0) :
    ∃ s', (execA E C (fg 25) 0 40 [] 1000000 c25_22) (chS l ex i) = some (.normal, s') ∧ headA [] s' = chS l ex (i + 1) := by
  have hlen := ics_length l
  have hat := icr_at hi
  have hat1 := icr_at (l := l) (k := i - 1) (by omega)
  have g1 : (i : Int) < l.length := by omega
  unfold chE at he
  split at he
  · exact absurd he (by decide)
  · split at he
    · exact absurd he (by decide)
    · rename_i a b
      have a1 : ¬ rowF l i < 0 := by omega
      have a2 : ¬ rowF l i > 8 := by omega
      rcases Nat.eq_zero_or_pos i with hz | hp
      · subst hz
        simp (disch := omega) only [ZF, ↓gd, stp, opPick, just, Rd.bind, Rd.run, Rd.opt, upds, tsz, rdCells, aLoad, aIndexAddr, aNum, aBin, aInt, Nat.reduceLT, Nat.reduceBEq, Nat.reduceEqDiff, Nat.reduceLeDiff, ↓reduceIte, reduceCtorEq, Int.reduceLE, Int.reduceToNat, ZT, F_25, hat, hlen, a1, a2, cl0, if_pos]
        exact ⟨_, rfl, rfl⟩
      · have b1 : ¬ rowF l i > rowF l (i - 1) := fun hh => b ⟨hp, hh⟩
        have g2 : (i : Int) > 0 := by omega
        have w1 : wrp .i64 ((i : Int) - 1) = ((i - 1 : Nat) : Int) := by rw [wrp64 (by omega)]; omega
        have g3 : ((i - 1 : Nat) : Int) < l.length := by omega
        simp (disch := omega) only [ZF, ↓gd, stp, opPick, just, Rd.bind, Rd.run, Rd.opt, upds, tsz, rdCells, aLoad, aIndexAddr, aNum, aBin, aInt, Nat.reduceLT, Nat.reduceBEq, Nat.reduceEqDiff, Nat.reduceLeDiff, ↓reduceIte, reduceCtorEq, ZT, F_25, g1, g2, g3, hat, hat1, hlen, a1, a2, b1, w1, wrp_succ (show i < 1000000 by omega)]
        exact ⟨_, rfl, rfl⟩
theorem ch_bad {C : Callee} {l : List Int} {ex : Bool} (h6 : l.length ≤ 6) (i : Nat) (hi : i < l.length) (he : chE l i ≠ 0) :
    ∃ H, (execA E C (fg 25) 0 40 [] 1000000 c25_22) (chS l ex i) = some (.ret, ([(2, .int .i64 (chE l i))], H)) := by
  have hlen := ics_length l
  have hat := icr_at hi
  have hat1 := icr_at (l := l) (k := i - 1) (by omega)
  have g1 : (i : Int) < l.length := by omega
  unfold chE at he ⊢
  by_cases a : rowF l i < 0 ∨ rowF l i > 8
  · rw [if_pos a]
    rcases a with a | a
    · simp (disch := omega) only [ZF, ↓gd, stp, opPick, just, Rd.bind, Rd.run, Rd.opt, upds, tsz, rdCells, aLoad, aIndexAddr, aNum, aBin, aInt, Nat.reduceLT, Nat.reduceBEq, Nat.reduceEqDiff, Nat.reduceLeDiff, ↓reduceIte, reduceCtorEq, ZT, F_25, g1, hat, hlen, a]
      exact ⟨_, rfl⟩
    · have a1 : ¬ rowF l i < 0 := by omega
      simp (disch := omega) only [ZF, ↓gd, stp, opPick, just, Rd.bind, Rd.run, Rd.opt, upds, tsz, rdCells, aLoad, aIndexAddr, aNum, aBin, aInt, Nat.reduceLT, Nat.reduceBEq, Nat.reduceEqDiff, Nat.reduceLeDiff, ↓reduceIte, reduceCtorEq, ZT, F_25, g1, hat, hlen, a, a1]
      exact ⟨_, rfl⟩
  · rw [if_neg a] at he ⊢
    have a1 : ¬ rowF l i < 0 := by omega
    have a2 : ¬ rowF l i > 8 := by omega
    by_cases b : 0 < i ∧ rowF l i > rowF l (i - 1)
    · rw [if_pos b]
      obtain ⟨hp, b⟩ := b
      have g2 : (i : Int) > 0 := by omega
      have w1 : wrp .i64 ((i : Int) - 1) = ((i - 1 : Nat) : Int) := by rw [wrp64 (by omega)]; omega
      have g3 : ((i - 1 : Nat) : Int) < l.length := by omega
      simp (disch := omega) only [ZF, ↓gd, stp, opPick, just, Rd.bind, Rd.run, Rd.opt, upds, tsz, rdCells, aLoad, aIndexAddr, aNum, aBin, aInt, Nat.reduceLT, Nat.reduceBEq, Nat.reduceEqDiff, Nat.reduceLeDiff, ↓reduceIte, reduceCtorEq, ZT, F_25, g1, g2, g3, hat, hat1, hlen, a1, a2, b, w1]
      exact ⟨_, rfl⟩
    · rw [if_neg b] at he; exact absurd rfl he
theorem check_run {C : Callee} {l : List Int} {a : AV} (ha : IV l a) (hl : l.length ≤ 1000) : rsOf (bodyA E C fg 1000000 25 [a] [] 0) = some (.int .i64 (chkR l)) := by
  rcases ha with ⟨rfl, rfl⟩ | ⟨ex, rfl⟩
  · simp (disch := omega) only [ZF, frame0, stp, just, Rd.bind, Rd.run, Rd.opt, upds, resA, resL, aLen, aBuiltin, aBin, aInt, Nat.reduceBEq, Nat.reduceEqDiff, Nat.reduceLeDiff, ↓reduceIte, reduceCtorEq, ZT, F_25, chkR]
  · unfold chkR
    by_cases h0 : l.length = 0
    · rw [if_pos h0]
      have g0 : (l.length : Int) = 0 := by omega
      simp (disch := omega) only [ZF, frame0, stp, just, Rd.bind, Rd.run, Rd.opt, upds, resA, resL, aLen, aBuiltin, aBin, aInt, Nat.reduceBEq, Nat.reduceEqDiff, Nat.reduceLeDiff, ↓reduceIte, reduceCtorEq, ZT, F_25, g0]
    · rw [if_neg h0]
      have g0 : ¬ (l.length : Int) = 0 := by omega
      have g0' : ((l.length : Int) == 0) = false := by rw [beq_eq_false_iff_ne]; exact g0
      by_cases h6 : l.length > 6
      · rw [if_pos h6]
        have g1 : (l.length : Int) > 6 := by omega
        simp (disch := omega) only [ZF, frame0, stp, just, Rd.bind, Rd.run, Rd.opt, upds, resA, resL, aLen, aBuiltin, aBin, aInt, Nat.reduceBEq, Nat.reduceEqDiff, Nat.reduceLeDiff, ↓reduceIte, reduceCtorEq, ZT, F_25, g0', g1]
      · rw [if_neg h6]
        have g1 : ¬ (l.length : Int) > 6 := by omega
        have hlen := ics_length l
        have hloop := loopE (f := (execA E C (fg 25) 0 40 [] 1000000 c25_22)) (e := chE l) (R := fun e H => ([(2, .int .i64 e)], H)) (chS l ex) l.length (E0 := []) rfl (by omega) (x := .exit 1) (se := ([(16, .bool false), (15, .int .i64 l.length), (14, .int .i64 l.length), (13, .imm (ics l) l.length ex), (0, .imm (ics l) l.length ex)], [])) (by simp)
          (fun i hi _ he => ch_go (by omega) i hi he) (fun i hi _ he => ch_bad (by omega) i hi he) (fun _ => by simp (disch := omega) only [ZF, stp, just, Rd.bind, Rd.run, Rd.opt, upds, aBin, aInt, Nat.reduceEqDiff, Nat.reduceLeDiff, ↓reduceIte, F_25, chS])
        simp only [chS, cl0] at hloop
        rcases hloop with ⟨hz, hloop⟩ | ⟨hz, H, hloop⟩
        · rw [hz]
          simp (disch := omega) only [ZF, frame0, stp, just, Rd.bind, Rd.run, Rd.opt, upds, resA, resL, aLen, aBuiltin, aBin, aInt, Nat.reduceBEq, Nat.reduceEqDiff, Nat.reduceLeDiff, ↓reduceIte, reduceCtorEq, ZT, F_25, g0', g1, hloop]
        · simp (disch := omega) only [ZF, frame0, stp, just, Rd.bind, Rd.run, Rd.opt, upds, resA, resL, aLen, aBuiltin, aBin, aInt, Nat.reduceBEq, Nat.reduceEqDiff, Nat.reduceLeDiff, ↓reduceIte, reduceCtorEq, ZT, F_25, g0', g1, hloop]
theorem check_call {d : Nat} {site : Nat → Nat} {seen : List Nat} {l : List Int} {a : AV} (ha : IV l a) (hl : l.length ≤ 1000) : aBack site true seen (thaw (kF (d + 1)) 25 [a] [] 0) = .pure (.int .i64 (chkR l), []) :=
  aBack_int (kF_ex rfl (check_run ha hl))
end Go.AM.Ytfmnoohhhokicaa
end

section
namespace Go.AM.Ytfmnoohhhokicaa
open Go Go.AM Go.AM.Rub
set_option maxRecDepth 100000
set_option maxHeartbeats 4000000
/-- Rises. -/
def riP (l : List Int) (i : Nat) : List Int := (List.range (i + 1)).map (ps (rowF l))
def riL (l : List Int) : List Int := riP l l.length
theorem riP_len (l : List Int) (i : Nat) : (riP l i).length = i + 1 := by simp [riP]
theorem riP_snoc (l : List Int) (i : Nat) : riP l (i + 1) = riP l i ++ [ps (rowF l) i + rowF l i] := by simp [riP, List.range_succ, ps]
theorem riP_at {l : List Int} {i k : Nat} (h : k ≤ i) : (riP l i)[k]? = some (ps (rowF l) k) := by
  simp only [riP, List.getElem?_map]
  rw [List.getElem?_range (by omega)]; rfl
theorem ps_b {n : Nat} {l : List Int} (h : Rw n l) : ∀ k, k ≤ n → 0 ≤ ps (rowF l) k ∧ ps (rowF l) k ≤ 8 * k
  | 0, _ => by simp [ps]
  | k + 1, hk => by
    have := ps_b h k (by omega)
    have := rw_b h (k := k) (by omega)
    simp only [ps]; omega
abbrev riS (l : List Int) (ex : Bool) (i : Nat) : St := ([(9, .int .i64 i), (8, .int .i64 l.length), (7, .imm (ics l) l.length ex), (3, .ref 6 0 (i + 1) (i + 1) (i + 1) 1 false)], [(6, ⟨.row, ics (riP l i)⟩)])
theorem ri_go {C : Callee} {n : Nat} {l : List Int} {ex : Bool} (h : Rw n l) (hn : n ≤ 8) (i : Nat) (hi : i < l.length) :
    ∃ s', (execA E C (fg 79) 0 25 [] 1000000 c79_9) (riS l ex i) = some (.normal, s') ∧ headA [] s' = riS l ex (i + 1) := by
  have hln := h.len
  have hlen := ics_length l
  have hat := icr_at hi
  have hrl : (ics (riP l i)).length = i + 1 := by rw [ics_length, riP_len]
  have hra := ics_at (riP_at (l := l) (i := i) (Nat.le_refl i))
  have hsn := ics_snoc (riP l i) (ps (rowF l) i + rowF l i)
  have htk : List.take (i + 1) (ics (riP l i)) = ics (riP l i) := List.take_of_length_le (by omega)
  have b1 := ps_b h i (by omega)
  have b2 := rw_b h (k := i) (by omega)
  have g1 : (i : Int) < l.length := by omega
  have g2 : (i : Int) < ((i + 1 : Nat) : Int) := by omega
  have w1 : wrp .i64 (ps (rowF l) i + rowF l i) = ps (rowF l) i + rowF l i := wrp64 (by omega)
  have hno : ¬ i + 1 + 1 ≤ i + 1 := by omega
  simp only [riS, riP_snoc]
  rw [← hsn]
  generalize ics (riP l i) = L at *
  generalize ps (rowF l) i = p at *
  simp (disch := omega) only [ZF, stp, just, Rd.bind, Rd.run, Rd.opt, upds, acells, zeroCells, tsz, elemT, rdCells, aLoad, fresh, aIndexAddr, aNum, aBuiltin, aBin, aInt, putC, evO, Nat.reduceAdd, Nat.reduceLT, Nat.reduceBEq, Nat.reduceEqDiff, Nat.reduceLeDiff, ↓reduceIte, reduceCtorEq, aBuildSlice, aBuildAt, partsOf, fillA, repC, isSliceT, aAppend, srcOf, window, snaps, ZT, F_79, g1, g2, hat, hlen, hrl, hra, htk, w1, hno, room22 (show i + 1 + 1 ≤ 1000000 by omega), wrp_succ (show i < 1000000 by omega)]
  exact ⟨_, rfl, rfl⟩
theorem rises_run {C : Callee} {n : Nat} {l : List Int} {a : AV} (ha : IV l a) (h : Rw n l) (hn : n ≤ 8) :
    ∃ H, bodyA E C fg 1000000 79 [a] [] 0 = some (.ref 6 0 (l.length + 1) (l.length + 1) (l.length + 1) 1 false, H) ∧ hget H 6 = some ⟨.row, ics (riL l)⟩ := by
  rcases ha with ⟨rfl, rfl⟩ | ⟨ex, rfl⟩
  · have hloop := loopM0 (f := (execA E C (fg 79) 0 25 [] 1000000 c79_9)) (E0 := []) (s0 := ([(9, .int .i64 0), (8, .int .i64 0), (7, .nilsl), (3, .ref 6 0 1 1 1 1 false)], [(6, ⟨.row, [.int .i64 0]⟩)])) rfl (e := .exit 0) (se := ([(10, .bool false), (9, .int .i64 0), (8, .int .i64 0), (7, .nilsl), (3, .ref 6 0 1 1 1 1 false)], [(6, ⟨.row, [.int .i64 0]⟩)]))
      (by simp (disch := omega) only [ZF, stp, just, Rd.bind, Rd.run, Rd.opt, upds, aBin, aInt, Nat.reduceEqDiff, Nat.reduceLeDiff, ↓reduceIte, F_79]) (by simp)
    simp (disch := omega) only [ZF, frame0, stp, just, Rd.bind, Rd.run, upds, acells, zeroCells, tsz, elemT, resA, resL, fresh, aLen, aBuiltin, putC, evO, ofV, ofV1, Nat.reduceAdd, Nat.reduceLT, Nat.reduceBEq, Nat.reduceEqDiff, Nat.reduceLeDiff, ↓reduceIte, reduceCtorEq, aBuildSlice, aBuildAt, partsOf, fillA, repC, snaps, ZT, F_79, hloop]
    exact ⟨_, rfl, rfl⟩
  · have hln := h.len
    have hlen := ics_length l
    have hloop := loopM (f := (execA E C (fg 79) 0 25 [] 1000000 c79_9)) (E0 := []) (riS l ex) l.length (fun i hi => ri_go h hn i hi) rfl (by omega)
      (e := .exit 0) (se := ([(10, .bool false), (9, .int .i64 l.length), (8, .int .i64 l.length), (7, .imm (ics l) l.length ex), (3, .ref 6 0 (l.length + 1) (l.length + 1) (l.length + 1) 1 false)], [(6, ⟨.row, ics (riL l)⟩)]))
      (by simp (disch := omega) only [ZF, stp, just, Rd.bind, Rd.run, Rd.opt, upds, aBin, aInt, Nat.reduceEqDiff, Nat.reduceLeDiff, ↓reduceIte, F_79, riS, riL]) (by simp)
    have e0 : ics (riP l 0) = [.int .i64 0] := rfl
    simp only [riS, e0, cl0, Nat.zero_add] at hloop
    simp (disch := omega) only [ZF, frame0, stp, just, Rd.bind, Rd.run, upds, acells, zeroCells, tsz, elemT, resA, resL, fresh, aLen, aBuiltin, putC, evO, ofV, ofV1, Nat.reduceAdd, Nat.reduceLT, Nat.reduceBEq, Nat.reduceEqDiff, Nat.reduceLeDiff, ↓reduceIte, reduceCtorEq, aBuildSlice, aBuildAt, partsOf, fillA, repC, snaps, ZT, F_79, hloop]
    exact ⟨_, rfl, rfl⟩
theorem ri_len (l : List Int) : (ics (riL l)).length = l.length + 1 := by rw [ics_length]; exact riP_len _ _
theorem rises_call {d : Nat} {site : Nat → Nat} {seen : List Nat} {n : Nat} {l : List Int} {a : AV} (ha : IV l a) (h : Rw n l) (hn : n ≤ 8) : aBack site true seen (thaw (kF (d + 1)) 79 [a] [] 0) =
    back1 (site 0) seen (fun k => .ref k 0 (l.length + 1) (l.length + 1) (l.length + 1) 1 false) ⟨.row, ics (riL l)⟩ := by
  obtain ⟨H, h1, h2⟩ := rises_run (C := kF d) ha h hn
  exact aBack_refc (by rw [kF_no rfl]; exact h1) h2 (ri_len l)
/-- Rises, or the error. -/
theorem Rises_run {d : Nat} {l : List Int} {a : AV} (ha : IV l a) (hl : l.length ≤ 1000) :
    (chkR l ≠ 0 ∧ ∃ H, bodyA E (kF (d + 1)) fg 1000000 18 [a] [] 0 = some (.tup [.nilsl, .int .i64 (chkR l)], H)) ∨
    (chkR l = 0 ∧ ∃ g H, bodyA E (kF (d + 1)) fg 1000000 18 [a] [] 0 = some (.tup [.ref g 0 (l.length + 1) (l.length + 1) (l.length + 1) 1 false, .int .i64 0], H) ∧ hget H g = some ⟨.row, ics (riL l)⟩) := by
  have hc := fun (site : Nat → Nat) seen => check_call (d := d) (site := site) (seen := seen) ha hl
  have sn := iv_snap ha
  by_cases h0 : chkR l = 0
  · obtain ⟨_, h6, hr⟩ := chkR_zero.1 h0
    have hri := fun (site : Nat → Nat) seen => rises_call (d := d) (site := site) (seen := seen) ha hr (by omega)
    refine .inr ⟨h0, 11, ?_⟩
    rw [h0] at hc
    generalize kF (d + 1) = C at *
    simp (disch := omega) only [ZF, frame0, stp, just, Rd.bind, Rd.run, Rd.opt, upds, resA, resL, aBin, aInt, Nat.reduceBEq, Nat.reduceEqDiff, Nat.reduceLeDiff, ↓reduceIte, reduceCtorEq, aCall, snaps, F_18, hc, hri, sn 198]
    exact ⟨_, rfl, rfl⟩
  · refine .inl ⟨h0, ?_⟩
    generalize kF (d + 1) = C at *
    generalize chkR l = z at *
    have h0' : (z == 0) = false := by rw [beq_eq_false_iff_ne]; exact h0
    simp (disch := omega) only [ZF, frame0, stp, just, Rd.bind, Rd.run, Rd.opt, upds, resA, resL, aBin, aInt, Nat.reduceBEq, Nat.reduceEqDiff, Nat.reduceLeDiff, ↓reduceIte, reduceCtorEq, aCall, snaps, F_18, hc, h0, sn 198]
    exact ⟨_, rfl⟩
end Go.AM.Ytfmnoohhhokicaa
end
