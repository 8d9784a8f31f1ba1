/- A part of the proof of muleRule_card: MulL, MulC, MulR, MulB, MulO, MuA, MuB, MuC, MuD, CelH, MuE, MuF, SyB. Own work of this project; texts printed by own programs among it. -/
import Derived.KernelRfl
import Derived.Test.YtgfnbmfjbjopkaaDoorRlG
section
namespace Go.AM.Mule
set_option maxRecDepth 100000
/-- 'Goes before', directly or through others. -/
structure Ord (T : Nat → Nat → Bool) : Prop where
  irr : ∀ i, T i i = false
  tr : ∀ i j k, T i j = true → T j k = true → T i k = true
def days (d : Nat → Int) : List Nat → Int
  | [] => 0
  | i :: l => d i + days d l
theorem days_append (d : Nat → Int) : ∀ a b : List Nat, days d (a ++ b) = days d a + days d b
  | [], b => by simp [days]
  | i :: a, b => by simp only [List.cons_append, days, days_append d a b]; omega
theorem days_perm {d : Nat → Int} {a b : List Nat} (h : a.Perm b) : days d a = days d b := by
  induction h with
  | nil => rfl
  | cons x _ ih => simp only [days, ih]
  | swap x y l => simp only [days]; omega
  | trans _ _ h1 h2 => rw [h1, h2]
/-- Those that go before no other one. -/
def lastsL (T : Nat → Nat → Bool) (S : List Nat) : List Nat := S.filter fun i => S.all fun k => !T i k
theorem mem_lasts {T : Nat → Nat → Bool} {S : List Nat} {i : Nat} : i ∈ lastsL T S ↔ i ∈ S ∧ ∀ k ∈ S, T i k = false := by
  simp [lastsL, List.mem_filter, List.all_eq_true]
theorem lasts_ne {T : Nat → Nat → Bool} (hT : Ord T) {S : List Nat} : ∀ (m : Nat) (x : Nat), x ∈ S → (S.filter (T x)).length ≤ m → ∃ i, i ∈ lastsL T S := by
  intro m
  induction m with
  | zero =>
    intro x hx hm
    refine ⟨x, mem_lasts.2 ⟨hx, fun k hk => ?_⟩⟩
    cases e : T x k with
    | false => rfl
    | true =>
      have : k ∈ S.filter (T x) := List.mem_filter.2 ⟨hk, e⟩
      have := List.length_pos_of_mem this
      omega
  | succ m ih =>
    intro x hx hm
    by_cases h : ∃ k, k ∈ S ∧ T x k = true
    · obtain ⟨k, hk, e⟩ := h
      refine ih k hk ?_
      have hsub : ∀ l : List Nat, (l.filter (T k)).length ≤ (l.filter (T x)).length ∧ (k ∈ l → (l.filter (T k)).length < (l.filter (T x)).length) := by
        intro l
        induction l with
        | nil => simp
        | cons y l ihl =>
          obtain ⟨i1, i2⟩ := ihl
          simp only [List.filter_cons]
          constructor
          · cases ek : T k y with
            | true => rw [if_pos rfl, if_pos (hT.tr x k y e ek)]; simp only [List.length_cons]; omega
            | false => simp only [Bool.false_eq_true, if_false]; split <;> (try simp only [List.length_cons]) <;> omega
          · intro hm
            by_cases ey : y = k
            · subst ey
              rw [if_neg (by simp [hT.irr]), if_pos e]; simp only [List.length_cons]; omega
            · have hm : k ∈ l := by
                rcases List.mem_cons.1 hm with h | h
                · exact absurd h.symm ey
                · exact h
              have := i2 hm
              cases ek : T k y with
              | true => rw [if_pos rfl, if_pos (hT.tr x k y e ek)]; simp only [List.length_cons]; omega
              | false => simp only [Bool.false_eq_true, if_false]; split <;> (try simp only [List.length_cons]) <;> omega
      have := (hsub S).2 hk
      omega
    · refine ⟨x, mem_lasts.2 ⟨hx, fun k hk => ?_⟩⟩
      cases e : T x k with
      | false => rfl
      | true => exact absurd ⟨k, hk, e⟩ h
theorem lasts_ex {T : Nat → Nat → Bool} (hT : Ord T) {S : List Nat} (h : S ≠ []) : ∃ i, i ∈ lastsL T S := by
  obtain ⟨x, hx⟩ : ∃ x, x ∈ S := List.exists_mem_of_ne_nil S h
  exact lasts_ne hT _ x hx (Nat.le_refl _)
/-- An order: none goes before one that came before it. -/
def Good (T : Nat → Nat → Bool) (o : List Nat) : Prop := o.Pairwise fun a b => T b a = false
/-- The greatest cost of an order, if so many days have gone by. -/
def mc (d : Nat → Int) (c : Nat → Int → Int) : Int → List Nat → Int
  | _, [] => 0
  | now, i :: o => max (c i (now + d i)) (mc d c (now + d i) o)
theorem mc_app (d : Nat → Int) (c : Nat → Int → Int) : ∀ (o p : List Nat) (now : Int), (∀ now o, 0 ≤ mc d c now o) → mc d c now (o ++ p) = max (mc d c now o) (mc d c (now + days d o) p)
  | [], p, now, h => by
    have := h (now + 0) p
    simp only [List.nil_append, mc, days]
    rw [Int.add_zero] at *
    omega
  | i :: o, p, now, h => by
    simp only [List.cons_append, mc, mc_app d c o p _ h, days]
    rw [Int.add_assoc]
    omega
theorem mc_nonneg {d : Nat → Int} {c : Nat → Int → Int} : ∀ (now : Int) (o : List Nat), 0 ≤ mc d c now o
  | _, [] => Int.le_refl _
  | now, i :: o => by have := mc_nonneg (d := d) (c := c) (now + d i) o; simp only [mc]; omega
/-- The cheapest of some, the last one of several. -/
def pick (f : Nat → Int) : List Nat → Nat
  | [] => 0
  | [i] => i
  | i :: j :: l => let k := pick f (j :: l); if f i < f k then i else k
theorem pick_spec (f : Nat → Int) : ∀ {l : List Nat}, l ≠ [] → pick f l ∈ l ∧ ∀ k ∈ l, f (pick f l) ≤ f k
  | [i], _ => by simp [pick]
  | i :: j :: l, _ => by
    obtain ⟨a, b⟩ := pick_spec f (l := j :: l) (by simp)
    simp only [pick]
    split
    · rename_i h
      refine ⟨by simp, fun k hk => ?_⟩
      rcases List.mem_cons.1 hk with rfl | hk
      · exact Int.le_refl _
      · have := b k hk; omega
    · rename_i h
      refine ⟨List.mem_cons_of_mem _ a, fun k hk => ?_⟩
      rcases List.mem_cons.1 hk with rfl | hk
      · omega
      · exact b k hk
/-- The order of the rule, and its cost. -/
def ruleL (T : Nat → Nat → Bool) (d : Nat → Int) (c : Nat → Int → Int) : Nat → List Nat → List Nat
  | 0, _ => []
  | m + 1, S => match S with
    | [] => []
    | x :: r => ruleL T d c m ((x :: r).erase (pick (fun i => c i (days d (x :: r))) (lastsL T (x :: r)))) ++ [pick (fun i => c i (days d (x :: r))) (lastsL T (x :: r))]
theorem ruleL_spec {T : Nat → Nat → Bool} (hT : Ord T) {d : Nat → Int} {c : Nat → Int → Int} : ∀ (m : Nat) (S : List Nat), S.Nodup → S.length ≤ m →
    (ruleL T d c m S).Perm S ∧ Good T (ruleL T d c m S) ∧ (mc d c 0 (ruleL T d c m S) ≤ 0 ∨ ∃ R, R ≠ [] ∧ R.Nodup ∧ (∀ i ∈ R, i ∈ S) ∧ ∀ i ∈ lastsL T R, mc d c 0 (ruleL T d c m S) ≤ c i (days d R))
  | 0, S, _, hm => by
    obtain rfl := List.length_eq_zero_iff.1 (by omega : S.length = 0)
    exact ⟨List.Perm.refl _, List.Pairwise.nil, .inl (by simp [ruleL, mc])⟩
  | m + 1, [], _, _ => ⟨List.Perm.refl _, List.Pairwise.nil, .inl (by simp [ruleL, mc])⟩
  | m + 1, x :: r, hn, hm => by
    have hne : lastsL T (x :: r) ≠ [] := by
      obtain ⟨i, hi⟩ := lasts_ex hT (S := x :: r) (by simp)
      exact List.ne_nil_of_mem hi
    obtain ⟨p1, p2⟩ := pick_spec (fun i => c i (days d (x :: r))) hne
    simp only [ruleL]
    generalize hk : pick (fun i => c i (days d (x :: r))) (lastsL T (x :: r)) = k at *
    obtain ⟨k1, k2⟩ := mem_lasts.1 p1
    have hl := List.length_erase_of_mem k1
    obtain ⟨q1, q2, q3⟩ := ruleL_spec hT (d := d) (c := c) m ((x :: r).erase k) (hn.erase k) (by simp at hl hm ⊢; omega)
    have hp : (ruleL T d c m ((x :: r).erase k) ++ [k]).Perm (x :: r) := by
      refine (List.perm_append_singleton k _).trans ?_
      exact (List.Perm.cons k q1).trans (List.perm_cons_erase k1).symm
    refine ⟨hp, ?_, ?_⟩
    · refine List.pairwise_append.2 ⟨q2, List.pairwise_singleton _ _, fun a ha b hb => ?_⟩
      have : b = k := by simpa using hb
      subst this
      exact k2 a (List.mem_of_mem_erase (q1.mem_iff.1 ha))
    · have e := mc_app d c (ruleL T d c m ((x :: r).erase k)) [k] 0 mc_nonneg
      have ed : 0 + days d (ruleL T d c m ((x :: r).erase k)) + d k = days d (x :: r) := by
        have := days_perm (d := d) hp
        rw [days_append] at this
        simp only [days] at this ⊢; omega
      simp only [mc] at e
      rw [ed] at e
      rw [e]
      by_cases h : mc d c 0 (ruleL T d c m ((x :: r).erase k)) ≤ c k (days d (x :: r)) ∨ c k (days d (x :: r)) ≤ 0 ∧ mc d c 0 (ruleL T d c m ((x :: r).erase k)) ≤ 0
      · by_cases h0 : c k (days d (x :: r)) ≤ 0
        · left; omega
        · right
          refine ⟨x :: r, by simp, hn, fun i hi => hi, fun i hi => ?_⟩
          have := p2 i hi
          omega
      · rcases q3 with q3 | ⟨R, r1, r2, r3, r4⟩
        · left; omega
        · right
          refine ⟨R, r1, r2, fun i hi => List.mem_of_mem_erase (r3 i hi), fun i hi => ?_⟩
          have := r4 i hi
          omega
end Go.AM.Mule
end

section
namespace Go.AM.Mule
set_option maxRecDepth 100000
/-- Does each load cost at most some number? -/
def Cok (d : Nat → Int) (c : Nat → Int → Int) (lim : Int) : Int → List Nat → Prop
  | _, [] => True
  | now, i :: o => c i (now + d i) ≤ lim ∧ Cok d c lim (now + d i) o
/-- All orders of some loads, by the last one. -/
def bk (T : Nat → Nat → Bool) (d : Nat → Int) (c : Nat → Int → Int) (lim : Int) : Nat → List Nat → List (List Nat)
  | 0, _ => [[]]
  | m + 1, S => match S with
    | [] => [[]]
    | x :: r => ((lastsL T (x :: r)).filter fun i => decide (c i (days d (x :: r)) ≤ lim)).flatMap fun i => (bk T d c lim m ((x :: r).erase i)).map (· ++ [i])
end Go.AM.Mule
end

section
namespace Go.AM.Mule
/-- i is left and k reached by some pairs. -/
abbrev Edge (es : List (Nat × Nat)) (i k : Nat) : Prop := (i, k) ∈ es
abbrev Reach (es : List (Nat × Nat)) : Nat → Nat → Prop := Relation.TransGen (Edge es)
def bit (B : List Nat) (i k : Nat) : Bool := (B.getD i 0).testBit k
def addE (B : List Nat) (p : Nat × Nat) : List Nat := B.set p.1 (B.getD p.1 0 ||| 1 <<< p.2)
theorem addE_length (B : List Nat) (p) : (addE B p).length = B.length := by simp [addE]
theorem getD_set (B : List Nat) (i j x : Nat) (h : i < B.length) : (B.set i x).getD j 0 = if i = j then x else B.getD j 0 := by
  simp only [List.getD_eq_getElem?_getD, List.getElem?_set]
  split
  · rename_i e; subst e; simp []
  · rfl
theorem bit_addE {B : List Nat} {p : Nat × Nat} (h : p.1 < B.length) (i k : Nat) : bit (addE B p) i k = true ↔ bit B i k = true ∨ (i, k) = p := by
  obtain ⟨a, b⟩ := p
  simp only [bit, addE] at *
  rw [getD_set _ _ _ _ h]
  split
  · rename_i e; subst e
    simp only [Nat.testBit_or, Bool.or_eq_true, Nat.one_shiftLeft, Nat.testBit_two_pow, decide_eq_true_eq, Prod.mk.injEq, true_and]
    exact or_congr Iff.rfl ⟨Eq.symm, Eq.symm⟩
  · rename_i e
    constructor
    · intro h; exact .inl h
    · rintro (h | h)
      · exact h
      · simp at h; exact absurd h.1.symm e
theorem bit_adds : ∀ {es : List (Nat × Nat)} {B : List Nat}, (∀ p ∈ es, p.1 < B.length) → (es.foldl addE B).length = B.length ∧ ∀ i k, bit (es.foldl addE B) i k = true ↔ bit B i k = true ∨ (i, k) ∈ es
  | [], B, _ => by simp
  | p :: es, B, h => by
    have hp := h p (by simp)
    obtain ⟨a, b⟩ := bit_adds (es := es) (B := addE B p) (fun q hq => by rw [addE_length]; exact h q (by simp [hq]))
    refine ⟨by simp [a, addE_length], fun i k => ?_⟩
    simp only [List.foldl_cons, b i k, bit_addE hp, List.mem_cons, or_assoc]
/-- One load's turn, for one row. -/
def fwI (k : Nat) (B : List Nat) (i : Nat) : List Nat := if bit B i k = true then B.set i (B.getD i 0 ||| B.getD k 0) else B
def fwK (n : Nat) (B : List Nat) (k : Nat) : List Nat := (List.range n).foldl (fwI k) B
def fw (n : Nat) (B : List Nat) : List Nat := (List.range n).foldl (fwK n) B
theorem fwI_length (k : Nat) (B : List Nat) (i : Nat) : (fwI k B i).length = B.length := by unfold fwI; split <;> simp
theorem fwI_bit {k : Nat} {B : List Nat} {i : Nat} (h : i < B.length) (a b : Nat) : bit (fwI k B i) a b = true ↔ bit B a b = true ∨ (a = i ∧ bit B i k = true ∧ bit B k b = true) := by
  unfold fwI
  split
  · rename_i hb
    simp only [bit] at *
    rw [getD_set _ _ _ _ h]
    split
    · rename_i e; subst e
      simp only [Nat.testBit_or, Bool.or_eq_true, hb, true_and]
    · rename_i e
      constructor
      · intro h; exact .inl h
      · rintro (h | ⟨h, _⟩)
        · exact h
        · exact absurd h.symm e
  · rename_i hb
    constructor
    · intro h; exact .inl h
    · rintro (h | ⟨_, h, _⟩)
      · exact h
      · exact absurd h hb
/-- A load's turn up to row m. -/
theorem fwK_part {k : Nat} {B : List Nat} : ∀ (m : Nat), m ≤ B.length → ((List.range m).foldl (fwI k) B).length = B.length ∧ ∀ a b, bit ((List.range m).foldl (fwI k) B) a b = true ↔ bit B a b = true ∨ (a < m ∧ bit B a k = true ∧ bit B k b = true)
  | 0, _ => by simp
  | m + 1, hm => by
    obtain ⟨h1, h2⟩ := fwK_part (k := k) (B := B) m (by omega)
    rw [List.range_succ, List.foldl_append]
    simp only [List.foldl_cons, List.foldl_nil]
    refine ⟨by rw [fwI_length, h1], fun a b => ?_⟩
    rw [fwI_bit (by omega), h2 a b, h2 m k, h2 k b]
    constructor
    · rintro (h | ⟨rfl, h3, h4⟩)
      · rcases h with h | ⟨x, y, z⟩
        · exact .inl h
        · exact .inr ⟨by omega, y, z⟩
      · have h3' : bit B a k = true := h3.elim id fun h => h.2.1
        have h4' : bit B k b = true := h4.elim id fun h => h.2.2
        exact .inr ⟨by omega, h3', h4'⟩
    · rintro (h | ⟨x, y, z⟩)
      · exact .inl (.inl h)
      · by_cases e : a = m
        · exact .inr ⟨e, .inl (e ▸ y), .inl z⟩
        · exact .inl (.inr ⟨by omega, y, z⟩)
theorem fwK_spec {n : Nat} {B : List Nat} (hB : B.length = n) (k : Nat) : (fwK n B k).length = n ∧ ∀ a b, bit (fwK n B k) a b = true ↔ bit B a b = true ∨ (bit B a k = true ∧ bit B k b = true) := by
  obtain ⟨h1, h2⟩ := fwK_part (k := k) (B := B) n (by omega)
  refine ⟨by rw [← hB] at h1 ⊢; exact h1, fun a b => ?_⟩
  unfold fwK
  rw [h2 a b]
  constructor
  · rintro (h | h)
    · exact .inl h
    · exact .inr h.2
  · rintro (h | h)
    · exact .inl h
    · refine .inr ⟨?_, h⟩
      have := h.1
      simp only [bit] at this
      by_cases hl : a < B.length
      · omega
      · rw [List.getD_eq_getElem?_getD, List.getElem?_eq_none (by omega)] at this
        simp at this
theorem fw_part {n : Nat} {B : List Nat} (hB : B.length = n) : ∀ m, ((List.range m).foldl (fwK n) B).length = n ∧ (∀ a b, bit B a b = true → bit ((List.range m).foldl (fwK n) B) a b = true) ∧
    (∀ a b, bit ((List.range m).foldl (fwK n) B) a b = true → Relation.TransGen (fun i k => bit B i k = true) a b) ∧
    (∀ k a b, k < m → bit ((List.range m).foldl (fwK n) B) a k = true → bit ((List.range m).foldl (fwK n) B) k b = true → bit ((List.range m).foldl (fwK n) B) a b = true)
  | 0 => by
    refine ⟨by simpa using hB, fun a b h => h, fun a b h => .single h, fun k a b h => by omega⟩
  | m + 1 => by
    obtain ⟨h1, h2, h3, h4⟩ := fw_part hB m
    rw [List.range_succ, List.foldl_append]
    simp only [List.foldl_cons, List.foldl_nil]
    generalize (List.range m).foldl (fwK n) B = D at *
    obtain ⟨g1, g2⟩ := fwK_spec h1 m
    refine ⟨g1, fun a b h => (g2 a b).2 (.inl (h2 a b h)), fun a b h => ?_, fun k a b hk ha hb => ?_⟩
    · rcases (g2 a b).1 h with h | ⟨x, y⟩
      · exact h3 a b h
      · exact (h3 _ _ x).trans (h3 _ _ y)
    · have ha' := (g2 a k).1 ha
      have hb' := (g2 k b).1 hb
      refine (g2 a b).2 ?_
      by_cases e : k = m
      · subst e
        have x : bit D a k = true := ha'.elim id fun h => h.1
        have y : bit D k b = true := hb'.elim id fun h => h.2
        exact .inr ⟨x, y⟩
      · have hk' : k < m := by omega
        rcases ha' with x | ⟨x, x'⟩
        · rcases hb' with y | ⟨y, y'⟩
          · exact .inl (h4 k a b hk' x y)
          · exact .inr ⟨h4 k a m hk' x y, y'⟩
        · rcases hb' with y | ⟨y, y'⟩
          · exact .inr ⟨x, h4 k m b hk' x' y⟩
          · exact .inr ⟨x, y'⟩
/-- Bits below n alone: the closed sets tell what is reached. -/
theorem fw_spec {n : Nat} {B : List Nat} (hB : B.length = n) (hb : ∀ i k, bit B i k = true → k < n) (a b : Nat) : bit (fw n B) a b = true ↔ Relation.TransGen (fun i k => bit B i k = true) a b := by
  obtain ⟨h1, h2, h3, h4⟩ := fw_part hB n
  refine ⟨h3 a b, fun h => ?_⟩
  induction h with
  | single h => exact h2 _ _ h
  | tail h1' h ih =>
    rename_i b c
    refine h4 b _ _ ?_ ih (h2 _ _ h)
    cases h1' with
    | single h => exact hb _ _ h
    | tail _ h => exact hb _ _ h
theorem fw_length {n : Nat} {B : List Nat} (hB : B.length = n) : (fw n B).length = n := (fw_part hB n).1
/-- The sets of bits of a caravan. -/
def closed (n : Nat) (es : List (Nat × Nat)) : List Nat := fw n (es.foldl addE (List.replicate n 0))
theorem rep_bit (n i k : Nat) : bit (List.replicate n 0) i k = false := by
  simp only [bit, List.getD_eq_getElem?_getD, List.getElem?_replicate]
  split <;> simp
theorem closed_spec {n : Nat} {es : List (Nat × Nat)} (h : ∀ p ∈ es, p.1 < n ∧ p.2 < n) : (closed n es).length = n ∧ ∀ a b, bit (closed n es) a b = true ↔ Reach es a b := by
  obtain ⟨h1, h2⟩ := bit_adds (es := es) (B := List.replicate n 0) (fun p hp => by simpa using (h p hp).1)
  have e : ∀ i k, bit (es.foldl addE (List.replicate n 0)) i k = true ↔ Edge es i k := fun i k => by rw [h2, rep_bit]; simp
  have hl : (es.foldl addE (List.replicate n 0)).length = n := by rw [h1]; simp
  refine ⟨fw_length hl, fun a b => ?_⟩
  unfold closed
  rw [fw_spec hl (fun i k hik => (h (i, k) ((e i k).1 hik)).2)]
  have : (fun i k => bit (es.foldl addE (List.replicate n 0)) i k = true) = Edge es := by funext i k; exact propext (e i k)
  rw [this]
theorem reach_lt {n : Nat} {es : List (Nat × Nat)} (h : ∀ p ∈ es, p.1 < n ∧ p.2 < n) {a b : Nat} (hr : Reach es a b) : a < n ∧ b < n := by
  induction hr with
  | single e => exact h _ e
  | tail _ e ih => exact ⟨ih.1, (h _ e).2⟩
end Go.AM.Mule
end

section
namespace Go.AM.Mule
/-- A set as a list, ascending. -/
def lst (s : Nat) : List Nat := (List.range 6).filter s.testBit
theorem mem_lst {s i : Nat} (h : s < 64) : i ∈ lst s ↔ s.testBit i = true := by
  simp only [lst, List.mem_filter, List.mem_range]
  constructor
  · exact fun h => h.2
  · intro hb
    refine ⟨?_, hb⟩
    rcases Nat.lt_or_ge i 6 with h6 | h6
    · exact h6
    · rw [Nat.testBit_lt_two_pow (Nat.lt_of_lt_of_le h (show 2 ^ 6 ≤ 2 ^ i from Nat.pow_le_pow_right (by omega) h6))] at hb
      exact absurd hb (by simp)
theorem lst_nodup (s : Nat) : (lst s).Nodup := List.nodup_range.filter _
theorem lst_lt {s i : Nat} (h : i ∈ lst s) : i < 6 := by simp only [lst, List.mem_filter, List.mem_range] at h; exact h.1
theorem lst_erase : ∀ s, s < 64 → ∀ i, i < 6 → lst (s &&& (63 - 1 <<< i)) = (lst s).erase i := by decide +kernel
theorem lst_full : ∀ n, n ≤ 6 → lst (2 ^ n - 1) = List.range n := by decide +kernel
theorem lst_nil : ∀ s, s < 64 → (lst s = [] ↔ s = 0) := by decide +kernel
/-- Bits in common. -/
theorem and_zero {a s : Nat} (hs : s < 64) : (a &&& s = 0) ↔ ∀ k ∈ lst s, a.testBit k = false := by
  constructor
  · intro h k hk
    have hb := (mem_lst hs).1 hk
    have : (a &&& s).testBit k = false := by rw [h]; simp
    rw [Nat.testBit_and, hb] at this
    simpa using this
  · intro h
    apply Nat.eq_of_testBit_eq
    intro k
    rw [Nat.testBit_and]
    cases hb : s.testBit k with
    | false => simp
    | true => simp [h k ((mem_lst hs).2 hb)]
/-- The last ones of a set: those that go before no other one of it. -/
theorem lasts_bits (B : List Nat) {s : Nat} (hs : s < 64) : lastsL (bit B) (lst s) = (lst s).filter fun i => B.getD i 0 &&& s == 0 := by
  simp only [lastsL]
  apply List.filter_congr
  intro i _
  rw [Bool.eq_iff_iff, List.all_eq_true, beq_iff_eq, and_zero hs]
  simp only [bit, Bool.not_eq_true']
end Go.AM.Mule
end

section
namespace Go.AM.Mule
/-- Those of some loads before which none of them goes. -/
def firstsL (T : Nat → Nat → Bool) (S : List Nat) : List Nat := S.filter fun i => S.all fun k => !T k i
/-- All orders of some loads, in ascending order. -/
def fr (T : Nat → Nat → Bool) : Nat → List Nat → List (List Nat)
  | 0, _ => [[]]
  | m + 1, S => match S with
    | [] => [[]]
    | x :: r => (firstsL T (x :: r)).flatMap fun i => (fr T m ((x :: r).erase i)).map (i :: ·)
noncomputable instance {d : Nat → Int} {c : Nat → Int → Int} {lim now : Int} {o : List Nat} : Decidable (Cok d c lim now o) := Classical.propDecidable _
end Go.AM.Mule
end

section
namespace Go.AM.YtgfnbmfjbjopkaaDoor
open Go Go.AM Go.AM.Mule
set_option maxRecDepth 100000
set_option maxHeartbeats 4000000
structure Ld where
  lo : Int
  hi : Int
  due : Int
  rate : Int
  base : Int
deriving Inhabited
def lc (l : Ld) : List AV := [.int .i64 l.lo, .int .i64 l.hi, .int .i64 l.due, .int .i64 l.rate, .int .i64 l.base]
theorem lc_len (l : Ld) : (lc l).length = 5 := rfl
/-- A train: records and sets. -/
abbrev trA (ls : List Ld) (B : List Nat) (n : Nat) (e1 e2 : Bool) : List AV := [.imm (cls lc ls) n e1, .imm (ucs B) n e2]
structure LdOk (l : Ld) : Prop where
  lo : 1 ≤ l.lo ∧ l.lo ≤ 9
  hi : 1 ≤ l.hi ∧ l.hi ≤ 9
  due : 0 ≤ l.due ∧ l.due ≤ 54
  rate : 0 ≤ l.rate ∧ l.rate ≤ 9
  base : 0 ≤ l.base ∧ l.base ≤ 20
structure TrOk (ls : List Ld) (B : List Nat) (n : Nat) : Prop where
  ne : 0 < n
  le : n ≤ 6
  l : ls.length = n
  b : B.length = n
  ld : ∀ x ∈ ls, LdOk x
  bb : ∀ x ∈ B, x < 2 ^ n
/-- What the kernel looks at, for each set. -/
def listB (s : Nat) (r : Option (AV × AHeap)) : Bool :=
  match r with
  | some (.nilsl, _) => Nat.beq s 0
  | some (.ref 14 0 l c g 1 false, [(14, ⟨.row, cells⟩)]) => !Nat.beq s 0 && Nat.beq l (lst s).length && Nat.beq c (lst s).length && Nat.beq g (lst s).length && (match eqInts .i64 cells (ins (lst s)) with | some true => true | _ => false)
  | _ => false
theorem list_all (d : Nat) : (List.range 64).all (fun s => listB s (callA E fg 1000 (d + 4) 97 [.int .u64 s] [] 0)) = true := by kernel_rfl
theorem eqInts_eq {k : IntKind} : ∀ {xs ys : List AV}, eqInts k xs ys = some true → xs = ys
  | [], [], _ => rfl
  | [], _ :: _, h => by simp [eqInts] at h
  | .int k1 a :: xs, .int k2 b :: ys, h => by
    simp only [eqInts] at h
    split at h
    · rename_i hk
      split at h
      · rename_i hab
        rw [eqInts_eq h, hk.1, hk.2, eq_of_beq hab]
      · split at h <;> simp at h
    · simp at h
  | .int _ _ :: _, [], h => by simp [eqInts] at h
theorem list_run {d s : Nat} (h : s < 64) : (s = 0 ∧ ∃ H, callA E fg 1000 (d + 4) 97 [.int .u64 s] [] 0 = some (.nilsl, H)) ∨
    (s ≠ 0 ∧ callA E fg 1000 (d + 4) 97 [.int .u64 s] [] 0 = some (.ref 14 0 (lst s).length (lst s).length (lst s).length 1 false, [(14, ⟨.row, ins (lst s)⟩)])) := by
  have := List.all_eq_true.1 (list_all d) s (List.mem_range.2 h)
  revert this
  generalize callA E fg 1000 (d + 4) 97 [.int .u64 s] [] 0 = r
  intro this
  unfold listB at this
  split at this
  · exact .inl ⟨Nat.eq_of_beq_eq_true this, _, rfl⟩
  · rename_i l c g cells
    simp only [Bool.and_eq_true, Bool.not_eq_true'] at this
    obtain ⟨⟨⟨⟨h1, h2⟩, h3⟩, h4⟩, h5⟩ := this
    refine .inr ⟨Nat.ne_of_beq_eq_false h1, ?_⟩
    rw [Nat.eq_of_beq_eq_true h2, Nat.eq_of_beq_eq_true h3, Nat.eq_of_beq_eq_true h4]
    have : eqInts .i64 cells (ins (lst s)) = some true := by
      split at h5 <;> simp_all
    rw [eqInts_eq this]
  · simp at this
theorem list_nil {d : Nat} {site : Nat → Nat} {seen : List Nat} : aBack site true seen (thaw (callA E fg 1000 (d + 4)) 97 [.int .u64 0] [] 0) = .pure (.nilsl, []) := by
  rcases list_run (d := d) (s := 0) (by omega) with h | h
  · exact aBack_nil h.2
  · exact absurd rfl h.1
theorem list_ref {d s : Nat} {site : Nat → Nat} {seen : List Nat} (h : s < 64) (h0 : s ≠ 0) : aBack site true seen (thaw (callA E fg 1000 (d + 4)) 97 [.int .u64 s] [] 0) =
    back1 (site 0) seen (fun k => .ref k 0 (lst s).length (lst s).length (lst s).length 1 false) ⟨.row, ins (lst s)⟩ := by
  rcases list_run (d := d) h with h1 | h1
  · exact absurd h1.1 h0
  · have := aBack_ref (site := site) (seen := seen) (id := 14) (n := (lst s).length) (sz := 1) (cells := ins (lst s)) (by rw [ins_length]; exact h1.2) rfl
    rw [ins_length] at this
    exact this
theorem all_run {C : Callee} {ls : List Ld} {B : List Nat} {n : Nat} {e1 e2 : Bool} (hn : n ≤ 6) : rsOf (bodyA E C fg 1000 95 [.agg (trA ls B n e1 e2)] [] 0) = some (.int .u64 ((2 ^ n - 1 : Nat) : Int)) := by
  have h1 := shl64 (i := n) (by omega)
  have h2 : wrp .u64 (((1 <<< n : Nat) : Int) - 1) = ((2 ^ n - 1 : Nat) : Int) := by
    have : n = 0 ∨ n = 1 ∨ n = 2 ∨ n = 3 ∨ n = 4 ∨ n = 5 ∨ n = 6 := by omega
    rcases this with rfl | rfl | rfl | rfl | rfl | rfl | rfl <;> rfl
  simp (disch := omega) only [bodyX_ret, run_nil, run_cons, fget_cons', fput_cons', forget_nil, forget_cons', hget_nil', hget_cons', hset_nil', frame0, gcM_c, stp, opBox, just, Rd.bind, Rd.run, Rd.opt, upds, acells, rdCells, fieldOf, aFieldAddr, aLoad, resA, resL, fresh, aLen, aBuiltin, aBin, aInt, Nat.reduceAdd, Nat.reduceBEq, Nat.reduceEqDiff, Nat.reduceLeDiff, ↓reduceIte, reduceCtorEq, liveBlk_eq, Nat.zero_add, Nat.add_zero, List.getElem?_toArray, putD_some, Option.map_some, List.elem_cons, List.elem_nil, List.length_cons, List.length_nil, List.getElem?_cons_zero, seqN, bindN, regN, beq_self_eq_true, Bool.false_eq_true, T_106, T_109, x95_1, r95_0_l, s95_0_0, s95_0_1, x95_3, r95_1_l, s95_1_0, s95_1_1, s95_1_2, s95_1_3, s95_1_4, s95_1_5, x95_4, x95_2, x95_0, b_95, h1, h2]
theorem all_call {d : Nat} {site : Nat → Nat} {seen : List Nat} {ls : List Ld} {B : List Nat} {n : Nat} {e1 e2 : Bool} (hn : n ≤ 6) : aBack site true seen (thaw (callA E fg 1000 (d + 1)) 95 [.agg (trA ls B n e1 e2)] [] 0) = .pure (.int .u64 ((2 ^ n - 1 : Nat) : Int), []) :=
  aBack_int (rs_ex (all_run (C := callA E fg 1000 d) hn))
/-- What a load costs on a day. -/
def ldC (l : Ld) (day : Int) : Int := l.base + l.rate * max 0 (day - l.due)
theorem ldC_b {l : Ld} (h : LdOk l) {day : Int} (h1 : 0 ≤ day ∧ day ≤ 1000) : 0 ≤ ldC l day ∧ ldC l day ≤ 9020 := by
  obtain ⟨_, _, hd, hr, hb⟩ := h
  have hm : 0 ≤ max 0 (day - l.due) ∧ max 0 (day - l.due) ≤ 1000 := by omega
  have h2 : 0 ≤ l.rate * max 0 (day - l.due) := Int.mul_nonneg hr.1 hm.1
  have h3 : l.rate * max 0 (day - l.due) ≤ 9 * 1000 := Int.mul_le_mul hr.2 hm.2 hm.1 (by omega)
  unfold ldC
  omega
theorem cost_run {C : Callee} {l : Ld} {day : Int} (h : LdOk l) (h1 : 0 ≤ day ∧ day ≤ 1000) : rsOf (bodyA E C fg 1000 99 [.agg (lc l), .int .i64 day] [] 0) = some (.int .i64 (ldC l day)) := by
  have hb := ldC_b h h1
  obtain ⟨_, _, hd, hr, hbb⟩ := h
  have hm : 0 ≤ max 0 (day - l.due) ∧ max 0 (day - l.due) ≤ 1000 := by omega
  have h2 : 0 ≤ l.rate * max 0 (day - l.due) := Int.mul_nonneg hr.1 hm.1
  have h3 : l.rate * max 0 (day - l.due) ≤ 9 * 1000 := Int.mul_le_mul hr.2 hm.2 hm.1 (by omega)
  have w1 : wrp .i64 (day - l.due) = day - l.due := wrp64 (by omega)
  have e : (if day - l.due > 0 then day - l.due else 0) = max 0 (day - l.due) := by split <;> omega
  have w2 : wrp .i64 (l.rate * max 0 (day - l.due)) = l.rate * max 0 (day - l.due) := wrp64 (by omega)
  have w3 : wrp .i64 (l.base + l.rate * max 0 (day - l.due)) = ldC l day := by rw [wrp64 (by omega)]; rfl
  simp (disch := omega) only [bodyX_ret, run_nil, run_cons, fget_cons', fput_cons', forget_nil, forget_cons', hget_nil', hget_cons', hset_nil', frame0, gcM_c, stp, opBox, justO, just, Rd.bind, Rd.run, Rd.opt, upds, acells, tsz, rdCells, aLoad, resA, resL, fresh, aIndexAddr, aNum, aBuiltin, aMax, aBin, aInt, Nat.reduceAdd, Nat.reduceBEq, Nat.reduceEqDiff, Nat.reduceLeDiff, ↓reduceIte, reduceCtorEq, liveBlk_eq, Nat.zero_add, putD_some, true_and, Option.map_some, List.elem_cons, List.elem_nil, List.length_cons, List.length_nil, List.getElem?_cons_zero, List.getElem?_cons_succ, seqN, bindN, regN, Int.reduceLE, Int.reduceToNat, Nat.mul_one, beq_self_eq_true, Bool.false_eq_true, T_3, T_126, x99_1, r99_0_l, s99_0_0, s99_0_1, x99_3, r99_1_l, s99_1_0, s99_1_1, s99_1_2, s99_1_3, s99_1_4, s99_1_5, s99_1_6, s99_1_7, s99_1_8, s99_1_9, s99_1_10, s99_1_11, x99_4, x99_2, x99_0, b_99, lc, w1, e, w2, w3, if_pos]
theorem cost_call {d : Nat} {site : Nat → Nat} {seen : List Nat} {l : Ld} {day : Int} (h : LdOk l) (h1 : 0 ≤ day ∧ day ≤ 1000) : aBack site true seen (thaw (callA E fg 1000 (d + 1)) 99 [.agg (lc l), .int .i64 day] [] 0) = .pure (.int .i64 (ldC l day), []) :=
  aBack_int (rs_ex (cost_run (C := callA E fg 1000 d) h h1))
end Go.AM.YtgfnbmfjbjopkaaDoor
end

section
namespace Go.AM.YtgfnbmfjbjopkaaDoor
open Go Go.AM Go.AM.Mule
set_option maxRecDepth 100000
set_option maxHeartbeats 4000000
/-- Most days of a load. -/
def hiF (ls : List Ld) (i : Nat) : Int := (ls.getD i default).hi
theorem hiF_b {ls : List Ld} {B : List Nat} {n : Nat} (h : TrOk ls B n) {i : Nat} (hi : i < n) : ∃ l, ls[i]? = some l ∧ LdOk l ∧ hiF ls i = l.hi := by
  have hl : i < ls.length := by rw [h.l]; exact hi
  refine ⟨ls[i], List.getElem?_eq_getElem hl, h.ld _ (List.getElem_mem hl), ?_⟩
  simp [hiF, hl]
theorem days_snoc (d : Nat → Int) (l : List Nat) (i : Nat) : days d (l ++ [i]) = days d l + d i := by rw [days_append]; simp [days]
theorem days_b {ls : List Ld} {B : List Nat} {n : Nat} (h : TrOk ls B n) : ∀ {l : List Nat}, (∀ i ∈ l, i < n) → 0 ≤ days (hiF ls) l ∧ days (hiF ls) l ≤ 9 * l.length
  | [], _ => by simp [days]
  | i :: l, hl => by
    obtain ⟨x, _, h2, h3⟩ := hiF_b h (hl i (by simp))
    have ih := days_b h (l := l) fun k hk => hl k (by simp [hk])
    have := h2.hi
    simp only [days, h3, List.length_cons]
    omega
abbrev dyS (ls : List Ld) (B : List Nat) (n : Nat) (e1 e2 : Bool) (l : List Nat) (i : Nat) : St := ([(11, .int .i64 i), (10, .int .i64 l.length), (9, .ref 9 0 l.length l.length l.length 1 false), (5, .int .i64 (days (hiF ls) (l.take i))), (2, .ptr 2 0 2)],
  [(2, ⟨.box, trA ls B n e1 e2⟩), (9, ⟨.row, ins l⟩)])
theorem dy_go {C : Callee} {ls : List Ld} {B : List Nat} {n : Nat} {e1 e2 : Bool} {l : List Nat} (h : TrOk ls B n) (hl : ∀ i ∈ l, i < n) (h6 : l.length ≤ 6) (i : Nat) (hi : i < l.length) :
    ∃ s', execA E C (fg 100) 0 25 [] 1000 c100_9 (dyS ls B n e1 e2 l i) = some (.normal, s') ∧ headA [] s' = dyS ls B n e1 e2 l (i + 1) := by
  have hk : l[i]? = some l[i] := List.getElem?_eq_getElem hi
  have hkn := hl _ (List.getElem_mem hi)
  obtain ⟨x, hx, hx2, hx3⟩ := hiF_b h hkn
  have e : days (hiF ls) (l.take (i + 1)) = days (hiF ls) (l.take i) + x.hi := by
    rw [List.take_add_one, hk, Option.toList_some, days_snoc, hx3]
  have b := days_b h (l := l.take i) fun k hk => hl k (List.mem_of_mem_take hk)
  rw [List.length_take] at b
  have hb := hx2.hi
  generalize l[i] = k at *
  have hf : (cls lc ls)[k * 5 + 1]? = some (.int .i64 x.hi) := cls_field lc_len hx (by omega)
  have hlen : (cls lc ls).length = n * 5 := by rw [cls_length lc_len, h.l]
  have g1 : (i : Int) < l.length := by omega
  have w : wrp .i64 (days (hiF ls) (l.take i) + x.hi) = days (hiF ls) (l.take i) + x.hi := wrp64 (by omega)
  have hin := ins_length l
  have hat := ins_at hk
  simp only [dyS, e]
  simp (disch := omega) only [condX_bool, blockX_normal, run_nil, run_cons, fget_cons', fput_cons', forget_nil, forget_cons', hget_cons', gcM_n, gcM_c, stp, just, Rd.bind, Rd.run, Rd.opt, upds, tsz, rdCells, fieldOf, aFieldAddr, aLoad, aIndexAddr, aNum, aBin, aInt, Nat.reduceAdd, Nat.reduceLT, Nat.reduceBEq, Nat.reduceEqDiff, Nat.reduceLeDiff, ↓reduceIte, liveBlk_eq, Nat.zero_add, Nat.add_zero, decide_true, putD_some, and_true, true_and, Int.natCast_nonneg, Int.ofNat_lt, Int.toNat_natCast, List.elem_cons, List.elem_nil, List.length_cons, List.length_nil, List.getElem?_cons_zero, seqN, bindN, regN, Int.reduceLE, Int.reduceToNat, Nat.mul_one, beq_self_eq_true, Bool.false_eq_true, T_3, T_36, T_106, T_109, T_126, x100_10, r100_3_l, s100_3_0, x100_13, x100_14, x100_12, x100_18, r100_4_l, s100_4_0, s100_4_1, s100_4_2, x100_19, r100_5_l, s100_5_0, s100_5_1, s100_5_2, s100_5_3, s100_5_4, s100_5_5, s100_5_6, s100_5_7, s100_5_8, x100_17, x100_16, x100_20, r100_6_l, s100_6_0, s100_6_1, x100_15, x100_11, x100_9, g1, hat, hf, hlen, hin, w, if_pos, wrp_succ (show i < 1000000 by omega), List.elem_cons, Nat.zero_add]
  exact ⟨_, rfl, rfl⟩
theorem lt64 {s n : Nat} (hn : n ≤ 6) (h : s < 2 ^ n) : s < 64 := Nat.lt_of_lt_of_le h (Nat.pow_le_pow_right (by omega) hn)
theorem lst_ltN {s n : Nat} (hn : n ≤ 6) (h : s < 2 ^ n) : ∀ i ∈ lst s, i < n := by
  intro i hi
  have hb := (mem_lst (lt64 hn h)).1 hi
  rcases Nat.lt_or_ge i n with h1 | h1
  · exact h1
  · rw [Nat.testBit_lt_two_pow (Nat.lt_of_lt_of_le h (Nat.pow_le_pow_right (by omega) h1))] at hb
    exact absurd hb (by simp)
theorem lst_len (s : Nat) : (lst s).length ≤ 6 := by
  have := List.length_filter_le s.testBit (List.range 6)
  simpa [lst] using this
/-- The days of a set. -/
def daysS (ls : List Ld) (s : Nat) : Int := days (hiF ls) (lst s)
theorem daysS_b {ls : List Ld} {B : List Nat} {n s : Nat} (h : TrOk ls B n) (hs : s < 2 ^ n) : 0 ≤ daysS ls s ∧ daysS ls s ≤ 54 := by
  have := days_b h (lst_ltN h.le hs)
  have := lst_len s
  unfold daysS
  omega
theorem days_run {d : Nat} {ls : List Ld} {B : List Nat} {n s : Nat} {e1 e2 : Bool} (h : TrOk ls B n) (hs : s < 2 ^ n) : rsOf (bodyA E (callA E fg 1000 (d + 4)) fg 1000 100 [.agg (trA ls B n e1 e2), .int .u64 s] [] 0) = some (.int .i64 (daysS ls s)) := by
  have h64 := lt64 h.le hs
  by_cases h0 : s = 0
  · subst h0
    have hr := fun (site : Nat → Nat) seen => list_nil (d := d) (site := site) (seen := seen)
    have z : lst 0 = [] := rfl
    simp only [daysS, z, days]
    have z0 : ((0 : Nat) : Int) = 0 := rfl
    rw [z0]
    generalize callA E fg 1000 (d + 4) = C at *
    have hloop := iter_all (f := execA E C (fg 100) 0 25 [] 1000 c100_9) (hd := headA []) (fun _ => ([(11, .int .i64 0), (10, .int .i64 0), (9, .nilsl), (5, .int .i64 0), (2, .ptr 2 0 2)], [(2, ⟨.box, trA ls B n e1 e2⟩)])) 0 1000 0
      ([(11, .int .i64 0), (10, .int .i64 0), (9, .nilsl), (5, .int .i64 0), (2, .ptr 2 0 2)], [(2, ⟨.box, trA ls B n e1 e2⟩)]) rfl (by omega) (fun i _ hi => by omega)
      (e := .exit 0) (se := ([(12, .bool false), (11, .int .i64 0), (10, .int .i64 0), (9, .nilsl), (5, .int .i64 0), (2, .ptr 2 0 2)], [(2, ⟨.box, trA ls B n e1 e2⟩)]))
      (by simp (disch := omega) only [seqX_exit, condX_bool, run_nil, run_cons, fget_cons', fput_cons', forget_nil, forget_cons', gcM_n, stp, just, Rd.bind, Rd.run, Rd.opt, upds, aBin, aInt, Nat.reduceEqDiff, Nat.reduceLeDiff, ↓reduceIte, decide_false, putD_some, List.elem_nil, seqN, bindN, regN, Int.lt_irrefl, Bool.false_eq_true, x100_10, r100_3_l, s100_3_0, x100_13, x100_14, x100_12, x100_11, x100_9]) (by simp)
    simp (disch := omega) only [blockX_exit, bodyX_ret, run_nil, run_cons, fget_cons', fput_nil, fput_cons', forget_nil, forget_cons', hget_nil', hset_nil', frame0, gcM_n, gcM_c, stp, opBox, just, Rd.bind, Rd.run, upds, acells, resA, resL, fresh, aLen, aBuiltin, Nat.reduceAdd, Nat.reduceBEq, Nat.reduceEqDiff, Nat.reduceLeDiff, ↓reduceIte, reduceCtorEq, Nat.zero_add, List.getElem?_toArray, putD_some, aCall, snaps, List.append_nil, Option.map_some, List.elem_cons, List.elem_nil, List.length_cons, List.length_nil, List.getElem?_cons_zero, seqN, bindN, regN, snap_int, beq_self_eq_true, Bool.false_eq_true, T_36, x100_1, r100_0_l, s100_0_0, s100_0_1, x100_3, r100_1_l, s100_1_0, x100_6, r100_2_l, s100_2_0, s100_2_1, s100_2_2, s100_2_3, x100_8, x100_7, x100_5, x100_22, r100_7_l, s100_7_0, s100_7_1, x100_23, x100_21, x100_4, x100_2, x100_0, b_100, hr, hloop]
  · have hr := fun (site : Nat → Nat) seen => list_ref (d := d) (site := site) (seen := seen) h64 h0
    have hl6 := lst_len s
    have hin := ins_length (lst s)
    have hln := lst_ltN h.le hs
    have hS : daysS ls s = days (hiF ls) (lst s) := rfl
    have b := days_b h hln
    rw [hS]
    generalize lst s = l at *
    generalize callA E fg 1000 (d + 4) = C at *
    have hloop := iter_all (f := execA E C (fg 100) 0 25 [] 1000 c100_9) (hd := headA []) (dyS ls B n e1 e2 l) l.length 1000 0 (dyS ls B n e1 e2 l 0) rfl (by omega) (fun i _ hi => dy_go h hln hl6 i (by omega))
      (e := .exit 0) (se := ([(12, .bool false), (11, .int .i64 l.length), (10, .int .i64 l.length), (9, .ref 9 0 l.length l.length l.length 1 false), (5, .int .i64 (days (hiF ls) l)), (2, .ptr 2 0 2)], [(2, ⟨.box, trA ls B n e1 e2⟩), (9, ⟨.row, ins l⟩)]))
      (by simp (disch := omega) only [seqX_exit, condX_bool, run_nil, run_cons, fget_cons', fput_cons', forget_nil, forget_cons', gcM_n, stp, just, Rd.bind, Rd.run, Rd.opt, upds, aBin, aInt, Nat.reduceEqDiff, Nat.reduceLeDiff, ↓reduceIte, Nat.zero_add, decide_false, putD_some, List.elem_nil, seqN, bindN, regN, Int.lt_irrefl, Bool.false_eq_true, x100_10, r100_3_l, s100_3_0, x100_13, x100_14, x100_12, x100_11, x100_9, dyS, Nat.zero_add, List.take_length]) (by simp)
    simp only [dyS, List.take_zero, days, cl0] at hloop
    simp (disch := omega) only [blockX_exit, bodyX_ret, run_nil, run_cons, fget_cons', fput_nil, fput_cons', forget_nil, forget_cons', hget_nil', hget_cons', hset_nil', hset_cons', frame0, gcM_n, gcM_c, stp, opBox, just, Rd.bind, Rd.run, upds, acells, resA, resL, fresh, aLen, aBuiltin, Nat.reduceAdd, Nat.reduceBEq, Nat.reduceEqDiff, Nat.reduceLeDiff, ↓reduceIte, reduceCtorEq, liveBlk_eq, Nat.zero_add, List.nil_append, List.getElem?_toArray, putD_some, aCall, snaps, List.append_nil, Option.map_some, List.elem_cons, List.elem_nil, List.length_cons, List.length_nil, List.getElem?_cons_zero, frz_nil, seqN, bindN, regN, snap_int, back1_r, Nat.zero_mul, beq_self_eq_true, Bool.false_eq_true, T_36, x100_1, r100_0_l, s100_0_0, s100_0_1, x100_3, r100_1_l, s100_1_0, x100_6, r100_2_l, s100_2_0, s100_2_1, s100_2_2, s100_2_3, x100_8, x100_7, x100_5, x100_22, r100_7_l, s100_7_0, s100_7_1, x100_23, x100_21, x100_4, x100_2, x100_0, b_100, hr, hin, hloop]
theorem days_call {d : Nat} {site : Nat → Nat} {seen : List Nat} {ls : List Ld} {B : List Nat} {n s : Nat} {e1 e2 : Bool} (h : TrOk ls B n) (hs : s < 2 ^ n) : aBack site true seen (thaw (callA E fg 1000 (d + 5)) 100 [.agg (trA ls B n e1 e2), .int .u64 s] [] 0) = .pure (.int .i64 (daysS ls s), []) :=
  aBack_int (rs_ex (days_run (d := d) h hs))
end Go.AM.YtgfnbmfjbjopkaaDoor
end

section
namespace Go.AM.YtgfnbmfjbjopkaaDoor
open Go Go.AM Go.AM.Mule
set_option maxRecDepth 100000
set_option maxHeartbeats 4000000
/-- A function value that is a test of the numbers of a list. -/
structure Prd (C : Callee) (f : AV) (l : List Nat) (p : Nat → Bool) : Prop where
  mt : ∀ args, mutV E f args = none
  call : ∀ (site : Nat → Nat) i, i ∈ l → opCallV E C site true f [.int .i64 (i : Int)] = .pure (.bool (p i), [])
  refs : refsOf f = []
abbrev ixS (l : List Nat) (ex : Bool) (f : AV) (i : Nat) : St := ([(8, .int .i64 i), (7, .int .i64 l.length), (1, f), (0, .imm (ins l) l.length ex)], [])
theorem ix_head (l : List Nat) (ex : Bool) (f : AV) (i : Nat) (φ : AFr) (H : AHeap) (hr : refsOf f = []) (h : φ = (ixS l ex f i).1) : headA [] (φ, H) = ixS l ex f i := by
  subst h
  rw [headA_drop]
  simp only [refsF, refsOf, hr, List.append_nil]
theorem ix_run {C : Callee} {f : AV} {l : List Nat} {p : Nat → Bool} {ex : Bool} (h : Prd C f l p) (hl : l.length < 900) :
    rsOf (bodyA E C fg 1000 54 [.imm (ins l) l.length ex, f] [] 0) = some (.int .i64 (if l.findIdx p < l.length then (l.findIdx p : Int) else -1)) := by
  obtain ⟨hm, hc, hr⟩ := h
  have hin := ins_length l
  have hle := List.findIdx_le_length (xs := l) (p := p)
  have hlo : ∀ i, i < l.findIdx p → ∃ s', (execA E C (fg 54) 0 19 [] 1000 c54_7) (ixS l ex f i) = some (.normal, s') ∧ headA [] s' = ixS l ex f (i + 1) := by
    intro i hi
    have hil : i < l.length := by omega
    have hk : l[i]? = some l[i] := List.getElem?_eq_getElem hil
    have hp : p l[i] = false := by simpa using List.not_of_lt_findIdx hi
    have hcall := fun site => hc site l[i] (List.getElem_mem hil)
    generalize l[i] = k at *
    have g1 : (i : Int) < l.length := by omega
    have hat := ins_at hk
    rw [hp] at hcall
    simp (disch := omega) only [ixS]
    simp (disch := omega) only [condX_bool, blockX_normal, run_nil, run_cons, fget_cons', fput_cons', forget_nil, forget_cons', gcM_n, gcM_c, stp, just, Rd.bind, Rd.run, Rd.opt, upds, tsz, rdCells, aLoad, aIndexAddr, aNum, aBin, aInt, Nat.reduceMul, Nat.reduceLT, Nat.reduceBEq, Nat.reduceEqDiff, Nat.reduceLeDiff, ↓reduceIte, reduceCtorEq, Nat.zero_add, decide_true, putD_some, and_true, Int.natCast_nonneg, Int.toNat_natCast, List.elem_cons, List.elem_nil, seqN, bindN, regN, Nat.mul_one, beq_self_eq_true, Bool.false_eq_true, T_3, T_36, x54_8, r54_2_l, s54_2_0, x54_11, x54_12, x54_10, x54_16, r54_3_l, s54_3_0, s54_3_1, x54_18, r54_4_l, s54_4_0, s54_4_1, s54_4_2, s54_4_3, s54_4_4, s54_4_5, x54_21, r54_5_l, s54_5_0, s54_5_1, x54_22, x54_20, x54_23, x54_19, x54_17, x54_15, x54_14, x54_24, r54_6_l, s54_6_0, s54_6_1, x54_13, x54_9, x54_7, g1, hat, hin, wrp_succ (show i < 1000000 by omega), callV_eq (hm _), hcall]
    exact ⟨_, rfl, ix_head _ _ _ _ _ _ hr rfl⟩
  by_cases hlt : l.findIdx p < l.length
  · rw [if_pos hlt]
    have hk : l[l.findIdx p]? = some l[l.findIdx p] := List.getElem?_eq_getElem hlt
    have hp : p l[l.findIdx p] = true := List.findIdx_getElem
    have hcall := fun site => hc site l[l.findIdx p] (List.getElem_mem hlt)
    rw [hp] at hcall
    have g1 : (l.findIdx p : Int) < l.length := by omega
    have hat := ins_at hk
    generalize l[l.findIdx p] = k at *
    generalize l.findIdx p = m at *
    have hloop := loopN (ixS l ex f) m hlo (ix_head _ _ _ _ _ _ hr rfl) (by omega)
      (e := .ret) (se := ([(4, .int .i64 m)], []))
      (by simp (disch := omega) only [seqX_ret, condX_bool, blockX_ret, run_nil, run_cons, fget_cons', fput_cons', forget_nil, forget_cons', gcM_n, gcM_c, stp, just, Rd.bind, Rd.run, Rd.opt, upds, tsz, rdCells, aLoad, aIndexAddr, aNum, aBin, aInt, Nat.reduceMul, Nat.reduceLT, Nat.reduceBEq, Nat.reduceEqDiff, Nat.reduceLeDiff, ↓reduceIte, reduceCtorEq, Nat.zero_add, decide_true, putD_some, and_true, Int.natCast_nonneg, Int.toNat_natCast, List.elem_cons, List.elem_nil, seqN, bindN, regN, Nat.mul_one, beq_self_eq_true, Bool.false_eq_true, T_3, T_36, x54_8, r54_2_l, s54_2_0, x54_11, x54_12, x54_10, x54_16, r54_3_l, s54_3_0, s54_3_1, x54_18, r54_4_l, s54_4_0, s54_4_1, s54_4_2, s54_4_3, s54_4_4, s54_4_5, x54_21, r54_5_l, s54_5_0, s54_5_1, x54_22, x54_20, x54_23, x54_19, x54_17, x54_15, x54_14, x54_13, x54_9, x54_7, ixS, g1, hat, hin, callV_eq (hm _), hcall]) (by simp)
    simp only [ixS, cl0] at hloop
    simp (disch := omega) only [seqX_ret, blockX_ret, bodyX_ret, run_nil, run_cons, fget_cons', fput_cons', forget_nil, forget_cons', frame0, gcM_c, stp, just, Rd.bind, Rd.run, upds, resA, resL, aLen, aBuiltin, Nat.reduceBEq, Nat.reduceEqDiff, Nat.reduceLeDiff, ↓reduceIte, reduceCtorEq, Nat.zero_add, List.getElem?_toArray, putD_some, Option.map_some, List.elem_cons, List.elem_nil, List.getElem?_cons_zero, seqN, bindN, regN, beq_self_eq_true, Bool.false_eq_true, T_36, x54_1, r54_0_l, s54_0_0, x54_4, r54_1_l, s54_1_0, s54_1_1, s54_1_2, x54_6, x54_5, x54_3, x54_2, x54_0, b_54, hloop]
  · rw [if_neg hlt]
    have e : l.findIdx p = l.length := by omega
    have hloop := loopN (ixS l ex f) l.length (fun i hi => hlo i (by omega)) (ix_head _ _ _ _ _ _ hr rfl) (by omega)
      (e := .exit 0) (se := ([(9, .bool false), (8, .int .i64 l.length), (7, .int .i64 l.length), (1, f), (0, .imm (ins l) l.length ex)], []))
      (by simp (disch := omega) only [seqX_exit, condX_bool, run_nil, run_cons, fget_cons', fput_cons', forget_nil, forget_cons', gcM_n, stp, just, Rd.bind, Rd.run, Rd.opt, upds, aBin, aInt, Nat.reduceEqDiff, Nat.reduceLeDiff, ↓reduceIte, decide_false, putD_some, List.elem_nil, seqN, bindN, regN, Int.lt_irrefl, Bool.false_eq_true, x54_8, r54_2_l, s54_2_0, x54_11, x54_12, x54_10, x54_9, x54_7, ixS]) (by simp)
    simp only [ixS, cl0] at hloop
    simp (disch := omega) only [blockX_exit, bodyX_ret, run_nil, run_cons, fget_cons', fput_nil, fput_cons', forget_nil, forget_cons', frame0, gcM_n, gcM_c, stp, just, Rd.bind, Rd.run, upds, resA, resL, aLen, aBuiltin, Nat.reduceBEq, Nat.reduceEqDiff, Nat.reduceLeDiff, Int.reduceNeg, ↓reduceIte, reduceCtorEq, Nat.zero_add, List.getElem?_toArray, putD_some, Option.map_some, List.elem_cons, List.elem_nil, List.getElem?_cons_zero, seqN, bindN, regN, beq_self_eq_true, Bool.false_eq_true, T_36, x54_1, r54_0_l, s54_0_0, x54_4, r54_1_l, s54_1_0, s54_1_1, s54_1_2, x54_6, x54_5, x54_3, x54_26, r54_7_l, s54_7_0, x54_27, x54_25, x54_2, x54_0, b_54, hloop]
theorem ix_nil {C : Callee} {f : AV} (hr : refsOf f = []) :
    rsOf (bodyA E C fg 1000 54 [.nilsl, f] [] 0) = some (.int .i64 (-1)) := by
  have hloop := loop0 (f := (execA E C (fg 54) 0 19 [] 1000 c54_7)) (s0 := ([(8, .int .i64 0), (7, .int .i64 0), (1, f), (0, .nilsl)], [])) (by rw [headA_drop]; simp only [refsF, refsOf, hr, List.append_nil])
      (e := .exit 0) (se := ([(9, .bool false), (8, .int .i64 0), (7, .int .i64 0), (1, f), (0, .nilsl)], []))
      (by simp (disch := omega) only [seqX_exit, condX_bool, run_nil, run_cons, fget_cons', fput_cons', forget_nil, forget_cons', gcM_n, stp, just, Rd.bind, Rd.run, Rd.opt, upds, aBin, aInt, Nat.reduceEqDiff, Nat.reduceLeDiff, ↓reduceIte, decide_false, putD_some, List.elem_nil, seqN, bindN, regN, Int.lt_irrefl, Bool.false_eq_true, x54_8, r54_2_l, s54_2_0, x54_11, x54_12, x54_10, x54_9, x54_7]) (by simp)
  simp (disch := omega) only [blockX_exit, bodyX_ret, run_nil, run_cons, fget_cons', fput_nil, fput_cons', forget_nil, forget_cons', frame0, gcM_n, gcM_c, stp, just, Rd.bind, Rd.run, upds, resA, resL, aLen, aBuiltin, Nat.reduceBEq, Nat.reduceEqDiff, Nat.reduceLeDiff, Int.reduceNeg, ↓reduceIte, reduceCtorEq, Nat.zero_add, List.getElem?_toArray, putD_some, Option.map_some, List.elem_cons, List.elem_nil, List.getElem?_cons_zero, seqN, bindN, regN, beq_self_eq_true, Bool.false_eq_true, T_36, x54_1, r54_0_l, s54_0_0, x54_4, r54_1_l, s54_1_0, s54_1_1, s54_1_2, x54_6, x54_5, x54_3, x54_26, r54_7_l, s54_7_0, x54_27, x54_25, x54_2, x54_0, b_54, hloop]
/-- A list's cells, or nil. -/
def LV (l : List Nat) (a : AV) : Prop := (l = [] ∧ a = .nilsl) ∨ ∃ ex, a = .imm (ins l) l.length ex
theorem ixc_call {d : Nat} {f a : AV} {l : List Nat} {p : Nat → Bool} {site : Nat → Nat} {seen : List Nat} (h : Prd (callA E fg 1000 d) f l p) (ha : LV l a) (hl : l.length < 900) :
    aBack site true seen (thaw (callA E fg 1000 (d + 1)) 54 [a, f] [] 0) = .pure (.int .i64 (if l.findIdx p < l.length then (l.findIdx p : Int) else -1), []) := by
  rcases ha with ⟨rfl, rfl⟩ | ⟨ex, rfl⟩
  · exact aBack_int (rs_ex (ix_nil (C := callA E fg 1000 d) h.refs))
  · exact aBack_int (rs_ex (ix_run h hl))
end Go.AM.YtgfnbmfjbjopkaaDoor
end

section
namespace Go.AM.YtgfnbmfjbjopkaaDoor
open Go Go.AM Go.AM.Mule
set_option maxRecDepth 100000
set_option maxHeartbeats 4000000
theorem getD_at {B : List Nat} {i n : Nat} (hB : B.length = n) (hi : i < n) : B[i]? = some (B.getD i 0) := by
  have h : i < B.length := by omega
  rw [List.getElem?_eq_getElem h]; simp [h]
theorem b_lt {ls : List Ld} {B : List Nat} {n : Nat} (h : TrOk ls B n) {i : Nat} : B.getD i 0 < 64 := by
  by_cases hi : i < B.length
  · have := h.bb _ (List.getElem_mem hi)
    have : B[i] < 64 := lt64 h.le this
    simpa [hi] using this
  · simp [hi]
theorem la_run {C : Callee} {ls : List Ld} {B : List Nat} {n : Nat} {e1 e2 : Bool} {i s : Nat} (h : TrOk ls B n) (hi : i < n) (hs : s < 64) :
    rsOf (bodyA E C fg 1000 141 [.int .i64 (i : Int), .iptr (trA ls B n e1 e2) 0, .iptr [.int .u64 (s : Int)] 0] [] 0) = some (.bool (B.getD i 0 &&& s != 0)) := by
  have hat := ucs_at (getD_at h.b hi)
  have hl := ucs_length B
  rw [h.b] at hl
  have hb := b_lt h (i := i)
  have ha := bk_and (a := B.getD i 0) (b := s) (by omega) (by omega)
  have hn := nat_bne0 (B.getD i 0 &&& s)
  generalize B.getD i 0 = b at *
  simp (disch := omega) only [Bool.not_true, Bool.not_false, bodyX_ret, run_nil, run_cons, fget_cons', fput_cons', forget_nil, forget_cons', frame0, gcM_c, just, Rd.bind, Rd.run, Rd.opt, upds, tsz, rdCells, fieldOf, aFieldAddr, aLoad, resA, resL, aIndexAddr, aNum, aBin, aInt, Nat.reduceAdd, Nat.reduceLT, Nat.reduceBEq, Nat.reduceEqDiff, Nat.reduceLeDiff, ↓reduceIte, reduceCtorEq, Nat.zero_add, rtX_some, addT_some, drX_some, runT_nil, runT_cons, neat_eq, descF_nil', descF_cons', ascH_nil', stpT, Rd.foot, writing, touching, Tr.empty, dynPairs, List.isEmpty_nil, List.map_nil, Bool.not_false, Bool.not_true, Bool.or_true, Bool.or_false, Bool.and_self, decide_true, putD_some, and_true, true_and, Int.natCast_nonneg, Int.ofNat_lt, Int.toNat_natCast, Option.map_some, List.elem_cons, List.elem_nil, List.getElem?_cons_zero, List.getElem?_cons_succ, seqN, bindN, regN, Nat.le_refl, Nat.mul_one, beq_self_eq_true, Bool.false_eq_true, T_107, T_109, T_121, beq_self_eq_true, x141_1, r141_0_l, s141_0_0, x141_3, r141_1_l, r141_1_dr, r141_1_an, s141_1_0, s141_1_1, s141_1_2, s141_1_3, s141_1_4, s141_1_5, s141_1_6, s141_1_7, s141_1_8, x141_4, x141_2, x141_0, b_141, hat, hl, ha, hn, if_pos]
theorem la_call {d : Nat} {site : Nat → Nat} {seen : List Nat} {ls : List Ld} {B : List Nat} {n : Nat} {e1 e2 : Bool} {i s : Nat} (h : TrOk ls B n) (hi : i < n) (hs : s < 64) :
    aBack site true seen (thaw (callA E fg 1000 (d + 1)) 141 [.int .i64 (i : Int), .iptr (trA ls B n e1 e2) 0, .iptr [.int .u64 (s : Int)] 0] [] 0) = .pure (.bool (B.getD i 0 &&& s != 0), []) :=
  aBack_bool (rs_ex (la_run (C := callA E fg 1000 d) h hi hs))
/-- The closure as a test. -/
theorem la_prd {d : Nat} {ls : List Ld} {B : List Nat} {n : Nat} {e1 e2 : Bool} {s : Nat} {l : List Nat} (h : TrOk ls B n) (hl : ∀ i ∈ l, i < n) (hs : s < 64) :
    Prd (callA E fg 1000 (d + 1)) (.clo 141 [.iptr (trA ls B n e1 e2) 0, .iptr [.int .u64 (s : Int)] 0]) l (fun i => B.getD i 0 &&& s != 0) := by
  refine ⟨fun _ => rfl, fun site i hi => ?_, rfl⟩
  have := la_call (d := d) (site := site) (seen := []) (e1 := e1) (e2 := e2) h (hl i hi) hs
  simp only [opCallV, fi_141, aCall, List.cons_append, List.nil_append, List.append_nil, snaps, snap, Rd.bind]
  exact this
theorem putC_app : ∀ (b a z : List AV), z.length = b.length → putC (a ++ b) a.length z = a ++ z
  | [], a, z, h => by obtain rfl := List.length_eq_zero_iff.1 h; simp [putC]
  | x :: b, a, [], h => by simp at h
  | x :: b, a, y :: z, h => by
    simp only [putC]
    rw [show (a ++ x :: b).set a.length y = (a ++ [y]) ++ b by simp, show a.length + 1 = (a ++ [y]).length by simp, putC_app b (a ++ [y]) z (by simpa using h)]
    simp
theorem repC_ins : ∀ n, repC [.int .i64 0] n = ins (List.replicate n 0)
  | 0 => rfl
  | n + 1 => by rw [repC, repC_ins n]; rfl
theorem ins_app (a b : List Nat) : ins (a ++ b) = ins a ++ ins b := by simp [ins]
def keepL (p : Nat → Bool) (l : List Nat) : List Nat := l.filter fun i => !p i
theorem keep_len (p : Nat → Bool) (l : List Nat) (j : Nat) : (keepL p (l.take j)).length ≤ j := by
  have := List.length_filter_le (fun i => !p i) (l.take j)
  have := List.length_take_le j l
  unfold keepL; omega
abbrev dfS (ls : List Ld) (B : List Nat) (n : Nat) (e1 e2 : Bool) (s : Nat) (l : List Nat) (p : Nat → Bool) (j : Nat) : St :=
  ([(6, .int .i64 j), (5, .int .i64 (keepL p (l.take j)).length), (1, .clo 141 [.ptr 2 0 2, .ptr 3 0 1]), (0, .ref 6 0 l.length l.length l.length 1 false)],
    [(2, ⟨.box, trA ls B n e1 e2⟩), (3, ⟨.box, [.int .u64 (s : Int)]⟩), (6, ⟨.row, ins (keepL p (l.take j) ++ l.drop (keepL p (l.take j)).length)⟩)])
theorem df_go {C : Callee} {ls : List Ld} {B : List Nat} {n : Nat} {e1 e2 : Bool} {s : Nat} {l : List Nat} {p : Nat → Bool} {H0 : AHeap} (hH : H0 = [(2, ⟨.box, trA ls B n e1 e2⟩), (3, ⟨.box, [.int .u64 (s : Int)]⟩), (6, ⟨.row, ins l⟩)])
    (hc : ∀ (site : Nat → Nat) seen i, i ∈ l → aBack site true seen (thaw C 141 [.int .i64 (i : Int), .iptr (trA ls B n e1 e2) 0, .iptr [.int .u64 (s : Int)] 0] [] 0) = .pure (.bool (p i), [])) (j : Nat) (hj : j < l.length) (h6 : l.length ≤ 6) :
    ∃ s', execA E C (fg 140) 72 42 H0 1000 c140_17 (dfS ls B n e1 e2 s l p j) = some (.normal, s') ∧ headA H0 s' = dfS ls B n e1 e2 s l p (j + 1) := by
  subst hH
  have hm : ∀ caps args, mutV E (.clo 141 caps) args = none := fun _ _ => rfl
  have hk : l[j]? = some l[j] := List.getElem?_eq_getElem hj
  have hcj := fun site seen => hc site seen l[j] (List.getElem_mem hj)
  have ht : l.take (j + 1) = l.take j ++ [l[j]] := by rw [List.take_add_one, hk]; rfl
  have hkl := keep_len p l j
  have g1 : (j : Int) < l.length := by omega
  have hat : (keepL p (l.take j) ++ l.drop (keepL p (l.take j)).length)[j]? = some l[j] := by
    rw [List.getElem?_append_right hkl, List.getElem?_drop, ← hk]; congr 1; omega
  have hat2 := ins_at hat
  have hlen : (ins (keepL p (l.take j) ++ l.drop (keepL p (l.take j)).length)).length = l.length := by
    rw [ins_length, List.length_append, List.length_drop]; omega
  simp only [dfS, ht]
  cases hp : p l[j] with
  | true =>
    have e : keepL p (l.take j ++ [l[j]]) = keepL p (l.take j) := by simp only [keepL, List.filter_append, List.filter_cons, hp, Bool.not_true, Bool.false_eq_true, if_false, List.filter_nil, List.append_nil]
    rw [hp] at hcj
    rw [e]
    generalize keepL p (l.take j) = q at *
    generalize l[j] = k at *
    simp (disch := omega) only [condX_bool, blockX_normal, Bool.not_true, run_nil, run_cons, fget_cons', fput_cons', forget_nil, forget_cons', hget_cons', hset_cons', gcM_c, stp, justO, just, Rd.bind, Rd.run, Rd.opt, upds, acells, tsz, rdCells, aLoad, aStore, opStore, aIndexAddr, aNum, aLen, aBuiltin, aBin, aInt, putC, Nat.reduceAdd, Nat.reduceMul, Nat.reduceLT, Nat.reduceBEq, Nat.reduceEqDiff, Nat.reduceLeDiff, ↓reduceIte, reduceCtorEq, liveBlk_eq, Nat.zero_add, List.nil_append, List.getElem?_toArray, Bool.not_true, decide_true, aUn, putD_some, putD_none, and_true, true_and, Int.natCast_nonneg, Int.ofNat_lt, Int.toNat_natCast, aCall, snaps, List.append_nil, List.elem_cons, List.elem_nil, List.length_cons, List.length_nil, List.getElem?_cons_zero, frz_nil, seqN, bindN, regN, snap_int, snap_imm, snap_ptr', opCallV, List.cons_append, Nat.mul_one, List.not_mem_nil, beq_self_eq_true, Bool.false_eq_true, T_3, T_36, beq_self_eq_true, x140_19, r140_5_l, s140_5_0, s140_5_1, s140_5_2, s140_5_3, x140_21, x140_22, x140_20, x140_18, x140_26, r140_7_l, s140_7_0, s140_7_1, s140_7_2, s140_7_3, s140_7_4, x140_28, r140_8_l, s140_8_0, s140_8_1, s140_8_2, s140_8_3, x140_31, r140_9_l, s140_9_0, s140_9_1, s140_9_2, s140_9_3, s140_9_4, x140_32, r140_10_l, s140_10_0, s140_10_1, s140_10_2, x140_30, x140_33, x140_29, x140_27, x140_25, x140_24, x140_34, r140_6_l, s140_6_0, s140_6_1, s140_6_2, x140_23, x140_17, g1, hat2, hlen, hcj, if_pos, callV_eq (hm _ _), wrp_succ (show j < 1000000 by omega), fi_141]
    exact ⟨_, rfl, rfl⟩
  | false =>
    have e : keepL p (l.take j ++ [l[j]]) = keepL p (l.take j) ++ [l[j]] := by simp only [keepL, List.filter_append, List.filter_cons, hp, Bool.not_false, if_true, List.filter_nil]
    rw [hp] at hcj
    rw [e]
    have hset : (ins (keepL p (l.take j) ++ l.drop (keepL p (l.take j)).length)).set (keepL p (l.take j)).length (.int .i64 (l[j] : Int)) = ins ((keepL p (l.take j) ++ [l[j]]) ++ l.drop (keepL p (l.take j) ++ [l[j]]).length) := by
      rw [ins_set]
      congr 1
      rw [List.set_append_right _ _ (Nat.le_refl _), Nat.sub_self, List.append_assoc]
      congr 1
      rw [List.length_append, List.length_singleton, List.drop_eq_getElem_cons (by omega), List.set_cons_zero]
      rfl
    have hle2 : (keepL p (l.take j) ++ [l[j]]).length = (keepL p (l.take j)).length + 1 := by simp
    simp only [hle2]
    rw [hle2] at hset
    generalize keepL p (l.take j) = q at *
    generalize l[j] = k at *
    have g2 : (q.length : Int) < l.length := by omega
    simp (disch := omega) only [condX_bool, blockX_normal, Bool.not_false, run_nil, run_cons, fget_cons', fput_cons', forget_nil, forget_cons', hget_cons', hset_cons', gcM_c, stp, justO, just, Rd.bind, Rd.run, Rd.opt, upds, acells, tsz, rdCells, aLoad, aStore, opStore, aIndexAddr, aNum, aLen, aBuiltin, aBin, aInt, putC, Nat.reduceAdd, Nat.reduceMul, Nat.reduceLT, Nat.reduceBEq, Nat.reduceEqDiff, Nat.reduceLeDiff, ↓reduceIte, reduceCtorEq, liveBlk_eq, Nat.zero_add, List.nil_append, List.getElem?_toArray, Bool.not_false, decide_true, aUn, putD_some, putD_none, and_true, true_and, Int.natCast_nonneg, Int.toNat_natCast, aCall, snaps, List.append_nil, List.elem_cons, List.elem_nil, List.length_cons, List.length_nil, List.getElem?_cons_zero, frz_nil, seqN, bindN, regN, snap_int, snap_imm, snap_ptr', opCallV, List.cons_append, Nat.mul_one, List.not_mem_nil, beq_self_eq_true, Bool.false_eq_true, T_3, T_36, beq_self_eq_true, x140_19, r140_5_l, s140_5_0, s140_5_1, s140_5_2, s140_5_3, x140_21, x140_22, x140_20, x140_18, x140_26, r140_7_l, s140_7_0, s140_7_1, s140_7_2, s140_7_3, s140_7_4, x140_28, r140_8_l, s140_8_0, s140_8_1, s140_8_2, s140_8_3, x140_31, r140_9_l, s140_9_0, s140_9_1, s140_9_2, s140_9_3, s140_9_4, x140_32, r140_10_l, s140_10_0, s140_10_1, s140_10_2, x140_30, x140_33, x140_29, x140_27, x140_25, x140_24, x140_34, r140_6_l, s140_6_0, s140_6_1, s140_6_2, x140_23, x140_17, g1, g2, hat2, hlen, hcj, hset, if_pos, callV_eq (hm _ _), wrp_succ (show j < 1000000 by omega), wrp_succ (show q.length < 1000000 by omega), fi_141]
    exact ⟨_, rfl, rfl⟩
theorem keep_find {p : Nat → Bool} {l : List Nat} : keepL p (l.take (l.findIdx p)) = l.take (l.findIdx p) := by
  rw [keepL, List.filter_eq_self]
  intro a ha
  obtain ⟨i, hi, rfl⟩ := List.mem_iff_getElem.1 ha
  have h1 : i < l.findIdx p := by rw [List.length_take] at hi; omega
  have := List.not_of_lt_findIdx h1
  simpa using this
theorem keep_snoc_t {p : Nat → Bool} {l : List Nat} (h : l.findIdx p < l.length) : keepL p (l.take (l.findIdx p + 1)) = l.take (l.findIdx p) := by
  rw [List.take_add_one, List.getElem?_eq_getElem h]
  have hp : p l[l.findIdx p] = true := List.findIdx_getElem
  simp only [keepL, Option.toList_some, List.filter_append, List.filter_cons, hp, Bool.not_true, Bool.false_eq_true, if_false, List.filter_nil, List.append_nil]
  exact keep_find
theorem df_run {d : Nat} {ls : List Ld} {B : List Nat} {n : Nat} {e1 e2 : Bool} {s : Nat} {l : List Nat} (h : TrOk ls B n) (hl : ∀ i ∈ l, i < n) (hs : s < 64) (h6 : l.length ≤ 6) :
    bodyA E (callA E fg 1000 (d + 2)) fg 1000 140 [.ref 6 0 l.length l.length l.length 1 false, .clo 141 [.ptr 2 0 2, .ptr 3 0 1]] [(2, ⟨.box, trA ls B n e1 e2⟩), (3, ⟨.box, [.int .u64 (s : Int)]⟩), (6, ⟨.row, ins l⟩)] 72 =
      some (.ref 6 0 (keepL (fun i => B.getD i 0 &&& s != 0) l).length l.length l.length 1 false, [(2, ⟨.box, trA ls B n e1 e2⟩), (3, ⟨.box, [.int .u64 (s : Int)]⟩), (6, ⟨.row, ins (keepL (fun i => B.getD i 0 &&& s != 0) l ++ List.replicate (l.length - (keepL (fun i => B.getD i 0 &&& s != 0) l).length) 0)⟩)]) := by
  have hix := fun (site : Nat → Nat) seen => ixc_call (site := site) (seen := seen) (la_prd (d := d) (e1 := e1) (e2 := e2) h hl hs) (.inr ⟨false, rfl⟩) (by omega)
  have hc := fun (site : Nat → Nat) seen i hi => la_call (d := d + 1) (site := site) (seen := seen) (e1 := e1) (e2 := e2) (i := i) (s := s) h (hl i hi) hs
  generalize hp : (fun i => B.getD i 0 &&& s != 0) = p at *
  have hc' : ∀ (site : Nat → Nat) seen i, i ∈ l → aBack site true seen (thaw (callA E fg 1000 (d + 2)) 141 [.int .i64 (i : Int), .iptr (trA ls B n e1 e2) 0, .iptr [.int .u64 (s : Int)] 0] [] 0) = .pure (.bool (p i), []) := by
    intro site seen i hi
    rw [← hp]
    exact hc site seen i hi
  clear hc
  generalize callA E fg 1000 (d + 2) = C at *
  have hin := ins_length l
  have htk : List.take l.length (ins l) = ins l := ins_takeA l
  by_cases hlt : l.findIdx p < l.length
  · have ht := keep_snoc_t hlt
    have hkf := keep_len p l l.length
    rw [List.take_length] at hkf
    have lenf : (l.take (l.findIdx p)).length = l.findIdx p := by rw [List.length_take]; omega
    have hloop := iter_all (f := execA E C (fg 140) 72 42 [(2, ⟨.box, trA ls B n e1 e2⟩), (3, ⟨.box, [.int .u64 (s : Int)]⟩), (6, ⟨.row, ins l⟩)] 1000 c140_17) (hd := headA [(2, ⟨.box, trA ls B n e1 e2⟩), (3, ⟨.box, [.int .u64 (s : Int)]⟩), (6, ⟨.row, ins l⟩)])
      (dfS ls B n e1 e2 s l p) (l.length - (l.findIdx p + 1)) 1000 (l.findIdx p + 1) (dfS ls B n e1 e2 s l p (l.findIdx p + 1)) rfl (by omega) (fun j _ hj => df_go rfl hc' j (by omega) h6)
      (e := .exit 0) (se := ([(19, .bool false), (6, .int .i64 l.length), (5, .int .i64 (keepL p l).length), (1, .clo 141 [.ptr 2 0 2, .ptr 3 0 1]), (0, .ref 6 0 l.length l.length l.length 1 false)],
        [(2, ⟨.box, trA ls B n e1 e2⟩), (3, ⟨.box, [.int .u64 (s : Int)]⟩), (6, ⟨.row, ins (keepL p l ++ l.drop (keepL p l).length)⟩)]))
      (by
        have hlen : (ins (keepL p l ++ l.drop (keepL p l).length)).length = l.length := by
          rw [ins_length, List.length_append, List.length_drop]; omega
        rw [show l.findIdx p + 1 + (l.length - (l.findIdx p + 1)) = l.length by omega]
        simp only [dfS, List.take_length]
        simp (disch := omega) only [seqX_exit, condX_bool, run_nil, run_cons, fget_cons', fput_cons', forget_nil, forget_cons', hget_cons', gcM_c, stp, just, Rd.bind, Rd.run, Rd.opt, upds, aLen, aBuiltin, aBin, aInt, Nat.reduceBEq, Nat.reduceEqDiff, Nat.reduceLeDiff, ↓reduceIte, reduceCtorEq, liveBlk_eq, List.getElem?_toArray, decide_false, putD_some, List.elem_cons, List.elem_nil, List.getElem?_cons_zero, seqN, bindN, regN, beq_self_eq_true, Int.lt_irrefl, Bool.false_eq_true, T_36, beq_self_eq_true, x140_19, r140_5_l, s140_5_0, s140_5_1, s140_5_2, s140_5_3, x140_21, x140_22, x140_20, x140_18, x140_17, hlen]) (by simp)
    simp only [dfS, ht, lenf, List.take_append_drop] at hloop
    have g1 : ¬ (l.findIdx p : Int) = -1 := by omega
    have g2 : ((keepL p l).length : Int) ≤ l.length := by omega
    have hlen : (ins (keepL p l ++ l.drop (keepL p l).length)).length = l.length := by
      rw [ins_length, List.length_append, List.length_drop]; omega
    have hput : putC (ins (keepL p l ++ l.drop (keepL p l).length)) (keepL p l).length (repC [.int .i64 0] (l.length - (keepL p l).length)) = ins (keepL p l ++ List.replicate (l.length - (keepL p l).length) 0) := by
      rw [ins_app, ins_app, repC_ins]
      have := putC_app (ins (l.drop (keepL p l).length)) (ins (keepL p l)) (ins (List.replicate (l.length - (keepL p l).length) 0)) (by rw [ins_length, ins_length, List.length_replicate, List.length_drop])
      rw [ins_length] at this
      exact this
    have hlen2 : (ins (keepL p l ++ List.replicate (l.length - (keepL p l).length) 0)).length = l.length := by
      rw [ins_length, List.length_append, List.length_replicate]; omega
    generalize keepL p l = q at *
    generalize l.findIdx p = f at *
    simp (disch := omega) only [condX_bool, blockX_exit, bodyX_ret, run_nil, run_cons, fget_cons', fput_cons', forget_nil, forget_cons', hget_cons', hset_cons', frame0, gcM_c, stp, just, Rd.bind, Rd.run, Rd.opt, upds, zeroCells, tsz, elemT, resA, resL, aNum, aBuiltin, aBin, aInt, Nat.reduceAdd, Nat.reduceLT, Nat.reduceBEq, Nat.reduceEqDiff, Nat.reduceLeDiff, Int.reduceNeg, ↓reduceIte, reduceCtorEq, liveBlk_eq, Nat.zero_add, Nat.add_zero, beq_iff_eq, List.nil_append, List.getElem?_toArray, Bool.and_true, Bool.and_self, decide_true, putD_some, putD_none, and_true, Int.natCast_nonneg, Int.toNat_natCast, aCall, snaps, List.append_nil, Option.map_some, List.elem_cons, List.elem_nil, List.length_cons, List.length_nil, List.getElem?_cons_zero, List.drop_zero, seqN, bindN, regN, snap_int, snap_imm, snap_ref, snap_ptr', snap_clo, aSlice, aBounds, bMax, bHigh, bLow, List.all_cons, List.all_nil, AV.flat, List.cons_append, Nat.le_refl, Nat.sub_zero, Nat.mul_one, beq_self_eq_true, Bool.false_eq_true, T_3, T_36, List.all_cons, List.all_nil, beq_self_eq_true, x140_1, r140_0_l, s140_0_0, x140_3, r140_1_l, s140_1_0, s140_1_1, s140_1_2, s140_1_3, x140_6, r140_2_l, s140_2_0, s140_2_1, x140_9, r140_3_l, s140_3_0, s140_3_1, x140_10, x140_8, x140_11, x140_7, x140_5, x140_14, r140_4_l, s140_4_0, s140_4_1, s140_4_2, x140_16, x140_15, x140_13, x140_36, r140_11_l, s140_11_0, s140_11_1, s140_11_2, s140_11_3, x140_38, r140_12_l, s140_12_0, s140_12_1, s140_12_2, s140_12_3, x140_39, x140_37, x140_35, x140_12, x140_4, x140_2, x140_0, b_140, hin, htk, hix, g1, g2, hloop, hlen, hput, hlen2, if_pos, aClear, wrp_succ (show f < 1000000 by omega), Nat.mul_one, Nat.add_sub_cancel' hkf, Int.toNat_natCast]
  · have e : l.findIdx p = l.length := by have := List.findIdx_le_length (xs := l) (p := p); omega
    have hk : keepL p l = l := by have := keep_find (p := p) (l := l); rwa [e, List.take_length] at this
    rw [hk, Nat.sub_self, List.replicate_zero, List.append_nil]
    rw [if_neg hlt] at hix
    simp (disch := omega) only [seqX_ret, condX_bool, bodyX_ret, run_nil, run_cons, fget_cons', fput_cons', forget_nil, forget_cons', hget_cons', frame0, gcM_c, stp, just, Rd.bind, Rd.run, Rd.opt, upds, resA, resL, aBin, aInt, Nat.reduceAdd, Nat.reduceBEq, Nat.reduceEqDiff, Nat.reduceLeDiff, Int.reduceNeg, ↓reduceIte, reduceCtorEq, liveBlk_eq, Nat.zero_add, List.nil_append, Bool.and_true, decide_true, putD_some, aCall, snaps, List.append_nil, Option.map_some, List.elem_cons, List.elem_nil, List.length_cons, List.length_nil, List.drop_zero, seqN, bindN, regN, snap_int, snap_imm, snap_ref, snap_ptr', snap_clo, List.cons_append, Nat.le_refl, Nat.mul_one, beq_self_eq_true, Bool.false_eq_true, beq_self_eq_true, x140_1, r140_0_l, s140_0_0, x140_3, r140_1_l, s140_1_0, s140_1_1, s140_1_2, s140_1_3, x140_6, r140_2_l, s140_2_0, s140_2_1, x140_9, r140_3_l, s140_3_0, s140_3_1, x140_10, x140_8, x140_11, x140_7, x140_5, x140_4, x140_2, x140_0, b_140, hin, htk, hix]
abbrev lsL (B : List Nat) (s : Nat) : List Nat := lastsL (bit B) (lst s)
theorem keep_lasts (B : List Nat) {s : Nat} (hs : s < 64) : keepL (fun i => B.getD i 0 &&& s != 0) (lst s) = lsL B s := by
  rw [lsL, lasts_bits B hs]
  simp only [keepL]
  apply List.filter_congr
  intro i _
  simp [bne]
/-- Their cells: what was struck out is 0. -/
def lsCells (B : List Nat) (s : Nat) : List AV := ins (lsL B s ++ List.replicate ((lst s).length - (lsL B s).length) 0)
theorem ls_le (B : List Nat) (s : Nat) : (lsL B s).length ≤ (lst s).length := List.length_filter_le ..
theorem lsCells_len (B : List Nat) (s : Nat) : (lsCells B s).length = (lst s).length := by
  have := ls_le B s
  rw [lsCells, ins_length, List.length_append, List.length_replicate]; omega
theorem lasts_run {d : Nat} {ls : List Ld} {B : List Nat} {n : Nat} {e1 e2 : Bool} {s : Nat} (h : TrOk ls B n) (hs : s < 2 ^ n) (h0 : s ≠ 0) :
    ∃ H', bodyA E (callA E fg 1000 (d + 4)) fg 1000 128 [.agg (trA ls B n e1 e2), .int .u64 (s : Int)] [] 0 = some (.ref 6 0 (lsL B s).length (lst s).length (lst s).length 1 false, H') ∧ hget H' 6 = some ⟨.row, lsCells B s⟩ := by
  have h64 := lt64 h.le hs
  have hr := fun (site : Nat → Nat) seen => list_ref (d := d) (site := site) (seen := seen) h64 h0
  have hdf : callA E fg 1000 (d + 4) 140 _ _ 72 = _ := df_run (d := d + 1) (e1 := e1) (e2 := e2) (l := lst s) h (lst_ltN h.le hs) h64 (lst_len s)
  rw [keep_lasts B h64] at hdf
  have hm : ∀ args caps, mutV E (.clo 140 caps) args = some (140, args ++ caps) := fun _ _ => rfl
  have hin := ins_length (lst s)
  refine ⟨[(2, ⟨.box, trA ls B n e1 e2⟩), (3, ⟨.box, [.int .u64 (s : Int)]⟩), (6, ⟨.row, lsCells B s⟩)], ?_, rfl⟩
  unfold lsCells
  generalize callA E fg 1000 (d + 4) = C at *
  simp (disch := omega) only [bodyX_ret, run_nil, run_cons, fget_cons', fput_cons', forget_nil, forget_cons', hget_nil', hget_cons', hset_nil', hset_cons', frame0, gcM_c, stp, opBox, just, Rd.bind, Rd.run, Rd.opt, upds, acells, rdCells, aLoad, resA, resL, fresh, Nat.reduceAdd, Nat.reduceMul, Nat.reduceBEq, Nat.reduceEqDiff, Nat.reduceLeDiff, ↓reduceIte, reduceCtorEq, liveBlk_eq, Nat.zero_add, List.nil_append, putD_some, mutX, aCall, snaps, List.append_nil, Option.map_some, List.elem_cons, List.elem_nil, List.length_cons, List.length_nil, List.getElem?_cons_zero, frz_nil, seqN, bindN, regN, snap_int, back1_r, Nat.zero_mul, beq_self_eq_true, Bool.false_eq_true, T_121, beq_self_eq_true, x128_1, r128_0_l, s128_0_0, s128_0_1, s128_0_2, x128_3, r128_1_l, s128_1_0, s128_1_1, s128_1_2, s128_1_3, s128_1_4, x128_4, x128_2, x128_0, b_128, hr, hdf]
theorem lasts_call {d : Nat} {site : Nat → Nat} {seen : List Nat} {ls : List Ld} {B : List Nat} {n : Nat} {e1 e2 : Bool} {s : Nat} (h : TrOk ls B n) (hs : s < 2 ^ n) (h0 : s ≠ 0) :
    aBack site true seen (thaw (callA E fg 1000 (d + 5)) 128 [.agg (trA ls B n e1 e2), .int .u64 (s : Int)] [] 0) = back1 (site 0) seen (fun k => .ref k 0 (lsL B s).length (lst s).length (lst s).length 1 false) ⟨.row, lsCells B s⟩ := by
  obtain ⟨H', h1, h2⟩ := lasts_run (d := d) (e1 := e1) (e2 := e2) h hs h0
  exact aBack_refc h1 h2 (lsCells_len B s)
end Go.AM.YtgfnbmfjbjopkaaDoor
end

section
namespace Go.AM
theorem hg_hs : ∀ (H : AHeap) (i : Nat) (b : Blk), hget (hset H i b) i = some b
  | [], i, b => by rw [hset_n, hget_c, Nat.beq_refl]; rfl
  | (k, c) :: t, i, b => by
    rw [hset_c]
    cases h : Nat.beq k i with
    | true => simp only [cond_true]; rw [hget_c, Nat.beq_refl]; rfl
    | false =>
      simp only [cond_false]
      cases h2 : Nat.ble k i with
      | true => simp only [cond_true]; rw [hget_c, h]; exact hg_hs t i b
      | false => simp only [cond_false]; rw [hget_c, Nat.beq_refl]; rfl
theorem hs_hs : ∀ (H : AHeap) (i : Nat) (b c : Blk), hset (hset H i b) i c = hset H i c
  | [], i, b, c => by rw [hset_n, hset_c, Nat.beq_refl]; rfl
  | (k, d) :: t, i, b, c => by
    rw [hset_c, hset_c k]
    cases h : Nat.beq k i with
    | true => simp only [cond_true]; rw [hset_c, Nat.beq_refl]; rfl
    | false =>
      simp only [cond_false]
      cases h2 : Nat.ble k i with
      | true => simp only [cond_true]; rw [hset_c, h, h2]; simp only [cond_false, cond_true]; rw [hs_hs t i b c]
      | false => simp only [cond_false]; rw [hset_c, Nat.beq_refl]; rfl
theorem mem_hs : ∀ {H : AHeap} {i : Nat} {b : Blk} {p : Nat × Blk}, p ∈ hset H i b → p.1 = i ∨ p ∈ H
  | [], i, b, p, h => by rw [hset_n] at h; simp at h; exact .inl (by rw [h])
  | (k, c) :: t, i, b, p, h => by
    rw [hset_c] at h
    cases h1 : Nat.beq k i with
    | true =>
      rw [h1] at h
      rcases List.mem_cons.1 h with e | h
      · exact .inl (by rw [e])
      · exact .inr (by simp [h])
    | false =>
      rw [h1] at h
      cases h2 : Nat.ble k i with
      | true =>
        rw [h2] at h
        rcases List.mem_cons.1 h with e | h
        · exact .inr (by simp [e])
        · rcases mem_hs h with h | h
          · exact .inl h
          · exact .inr (by simp [h])
      | false =>
        rw [h2] at h
        rcases List.mem_cons.1 h with e | h
        · exact .inl (by rw [e])
        · exact .inr h
theorem hg_mem : ∀ {H : AHeap} {k : Nat} {b : Blk}, (k, b) ∈ H → (hget H k).isSome = true
  | (j, c) :: t, k, b, h => by
    rw [hget_c]
    cases hj : Nat.beq j k with
    | true => rfl
    | false =>
      rcases List.mem_cons.1 h with e | h
      · injection e with e1 e2; subst e1; rw [Nat.beq_refl] at hj; exact absurd hj (by simp)
      · exact hg_mem h
theorem keepB_all (E0 : AHeap) (keep : List Nat) : ∀ {H : AHeap}, (∀ p ∈ H, (hget E0 p.1).isSome = true) → keepB E0 keep H = H
  | [], _ => rfl
  | (i, b) :: t, h => by
    have := h (i, b) (by simp)
    simp only [keepB, this, Bool.or_true, cond_true, keepB_all E0 keep (H := t) fun p hp => h p (by simp [hp])]
/-- Nothing is dropped if all blocks were there when the call began. -/
theorem headA_same {E0 : AHeap} (φ : AFr) {H : AHeap} (h : ∀ p ∈ H, (hget E0 p.1).isSome = true) : headA E0 (φ, H) = (φ, H) := by
  simp only [headA, keepB_all E0 _ h, gcIf]
  split <;> rfl
theorem headA_set {E0 : AHeap} (φ : AFr) {k : Nat} {b : Blk} (hk : (hget E0 k).isSome = true) : headA E0 (φ, hset E0 k b) = (φ, hset E0 k b) := by
  apply headA_same
  intro p hp
  rcases mem_hs hp with h | h
  · rw [h]; exact hk
  · exact hg_mem (b := p.2) h
/-- A loop of n rounds, whatever was there at the call's begin. -/
theorem loopE {E0 : AHeap} {f : St → XR} (st : Nat → St) (n : Nat) (h : ∀ i, i < n → ∃ s', f (st i) = some (.normal, s') ∧ headA E0 s' = st (i + 1)) (h0 : headA E0 (st 0) = st 0) (hn : n < 1000) {e : Ex} {se : St} (he : f (st n) = some (e, se)) (hne : e ≠ .normal) :
    iterA f (headA E0) 1000 (st 0) = some (e, se) :=
  iter_all st n 1000 0 (st 0) h0 hn (fun i _ hi => h i (by omega)) (by rw [Nat.zero_add]; exact he) hne
end Go.AM
end

section
namespace Go.AM.YtgfnbmfjbjopkaaDoor
open Go Go.AM Go.AM.Mule
set_option maxRecDepth 100000
set_option maxHeartbeats 4000000
def sw (l : List Nat) : Nat → List Nat
  | 0 => l
  | i + 1 => ((sw l i).set i ((sw l i).getD (l.length - 1 - i) 0)).set (l.length - 1 - i) ((sw l i).getD i 0)
theorem sw_len (l : List Nat) : ∀ i, (sw l i).length = l.length
  | 0 => rfl
  | i + 1 => by simp [sw, sw_len l i]
theorem getD_setL (l : List Nat) (i j x : Nat) (h : i < l.length) : (l.set i x).getD j 0 = if i = j then x else l.getD j 0 := getD_set l i j x h
theorem sw_get (l : List Nat) : ∀ i, 2 * i ≤ l.length → ∀ j, j < l.length → (sw l i).getD j 0 = if j < i ∨ l.length - i ≤ j then l.getD (l.length - 1 - j) 0 else l.getD j 0
  | 0, _, j, hj => by simp only [sw]; rw [if_neg (by omega)]
  | i + 1, hi, j, hj => by
    have hl := sw_len l i
    have ih := sw_get l i (by omega)
    have h1 := ih i (by omega)
    have h2 := ih (l.length - 1 - i) (by omega)
    have h3 := ih j hj
    rw [if_neg (by omega)] at h1 h2
    simp only [sw]
    rw [getD_setL _ _ _ _ (by rw [List.length_set]; omega), getD_setL _ _ _ _ (by omega), h1, h2, h3]
    by_cases e1 : l.length - 1 - i = j
    · rw [if_pos e1, if_pos (by omega)]; congr 1; omega
    · rw [if_neg e1]
      by_cases e2 : i = j
      · subst e2; rw [if_pos rfl, if_pos (by omega)]
      · rw [if_neg e2]
        by_cases e3 : j < i ∨ l.length - i ≤ j
        · rw [if_pos e3, if_pos (by omega)]
        · rw [if_neg e3, if_neg (by omega)]
theorem sw_rev (l : List Nat) : sw l (l.length / 2) = l.reverse := by
  apply List.ext_getElem?
  intro j
  by_cases hj : j < l.length
  · have hs : j < (sw l (l.length / 2)).length := by rw [sw_len]; exact hj
    have := sw_get l (l.length / 2) (by omega) j hj
    rw [List.getElem?_eq_getElem hs, List.getElem?_eq_getElem (by simpa using hj)]
    congr 1
    have e1 : (sw l (l.length / 2)).getD j 0 = (sw l (l.length / 2))[j] := by simp [hs]
    rw [← e1, this]
    rw [List.getElem_reverse]
    split
    · simp [show l.length - 1 - j < l.length by omega]
    · rename_i h
      have : l.length - 1 - j = j := by omega
      simp only [this]
      simp [hj]
  · rw [List.getElem?_eq_none (by rw [sw_len]; omega), List.getElem?_eq_none (by simpa using hj)]
/-- The slice's own cells, and what lies behind. -/
noncomputable abbrev rvS (H : AHeap) (k c : Nat) (l : List Nat) (z : List AV) (i : Nat) : St := ([(3, .int .i64 ((l.length : Int) - 1 - i)), (2, .int .i64 i), (0, .ref k 0 l.length c c 1 false)], hset H k ⟨.row, ins (sw l i) ++ z⟩)
theorem rv_go {C : Callee} {B : Nat} {H : AHeap} {k c : Nat} {l : List Nat} {z : List AV} (hk : (hget H k).isSome = true) (ha : ascH 0 H = true) (hc : l.length + z.length = c) (h6 : l.length < 900) (i : Nat) (hi : i < l.length / 2) :
    ∃ s', execA E C (fg 129) B 28 H 1000 c129_4 (rvS H k c l z i) = some (.normal, s') ∧ headA H s' = rvS H k c l z (i + 1) := by
  have has : ∀ b, ascH 0 (hset H k b) = true := fun b => asc_hset ha (Nat.zero_le _)
  have hl := sw_len l i
  have hlen : (ins (sw l i) ++ z).length = c := by rw [List.length_append, ins_length, hl, hc]
  have hlen2 : ∀ x y : Nat, (ins ((sw l i).set x y) ++ z).length = c := fun x y => by rw [List.length_append, ins_length, List.length_set, hl, hc]
  have a1 : (ins (sw l i) ++ z)[i]? = some (.int .i64 ((sw l i).getD i 0 : Nat)) := by
    rw [List.getElem?_append_left (by rw [ins_length, hl]; omega)]; exact ins_at (getD_at hl (by omega))
  have a2 : (ins (sw l i) ++ z)[l.length - 1 - i]? = some (.int .i64 ((sw l i).getD (l.length - 1 - i) 0 : Nat)) := by
    rw [List.getElem?_append_left (by rw [ins_length, hl]; omega)]; exact ins_at (getD_at hl (by omega))
  have b1 : ∀ (m : List Nat) (j x : Nat), m.length = l.length → j < l.length → (ins m ++ z).set j (.int .i64 (x : Int)) = ins (m.set j x) ++ z := by
    intro m j x hm hj
    rw [List.set_append_left _ _ (by rw [ins_length]; omega), ins_set]
  have e : sw l (i + 1) = ((sw l i).set i ((sw l i).getD (l.length - 1 - i) 0)).set (l.length - 1 - i) ((sw l i).getD i 0) := rfl
  have b2 := b1 (sw l i) i ((sw l i).getD (l.length - 1 - i) 0) hl (by omega)
  have b3 := b1 ((sw l i).set i ((sw l i).getD (l.length - 1 - i) 0)) (l.length - 1 - i) ((sw l i).getD i 0) (by simp [hl]) (by omega)
  have hl3 := hlen2 i ((sw l i).getD (l.length - 1 - i) 0)
  have ej : ((l.length : Int) - 1 - i).toNat = l.length - 1 - i := by omega
  have g1 : (i : Int) < (l.length : Int) - 1 - i := by omega
  have g2 : (l.length : Int) - 1 - i < l.length := by omega
  have g3 : 0 ≤ (l.length : Int) - 1 - i := by omega
  have g4 : (i : Int) < l.length := by omega
  have w : wrp .i64 ((l.length : Int) - 1 - i - 1) = (l.length : Int) - 1 - (i + 1 : Nat) := by rw [wrp64 (by omega)]; omega
  simp only [rvS, e]
  generalize (sw l i).getD i 0 = x at *
  generalize (sw l i).getD (l.length - 1 - i) 0 = y at *
  generalize sw l i = m at *
  simp (disch := omega) only [condX_bool, blockX_normal, Bool.not_true, Bool.not_false, run_nil, run_cons, fget_cons', fput_cons', forget_nil, forget_cons', gcM_c, stp, just, Rd.bind, Rd.run, Rd.opt, upds, acells, tsz, rdCells, aLoad, aStore, opStore, aIndexAddr, aNum, aBin, aInt, putC, Nat.reduceAdd, Nat.reduceLT, Nat.reduceBEq, Nat.reduceEqDiff, Nat.reduceLeDiff, ↓reduceIte, reduceCtorEq, liveBlk_eq, Nat.zero_add, List.nil_append, rtX_some, addT_some, drX_some, runT_nil, runT_cons, neat_eq, descF_nil', descF_cons', stpT, Rd.foot, writing, touching, Tr.empty, dynPairs, apartT, disj, List.isEmpty_nil, List.isEmpty_cons, List.map_nil, List.map_cons, Bool.not_false, Bool.not_true, Bool.true_or, Bool.or_true, Bool.or_false, Bool.and_true, Bool.true_and, Bool.and_self, decide_true, putD_some, putD_none, and_true, true_and, Int.natCast_nonneg, Int.toNat_natCast, snaps, List.append_nil, List.elem_cons, List.elem_nil, List.length_cons, List.length_nil, frz_nil, seqN, bindN, regN, snap_int, List.all_cons, List.all_nil, Nat.le_refl, Nat.mul_one, List.not_mem_nil, beq_self_eq_true, Bool.false_eq_true, T_3, T_36, List.all_cons, List.all_nil, List.getD_cons_zero, List.getD_cons_succ, beq_self_eq_true, x129_6, r129_1_l, s129_1_0, s129_1_1, s129_1_2, x129_8, x129_9, x129_7, x129_5, x129_12, r129_3_l, r129_3_dr, r129_3_an, s129_3_0, s129_3_1, s129_3_2, s129_3_3, s129_3_4, s129_3_5, s129_3_6, s129_3_7, s129_3_8, s129_3_9, s129_3_10, s129_3_11, s129_3_12, s129_3_13, s129_3_14, s129_3_15, x129_11, x129_13, r129_2_l, s129_2_0, s129_2_1, s129_2_2, s129_2_3, s129_2_4, s129_2_5, x129_10, x129_4, hg_hs, hs_hs, has, hlen, hl3, a1, a2, b2, b3, ej, g1, g2, g3, g4, w, if_pos, wrp_succ (show i < 1000000 by omega)]
  exact ⟨_, rfl, headA_set _ hk⟩
theorem rev_run {C : Callee} {B : Nat} {H : AHeap} {k c : Nat} {l : List Nat} {z : List AV} (hH : hset H k ⟨.row, ins l ++ z⟩ = H) (hk : (hget H k).isSome = true) (ha : ascH 0 H = true) (hc : l.length + z.length = c) (h6 : l.length < 900) :
    bodyA E C fg 1000 129 [.ref k 0 l.length c c 1 false] H B = some (.tup [], hset H k ⟨.row, ins l.reverse ++ z⟩) := by
  have hloop := loopE (E0 := H) (f := execA E C (fg 129) B 28 H 1000 c129_4) (rvS H k c l z) (l.length / 2) (fun i hi => rv_go hk ha hc h6 i hi) (headA_set _ hk) (by omega)
    (e := .exit 0) (se := ([(9, .bool false), (3, .int .i64 ((l.length : Int) - 1 - (l.length / 2 : Nat))), (2, .int .i64 (l.length / 2 : Nat)), (0, .ref k 0 l.length c c 1 false)], hset H k ⟨.row, ins l.reverse ++ z⟩))
    (by
      have g1 : ¬ ((l.length / 2 : Nat) : Int) < (l.length : Int) - 1 - (l.length / 2 : Nat) := by omega
      simp (disch := omega) only [seqX_exit, condX_bool, run_nil, run_cons, fget_cons', fput_cons', forget_nil, forget_cons', gcM_c, stp, just, Rd.bind, Rd.run, Rd.opt, upds, aBin, aInt, Nat.reduceBEq, Nat.reduceEqDiff, Nat.reduceLeDiff, ↓reduceIte, decide_false, putD_some, List.elem_cons, List.elem_nil, seqN, bindN, regN, beq_self_eq_true, Bool.false_eq_true, beq_self_eq_true, x129_6, r129_1_l, s129_1_0, s129_1_1, s129_1_2, x129_8, x129_9, x129_7, x129_5, x129_4, rvS, sw_rev, g1]) (by simp)
  have hlen : (ins l ++ z).length = c := by rw [List.length_append, ins_length, hc]
  have w : wrp .i64 ((l.length : Int) - 1) = (l.length : Int) - 1 - (0 : Nat) := by rw [wrp64 (by omega)]; omega
  have hg : hget H k = some ⟨.row, ins l ++ z⟩ := by rw [← hH]; exact hg_hs _ _ _
  simp only [rvS, sw, cl0, hH] at hloop
  simp only [cl0] at w
  simp (disch := omega) only [blockX_exit, bodyX_normal, run_nil, run_cons, fget_cons', fput_cons', forget_nil, forget_cons', frame0, gcM_c, stp, just, Rd.bind, Rd.run, Rd.opt, upds, resA, resL, aLen, aBuiltin, aBin, aInt, Nat.reduceBEq, Nat.reduceEqDiff, Nat.reduceLeDiff, ↓reduceIte, reduceCtorEq, liveBlk_eq, List.getElem?_toArray, putD_some, Option.map_some, List.elem_cons, List.elem_nil, List.getElem?_cons_zero, seqN, bindN, regN, beq_self_eq_true, Bool.false_eq_true, T_36, beq_self_eq_true, x129_1, r129_0_l, s129_0_0, s129_0_1, s129_0_2, s129_0_3, s129_0_4, x129_3, x129_2, x129_0, b_129, hg, hlen, w, hloop]
end Go.AM.YtgfnbmfjbjopkaaDoor
end

section
namespace Go.AM.YtgfnbmfjbjopkaaDoor
open Go Go.AM Go.AM.Mule
set_option maxRecDepth 100000
set_option maxHeartbeats 4000000
/-- A function value that compares numbers of a list by what they cost. -/
structure Cmp (C : Callee) (f : AV) (l : List Nat) (F : Nat → Int) : Prop where
  mt : ∀ args, mutV E f args = none
  call : ∀ (site : Nat → Nat) i k, i ∈ l → k ∈ l → opCallV E C site true f [.int .i64 (i : Int), .int .i64 (k : Int)] = .pure (.int .i64 (F i - F k), [])
  refs : refsOf f = []
/-- The first cheapest one. -/
def mnF (F : Nat → Int) (x : Nat) (l : List Nat) : Nat := l.foldl (fun m k => if F k < F m then k else m) x
theorem mnF_mem (F : Nat → Int) : ∀ (l : List Nat) (x : Nat), mnF F x l ∈ x :: l
  | [], x => by simp [mnF]
  | k :: l, x => by
    show mnF F (if F k < F x then k else x) l ∈ _
    have := mnF_mem F l (if F k < F x then k else x)
    simp only [List.mem_cons] at this ⊢
    rcases this with e | h
    · by_cases hlt : F k < F x
      · rw [if_pos hlt] at e ⊢; exact .inr (.inl e)
      · rw [if_neg hlt] at e ⊢; exact .inl e
    · exact .inr (.inr h)
theorem mnF_snoc (F : Nat → Int) (x : Nat) (l : List Nat) (k : Nat) : mnF F x (l ++ [k]) = if F k < F (mnF F x l) then k else mnF F x l := by rw [mnF, List.foldl_append]; rfl
abbrev mfS (l : List Nat) (ex : Bool) (f : AV) (x : Nat) (F : Nat → Int) (i : Nat) : St := ([(6, .int .i64 (i + 1 : Nat)), (5, .int .i64 (mnF F x ((l.drop 1).take i))), (1, f), (0, .imm (ins l) l.length ex)], [])
theorem mf_head (l : List Nat) (ex : Bool) (f : AV) (x : Nat) (F : Nat → Int) (i : Nat) (φ : AFr) (H : AHeap) (hr : refsOf f = []) (h : φ = (mfS l ex f x F i).1) : headA [] (φ, H) = mfS l ex f x F i := by
  subst h
  rw [headA_drop]
  simp only [refsF, refsOf, hr, List.append_nil]
theorem mf_run {C : Callee} {f : AV} {x : Nat} {l : List Nat} {F : Nat → Int} {ex : Bool} (h : Cmp C f (x :: l) F) (hl : l.length < 900) :
    rsOf (bodyA E C fg 1000 130 [.imm (ins (x :: l)) (x :: l).length ex, f] [] 0) = some (.int .i64 (mnF F x l)) := by
  obtain ⟨hm, hc, hr⟩ := h
  have hin := ins_length (x :: l)
  have hlen : (x :: l).length = l.length + 1 := rfl
  have hn0 : ¬ ((x :: l).length : Int) < 1 := by omega
  have h0 := ins_at (l := x :: l) (k := 0) (i := x) rfl
  generalize hL : x :: l = L at *
  have hd : L.drop 1 = l := by rw [← hL]; rfl
  have hloop := loopN (f := (execA E C (fg 130) 0 33 [] 1000 c130_15)) (mfS L ex f x F) l.length (fun i hi => by
      have hk : L[i + 1]? = some l[i] := by rw [← hL]; simp [hi]
      have hmem : l[i] ∈ L := by rw [← hL]; exact List.mem_cons_of_mem _ (List.getElem_mem hi)
      have hmm : mnF F x (l.take i) ∈ L := by
        have := mnF_mem F (l.take i) x
        rw [← hL]
        rcases List.mem_cons.1 this with e | hh
        · rw [e]; simp
        · exact List.mem_cons_of_mem _ (List.mem_of_mem_take hh)
      have hcall := fun site => hc site l[i] (mnF F x (l.take i)) hmem hmm
      have hn : mnF F x (l.take (i + 1)) = if F l[i] < F (mnF F x (l.take i)) then l[i] else mnF F x (l.take i) := by
        rw [List.take_add_one, List.getElem?_eq_getElem hi, Option.toList_some, mnF_snoc]
      have g1 : ((i + 1 : Nat) : Int) < L.length := by omega
      have hat := ins_at hk
      simp only [mfS, hd, hn]
      generalize mnF F x (l.take i) = m at *
      generalize l[i] = k at *
      by_cases hlt : F k < F m
      · have g2 : F k - F m < 0 := by omega
        rw [if_pos hlt]
        simp (disch := omega) only [condX_bool, blockX_normal, run_nil, run_cons, fget_cons', fput_cons', forget_nil, forget_cons', gcM_c, stp, just, Rd.bind, Rd.run, Rd.opt, upds, tsz, rdCells, aLoad, aIndexAddr, aNum, aLen, aBuiltin, aBin, aInt, Nat.reduceMul, Nat.reduceLT, Nat.reduceBEq, Nat.reduceEqDiff, Nat.reduceLeDiff, ↓reduceIte, reduceCtorEq, Nat.zero_add, List.getElem?_toArray, decide_true, putD_some, and_true, Int.natCast_nonneg, Int.toNat_natCast, List.elem_cons, List.elem_nil, List.getElem?_cons_zero, seqN, bindN, regN, Nat.mul_one, beq_self_eq_true, Bool.false_eq_true, T_3, T_36, beq_self_eq_true, x130_17, r130_5_l, s130_5_0, s130_5_1, s130_5_2, s130_5_3, x130_19, x130_20, x130_18, x130_16, x130_24, r130_7_l, s130_7_0, s130_7_1, s130_7_2, s130_7_3, s130_7_4, s130_7_5, s130_7_6, s130_7_7, x130_26, r130_8_l, s130_8_0, s130_8_1, s130_8_2, s130_8_3, s130_8_4, x130_27, x130_25, x130_23, x130_22, x130_28, r130_6_l, s130_6_0, s130_6_1, s130_6_2, x130_21, x130_15, g1, g2, hat, hin, callV_eq (hm _), hcall, wrp_succ (show i + 1 < 1000000 by omega)]
        exact ⟨_, rfl, by rw [headA_drop]; simp only [refsF, refsOf, hr, List.append_nil]⟩
      · have g2 : ¬ F k - F m < 0 := by omega
        rw [if_neg hlt]
        simp (disch := omega) only [condX_bool, blockX_normal, run_nil, run_cons, fget_cons', fput_cons', forget_nil, forget_cons', gcM_c, stp, just, Rd.bind, Rd.run, Rd.opt, upds, tsz, rdCells, aLoad, aIndexAddr, aNum, aLen, aBuiltin, aBin, aInt, Nat.reduceMul, Nat.reduceLT, Nat.reduceBEq, Nat.reduceEqDiff, Nat.reduceLeDiff, ↓reduceIte, reduceCtorEq, Nat.zero_add, List.getElem?_toArray, decide_true, decide_false, putD_some, and_true, Int.natCast_nonneg, Int.toNat_natCast, List.elem_cons, List.elem_nil, List.getElem?_cons_zero, seqN, bindN, regN, Nat.mul_one, beq_self_eq_true, Bool.false_eq_true, T_3, T_36, beq_self_eq_true, x130_17, r130_5_l, s130_5_0, s130_5_1, s130_5_2, s130_5_3, x130_19, x130_20, x130_18, x130_16, x130_24, r130_7_l, s130_7_0, s130_7_1, s130_7_2, s130_7_3, s130_7_4, s130_7_5, s130_7_6, s130_7_7, x130_26, r130_8_l, s130_8_0, s130_8_1, s130_8_2, s130_8_3, s130_8_4, x130_27, x130_25, x130_23, x130_22, x130_28, r130_6_l, s130_6_0, s130_6_1, s130_6_2, x130_21, x130_15, g1, g2, hat, hin, callV_eq (hm _), hcall, wrp_succ (show i + 1 < 1000000 by omega)]
        exact ⟨_, rfl, by rw [headA_drop]; simp only [refsF, refsOf, hr, List.append_nil]⟩) (mf_head _ _ _ _ _ _ _ _ hr rfl) (by omega)
    (e := .exit 0) (se := ([(17, .bool false), (6, .int .i64 L.length), (5, .int .i64 (mnF F x l)), (1, f), (0, .imm (ins L) L.length ex)], []))
    (by
      have e : ((l.length + 1 : Nat) : Int) = L.length := by omega
      simp only [mfS, hd, List.take_length, e]
      simp (disch := omega) only [seqX_exit, condX_bool, run_nil, run_cons, fget_cons', fput_cons', forget_nil, forget_cons', gcM_c, stp, just, Rd.bind, Rd.run, Rd.opt, upds, aLen, aBuiltin, aBin, aInt, Nat.reduceBEq, Nat.reduceEqDiff, Nat.reduceLeDiff, ↓reduceIte, reduceCtorEq, List.getElem?_toArray, decide_false, putD_some, List.elem_cons, List.elem_nil, List.getElem?_cons_zero, seqN, bindN, regN, beq_self_eq_true, Int.lt_irrefl, Bool.false_eq_true, T_36, x130_17, r130_5_l, s130_5_0, s130_5_1, s130_5_2, s130_5_3, x130_19, x130_20, x130_18, x130_16, x130_15]) (by simp)
  have z : mnF F x (List.take 0 l) = x := rfl
  simp only [mfS, hd, z, Nat.zero_add, cl1] at hloop
  simp (disch := omega) only [condX_bool, blockX_exit, bodyX_ret, run_nil, run_cons, fget_cons', fput_nil, fput_cons', forget_nil, forget_cons', frame0, gcM_n, gcM_c, stp, just, Rd.bind, Rd.run, Rd.opt, upds, tsz, rdCells, aLoad, resA, resL, aIndexAddr, aNum, aLen, aBuiltin, aBin, aInt, Nat.reduceLT, Nat.reduceBEq, Nat.reduceEqDiff, Nat.reduceLeDiff, ↓reduceIte, reduceCtorEq, Nat.zero_add, List.getElem?_toArray, decide_false, putD_some, and_true, true_and, Option.map_some, List.elem_cons, List.elem_nil, List.getElem?_cons_zero, seqN, bindN, regN, Int.reduceLE, Int.reduceToNat, Nat.mul_one, beq_self_eq_true, Bool.false_eq_true, T_3, T_36, x130_1, r130_0_l, s130_0_0, x130_4, r130_1_l, s130_1_0, s130_1_1, s130_1_2, x130_7, x130_5, x130_3, x130_9, r130_3_l, s130_3_0, s130_3_1, s130_3_2, s130_3_3, x130_12, r130_4_l, s130_4_0, x130_14, x130_13, x130_11, x130_30, r130_9_l, s130_9_0, s130_9_1, x130_31, x130_29, x130_10, x130_8, x130_2, x130_0, b_130, hin, h0, hn0, hloop, if_pos]
theorem mf_call {d : Nat} {f : AV} {x : Nat} {l : List Nat} {F : Nat → Int} {ex : Bool} {site : Nat → Nat} {seen : List Nat} (h : Cmp (callA E fg 1000 d) f (x :: l) F) (hl : l.length < 900) :
    aBack site true seen (thaw (callA E fg 1000 (d + 1)) 130 [.imm (ins (x :: l)) (x :: l).length ex, f] [] 0) = .pure (.int .i64 (mnF F x l), []) :=
  aBack_int (rs_ex (mf_run h hl))
/-- Of a list turned round the first cheapest one is the last cheapest one. -/
theorem mn_pick (F : Nat → Int) : ∀ (l : List Nat) (x : Nat) (r : List Nat), (l ++ [x]).reverse = x :: r → mnF F x r = pick F (l ++ [x])
  | [], x, r, h => by simp at h; subst h; rfl
  | i :: l, x, r, h => by
    have hr : (l ++ [x]).reverse = x :: l.reverse := by simp
    have e : r = l.reverse ++ [i] := by simp at h; exact h.symm
    subst e
    rw [mnF_snoc, mn_pick F l x l.reverse hr]
    cases hl : l ++ [x] with
    | nil => simp at hl
    | cons j t => rw [List.cons_append, hl]; rfl
theorem mn_pick' (F : Nat → Int) {l : List Nat} (h : l ≠ []) : ∃ x r, l.reverse = x :: r ∧ mnF F x r = pick F l := by
  obtain ⟨l', x, rfl⟩ : ∃ l' x, l = l' ++ [x] := ⟨l.dropLast, l.getLast h, (List.dropLast_concat_getLast h).symm⟩
  exact ⟨x, l'.reverse, by simp, mn_pick F l' x l'.reverse (by simp)⟩
end Go.AM.YtgfnbmfjbjopkaaDoor
end

section
namespace Go.AM.YtgfnbmfjbjopkaaDoor
open Go Go.AM
set_option maxRecDepth 100000
variable {C : Callee} {B N : Nat} {E0 : AHeap} (φ : AFr) (H : AHeap) (s : St)
noncomputable def c89_0 : Code := kBody Proofs.Tryd.f89
noncomputable def c89_1 : Code := kL c89_0
noncomputable def r89_0 : Array Oper := kO c89_1
noncomputable def o89_0_0 : Oper := opN r89_0 0
noncomputable def o89_0_1 : Oper := opN r89_0 1
noncomputable def o89_0_2 : Oper := opN r89_0 2
theorem x89_1 : execA E C (fg 89) B 46 E0 N c89_1 s = regX (runA E C B 46 r89_0 r89_0.toList s) (fun s => gcM E0 [0, 2, 3] (forget s.1 [0, 2, 3], s.2)) := x_reg (ops := r89_0) (by rfl) (by rfl) s
theorem r89_0_l : r89_0.toList = [o89_0_0, o89_0_1, o89_0_2] := nrfl rfl
theorem s89_0_0 : stepA E C B 46 r89_0 o89_0_0 (φ, H) = stp (some 1) φ H (opBox (B + 1) (acells (fget φ 0))) := nrfl rfl
theorem s89_0_1 : stepA E C B 46 r89_0 o89_0_1 (φ, H) = some (fput φ 2 (.nilsl), H) := nrfl rfl
theorem s89_0_2 : stepA E C B 46 r89_0 o89_0_2 (φ, H) = some (fput φ 3 (.int .i64 0), H) := nrfl rfl
noncomputable def c89_2 : Code := kR c89_0
noncomputable def c89_3 : Code := kL c89_2
noncomputable def r89_1 : Array Oper := kO c89_3
noncomputable def o89_1_0 : Oper := opN r89_1 0
theorem x89_3 : execA E C (fg 89) B 46 E0 N c89_3 s = regX (runA E C B 46 r89_1 r89_1.toList s) (fun s => gcM E0 [] (forget s.1 [], s.2)) := x_reg (ops := r89_1) (by rfl) (by rfl) s
theorem r89_1_l : r89_1.toList = [o89_1_0] := nrfl rfl
theorem s89_1_0 : stepA E C B 46 r89_1 o89_1_0 (φ, H) = some (fput φ 4 (.nilsl), H) := nrfl rfl
noncomputable def c89_4 : Code := kR c89_2
noncomputable def c89_5 : Code := kL c89_4
noncomputable def r89_2 : Array Oper := kO c89_5
noncomputable def o89_2_0 : Oper := opN r89_2 0
theorem x89_5 : execA E C (fg 89) B 46 E0 N c89_5 s = regX (runA E C B 46 r89_2 r89_2.toList s) (fun s => gcM E0 [] (forget s.1 [], s.2)) := x_reg (ops := r89_2) (by rfl) (by rfl) s
theorem r89_2_l : r89_2.toList = [o89_2_0] := nrfl rfl
theorem s89_2_0 : stepA E C B 46 r89_2 o89_2_0 (φ, H) = some (fput φ 5 (.int .i64 0), H) := nrfl rfl
noncomputable def c89_6 : Code := kR c89_4
noncomputable def c89_7 : Code := kL c89_6
noncomputable def c89_8 : Code := kL c89_7
noncomputable def r89_3 : Array Oper := kO c89_8
noncomputable def o89_3_0 : Oper := opN r89_3 0
noncomputable def o89_3_1 : Oper := opN r89_3 1
noncomputable def o89_3_2 : Oper := opN r89_3 2
theorem x89_8 : execA E C (fg 89) B 46 E0 N c89_8 s = regX (runA E C B 46 r89_3 r89_3.toList s) (fun s => gcM E0 [10, 11] (forget s.1 [10, 11], s.2)) := x_reg (ops := r89_3) (by rfl) (by rfl) s
theorem r89_3_l : r89_3.toList = [o89_3_0, o89_3_1, o89_3_2] := nrfl rfl
theorem s89_3_0 : stepA E C B 46 r89_3 o89_3_0 (φ, H) = stp (some 10) φ H (just (aLoad E.T 109 (fget φ 1))) := nrfl rfl
theorem s89_3_1 : stepA E C B 46 r89_3 o89_3_1 (φ, H) = stp (some 11) φ H (aCall C (fun j => B + j * 46 + 11) true 95 [(fget φ 10)]) := nrfl rfl
theorem s89_3_2 : stepA E C B 46 r89_3 o89_3_2 (φ, H) = some (fput φ 6 (fget φ 11), H) := nrfl rfl
noncomputable def c89_9 : Code := kR c89_7
noncomputable def c89_10 : Code := kB c89_9
noncomputable def c89_11 : Code := kB c89_10
noncomputable def c89_12 : Code := kL c89_11
noncomputable def c89_13 : Code := kL c89_12
noncomputable def r89_4 : Array Oper := kO c89_13
noncomputable def o89_4_0 : Oper := opN r89_4 0
noncomputable def o89_4_1 : Oper := opN r89_4 1
theorem x89_13 : execA E C (fg 89) B 46 E0 N c89_13 s = regX (runA E C B 46 r89_4 r89_4.toList s) (fun s => gcM E0 [12] (forget s.1 [12], s.2)) := x_reg (ops := r89_4) (by rfl) (by rfl) s
theorem r89_4_l : r89_4.toList = [o89_4_0, o89_4_1] := nrfl rfl
theorem s89_4_0 : stepA E C B 46 r89_4 o89_4_0 (φ, H) = some (fput φ 12 (fget φ 6), H) := nrfl rfl
theorem s89_4_1 : stepA E C B 46 r89_4 o89_4_1 (φ, H) = stp (some 13) φ H (just (aBin E.T .neq 121 (fget φ 12) (.int .u64 0))) := nrfl rfl
noncomputable def c89_14 : Code := kR c89_12
noncomputable def c89_15 : Code := kT c89_14
theorem x89_15 : execA E C (fg 89) B 46 E0 N c89_15 s = some (.normal, s) := x_skip (by rfl) s
noncomputable def c89_16 : Code := kE c89_14
theorem x89_16 : execA E C (fg 89) B 46 E0 N c89_16 s = some (.exit 0, s) := x_exit (by rfl) s
theorem x89_14 : execA E C (fg 89) B 46 E0 N c89_14 (φ, H) = condX (fget φ 13) (execA E C (fg 89) B 46 E0 N c89_15 (φ, H)) (execA E C (fg 89) B 46 E0 N c89_16 (φ, H)) := x_cond (by rfl) _
theorem x89_12 : execA E C (fg 89) B 46 E0 N c89_12 s = seqX (execA E C (fg 89) B 46 E0 N c89_13 s) (execA E C (fg 89) B 46 E0 N c89_14) := x_seq (by rfl) s
noncomputable def c89_17 : Code := kR c89_11
noncomputable def c89_18 : Code := kB c89_17
noncomputable def c89_19 : Code := kL c89_18
noncomputable def r89_5 : Array Oper := kO c89_19
noncomputable def o89_5_0 : Oper := opN r89_5 0
noncomputable def o89_5_1 : Oper := opN r89_5 1
noncomputable def o89_5_2 : Oper := opN r89_5 2
noncomputable def o89_5_3 : Oper := opN r89_5 3
noncomputable def o89_5_4 : Oper := opN r89_5 4
theorem x89_19 : execA E C (fg 89) B 46 E0 N c89_19 s = regX (runA E C B 46 r89_5 r89_5.toList s) (fun s => gcM E0 [13, 14, 15, 16] (forget s.1 [13, 14, 15, 16], s.2)) := x_reg (ops := r89_5) (by rfl) (by rfl) s
theorem r89_5_l : r89_5.toList = [o89_5_0, o89_5_1, o89_5_2, o89_5_3, o89_5_4] := nrfl rfl
theorem s89_5_0 : stepA E C B 46 r89_5 o89_5_0 (φ, H) = stp (some 14) φ H (just (aLoad E.T 109 (fget φ 1))) := nrfl rfl
theorem s89_5_1 : stepA E C B 46 r89_5 o89_5_1 (φ, H) = some (fput φ 15 (fget φ 6), H) := nrfl rfl
theorem s89_5_2 : stepA E C B 46 r89_5 o89_5_2 (φ, H) = stp (some 16) φ H (aCall C (fun j => B + j * 46 + 16) true 100 [(fget φ 14), (fget φ 15)]) := nrfl rfl
theorem s89_5_3 : stepA E C B 46 r89_5 o89_5_3 (φ, H) = stp (some 7) φ H (opBox (B + 7) (zeroCells E.T 3)) := nrfl rfl
theorem s89_5_4 : stepA E C B 46 r89_5 o89_5_4 (φ, H) = stp none φ H (opStore E.T 3 (fget φ 7) (fget φ 16)) := nrfl rfl
noncomputable def c89_20 : Code := kR c89_18
noncomputable def c89_21 : Code := kL c89_20
noncomputable def r89_6 : Array Oper := kO c89_21
noncomputable def o89_6_0 : Oper := opN r89_6 0
noncomputable def o89_6_1 : Oper := opN r89_6 1
noncomputable def o89_6_2 : Oper := opN r89_6 2
noncomputable def o89_6_3 : Oper := opN r89_6 3
theorem x89_21 : execA E C (fg 89) B 46 E0 N c89_21 s = regX (runA E C B 46 r89_6 r89_6.toList s) (fun s => gcM E0 [17, 18, 19] (forget s.1 [17, 18, 19], s.2)) := x_reg (ops := r89_6) (by rfl) (by rfl) s
theorem r89_6_l : r89_6.toList = [o89_6_0, o89_6_1, o89_6_2, o89_6_3] := nrfl rfl
theorem s89_6_0 : stepA E C B 46 r89_6 o89_6_0 (φ, H) = stp (some 17) φ H (just (aLoad E.T 109 (fget φ 1))) := nrfl rfl
theorem s89_6_1 : stepA E C B 46 r89_6 o89_6_1 (φ, H) = some (fput φ 18 (fget φ 6), H) := nrfl rfl
theorem s89_6_2 : stepA E C B 46 r89_6 o89_6_2 (φ, H) = stp (some 19) φ H (aCall C (fun j => B + j * 46 + 19) true 128 [(fget φ 17), (fget φ 18)]) := nrfl rfl
theorem s89_6_3 : stepA E C B 46 r89_6 o89_6_3 (φ, H) = some (fput φ 8 (fget φ 19), H) := nrfl rfl
noncomputable def c89_22 : Code := kR c89_20
noncomputable def c89_23 : Code := kL c89_22
noncomputable def r89_7 : Array Oper := kO c89_23
noncomputable def o89_7_0 : Oper := opN r89_7 0
noncomputable def o89_7_1 : Oper := opN r89_7 1
theorem x89_23 : execA E C (fg 89) B 46 E0 N c89_23 s = regX (runA E C B 46 r89_7 r89_7.toList s) (fun s => gcM E0 [20, 21] (forget s.1 [20, 21], s.2)) := x_reg (ops := r89_7) (by rfl) (by rfl) s
theorem r89_7_l : r89_7.toList = [o89_7_0, o89_7_1] := nrfl rfl
theorem s89_7_0 : stepA E C B 46 r89_7 o89_7_0 (φ, H) = some (fput φ 20 (fget φ 8), H) := nrfl rfl
theorem s89_7_1 : stepA E C B 46 r89_7 o89_7_1 (φ, H) = mutX (some 21) φ (C 129 [(fget φ 20)] H (B + 46 * 8)) := nrfl rfl
noncomputable def c89_24 : Code := kR c89_22
noncomputable def c89_25 : Code := kL c89_24
noncomputable def r89_8 : Array Oper := kO c89_25
noncomputable def o89_8_0 : Oper := opN r89_8 0
noncomputable def o89_8_1 : Oper := opN r89_8 1
noncomputable def o89_8_2 : Oper := opN r89_8 2
noncomputable def o89_8_3 : Oper := opN r89_8 3
theorem x89_25 : execA E C (fg 89) B 46 E0 N c89_25 s = regX (runA E C B 46 r89_8 r89_8.toList s) (fun s => gcM E0 [8, 22, 23, 24] (forget s.1 [8, 22, 23, 24], s.2)) := x_reg (ops := r89_8) (by rfl) (by rfl) s
theorem r89_8_l : r89_8.toList = [o89_8_0, o89_8_1, o89_8_2, o89_8_3] := nrfl rfl
theorem s89_8_0 : stepA E C B 46 r89_8 o89_8_0 (φ, H) = some (fput φ 22 (fget φ 8), H) := nrfl rfl
theorem s89_8_1 : stepA E C B 46 r89_8 o89_8_1 (φ, H) = stp (some 23) φ H (.pure (.clo 131 [(fget φ 1), (fget φ 7)], [])) := nrfl rfl
theorem s89_8_2 : stepA E C B 46 r89_8 o89_8_2 (φ, H) = stp (some 24) φ H (aCall C (fun j => B + j * 46 + 24) true 130 [(fget φ 22), (fget φ 23)]) := nrfl rfl
theorem s89_8_3 : stepA E C B 46 r89_8 o89_8_3 (φ, H) = some (fput φ 9 (fget φ 24), H) := nrfl rfl
noncomputable def c89_26 : Code := kR c89_24
noncomputable def c89_27 : Code := kL c89_26
noncomputable def r89_9 : Array Oper := kO c89_27
noncomputable def o89_9_0 : Oper := opN r89_9 0
noncomputable def o89_9_1 : Oper := opN r89_9 1
noncomputable def o89_9_2 : Oper := opN r89_9 2
noncomputable def o89_9_3 : Oper := opN r89_9 3
noncomputable def o89_9_4 : Oper := opN r89_9 4
noncomputable def o89_9_5 : Oper := opN r89_9 5
noncomputable def o89_9_6 : Oper := opN r89_9 6
noncomputable def o89_9_7 : Oper := opN r89_9 7
noncomputable def o89_9_8 : Oper := opN r89_9 8
noncomputable def o89_9_9 : Oper := opN r89_9 9
theorem x89_27 : execA E C (fg 89) B 46 E0 N c89_27 s = regX (drawA E C B 46 r89_9 s) (fun s => gcM E0 [7, 25, 26, 27, 28, 29, 30, 31, 32, 33] (forget s.1 [7, 25, 26, 27, 28, 29, 30, 31, 32, 33], s.2)) := x_draw (ops := r89_9) (by rfl) (by rfl) s
theorem r89_9_l : r89_9.toList = [o89_9_0, o89_9_1, o89_9_2, o89_9_3, o89_9_4, o89_9_5, o89_9_6, o89_9_7, o89_9_8, o89_9_9] := nrfl rfl
theorem r89_9_st : statOk r89_9 = true := by kernel_rfl
theorem r89_9_dr : drawA E C B 46 r89_9 s = if neat 46 s = true then drX r89_9 (runT E C B 46 r89_9 r89_9.toList 0 s) else none := draw_eq r89_9_st s
theorem r89_9_an (l : List (Nat × Tr)) : dynOk r89_9 l = (!writing l || dynPairs [[], [], [1], [], [1, 2, 3], [1, 2, 3, 4], [], [1, 2, 3, 4, 5, 6], [0, 1, 2, 3, 4, 5, 6, 7], [0, 1, 2, 3, 4, 5, 6, 7, 8]] (touching l)) := dynOk_eq (by kernel_rfl) l
theorem s89_9_0 : stepT E C B 46 r89_9 o89_9_0 (φ, H) = some ((fput φ 25 (fget φ 5), H), ⟨false, [], []⟩) := stT_go rfl (goT_mv rfl rfl)
theorem s89_9_1 : stepT E C B 46 r89_9 o89_9_1 (φ, H) = stpT (some 26) φ H (just (aFieldAddr E.T 109 (fget φ 1) 0)) := stT_go rfl (goT_R rfl rfl)
theorem s89_9_2 : stepT E C B 46 r89_9 o89_9_2 (φ, H) = stpT (some 27) φ H (just (aLoad E.T 106 (fget φ 26))) := stT_go rfl (goT_R rfl rfl)
theorem s89_9_3 : stepT E C B 46 r89_9 o89_9_3 (φ, H) = some ((fput φ 28 (fget φ 9), H), ⟨false, [], []⟩) := stT_go rfl (goT_mv rfl rfl)
theorem s89_9_4 : stepT E C B 46 r89_9 o89_9_4 (φ, H) = stpT (some 29) φ H (just (aIndexAddr E.T 106 (fget φ 27) (fget φ 28))) := stT_go rfl (goT_R rfl rfl)
theorem s89_9_5 : stepT E C B 46 r89_9 o89_9_5 (φ, H) = stpT (some 30) φ H (just (aLoad E.T 126 (fget φ 29))) := stT_go rfl (goT_R rfl rfl)
theorem s89_9_6 : stepT E C B 46 r89_9 o89_9_6 (φ, H) = stpT (some 31) φ H (just (aLoad E.T 3 (fget φ 7))) := stT_go rfl (goT_R rfl rfl)
theorem s89_9_7 : stepT E C B 46 r89_9 o89_9_7 (φ, H) = stpT (some 32) φ H (aCall C (fun j => B + j * 46 + 32) true 99 [(fget φ 30), (fget φ 31)]) := stT_go rfl (goT_R rfl rfl)
theorem s89_9_8 : stepT E C B 46 r89_9 o89_9_8 (φ, H) = stpT (some 33) φ H (aBuiltin E.T (B + 33) .max #[3, 3] [(fget φ 25), (fget φ 32)]) := stT_go rfl (goT_R rfl rfl)
theorem s89_9_9 : stepT E C B 46 r89_9 o89_9_9 (φ, H) = some ((fput φ 5 (fget φ 33), H), ⟨false, [], []⟩) := stT_go rfl (goT_mv rfl rfl)
noncomputable def c89_28 : Code := kR c89_26
noncomputable def c89_29 : Code := kL c89_28
noncomputable def r89_10 : Array Oper := kO c89_29
noncomputable def o89_10_0 : Oper := opN r89_10 0
noncomputable def o89_10_1 : Oper := opN r89_10 1
noncomputable def o89_10_2 : Oper := opN r89_10 2
noncomputable def o89_10_3 : Oper := opN r89_10 3
noncomputable def o89_10_4 : Oper := opN r89_10 4
theorem x89_29 : execA E C (fg 89) B 46 E0 N c89_29 s = regX (runA E C B 46 r89_10 r89_10.toList s) (fun s => gcM E0 [34, 35, 36, 37] (forget s.1 [34, 35, 36, 37], s.2)) := x_reg (ops := r89_10) (by rfl) (by rfl) s
theorem r89_10_l : r89_10.toList = [o89_10_0, o89_10_1, o89_10_2, o89_10_3, o89_10_4] := nrfl rfl
theorem s89_10_0 : stepA E C B 46 r89_10 o89_10_0 (φ, H) = some (fput φ 34 (fget φ 4), H) := nrfl rfl
theorem s89_10_1 : stepA E C B 46 r89_10 o89_10_1 (φ, H) = some (fput φ 35 (fget φ 9), H) := nrfl rfl
theorem s89_10_2 : stepA E C B 46 r89_10 o89_10_2 (φ, H) = stp (some 36) φ H (aBuildSlice E.T (B + 36) 36 1 (evO E φ) [(0, Operand.tmp 35)]) := nrfl rfl
theorem s89_10_3 : stepA E C B 46 r89_10 o89_10_3 (φ, H) = stp (some 37) φ H (aBuiltin E.T (B + 37) .append #[36, 36] [(fget φ 34), (fget φ 36)]) := nrfl rfl
theorem s89_10_4 : stepA E C B 46 r89_10 o89_10_4 (φ, H) = some (fput φ 4 (fget φ 37), H) := nrfl rfl
noncomputable def c89_30 : Code := kR c89_28
noncomputable def r89_11 : Array Oper := kO c89_30
noncomputable def o89_11_0 : Oper := opN r89_11 0
noncomputable def o89_11_1 : Oper := opN r89_11 1
noncomputable def o89_11_2 : Oper := opN r89_11 2
noncomputable def o89_11_3 : Oper := opN r89_11 3
noncomputable def o89_11_4 : Oper := opN r89_11 4
theorem x89_30 : execA E C (fg 89) B 46 E0 N c89_30 s = regX (runA E C B 46 r89_11 r89_11.toList s) (fun s => gcM E0 [9, 38, 39, 40, 41] (forget s.1 [9, 38, 39, 40, 41], s.2)) := x_reg (ops := r89_11) (by rfl) (by rfl) s
theorem r89_11_l : r89_11.toList = [o89_11_0, o89_11_1, o89_11_2, o89_11_3, o89_11_4] := nrfl rfl
theorem s89_11_0 : stepA E C B 46 r89_11 o89_11_0 (φ, H) = some (fput φ 38 (fget φ 6), H) := nrfl rfl
theorem s89_11_1 : stepA E C B 46 r89_11 o89_11_1 (φ, H) = some (fput φ 39 (fget φ 9), H) := nrfl rfl
theorem s89_11_2 : stepA E C B 46 r89_11 o89_11_2 (φ, H) = stp (some 40) φ H (just (aBin E.T .shl 121 (.int .u64 1) (fget φ 39))) := nrfl rfl
theorem s89_11_3 : stepA E C B 46 r89_11 o89_11_3 (φ, H) = stp (some 41) φ H (just (aBin E.T .andNot 121 (fget φ 38) (fget φ 40))) := nrfl rfl
theorem s89_11_4 : stepA E C B 46 r89_11 o89_11_4 (φ, H) = some (fput φ 6 (fget φ 41), H) := nrfl rfl
theorem x89_28 : execA E C (fg 89) B 46 E0 N c89_28 s = seqX (execA E C (fg 89) B 46 E0 N c89_29 s) (execA E C (fg 89) B 46 E0 N c89_30) := x_seq (by rfl) s
theorem x89_26 : execA E C (fg 89) B 46 E0 N c89_26 s = seqX (execA E C (fg 89) B 46 E0 N c89_27 s) (execA E C (fg 89) B 46 E0 N c89_28) := x_seq (by rfl) s
theorem x89_24 : execA E C (fg 89) B 46 E0 N c89_24 s = seqX (execA E C (fg 89) B 46 E0 N c89_25 s) (execA E C (fg 89) B 46 E0 N c89_26) := x_seq (by rfl) s
theorem x89_22 : execA E C (fg 89) B 46 E0 N c89_22 s = seqX (execA E C (fg 89) B 46 E0 N c89_23 s) (execA E C (fg 89) B 46 E0 N c89_24) := x_seq (by rfl) s
theorem x89_20 : execA E C (fg 89) B 46 E0 N c89_20 s = seqX (execA E C (fg 89) B 46 E0 N c89_21 s) (execA E C (fg 89) B 46 E0 N c89_22) := x_seq (by rfl) s
theorem x89_18 : execA E C (fg 89) B 46 E0 N c89_18 s = seqX (execA E C (fg 89) B 46 E0 N c89_19 s) (execA E C (fg 89) B 46 E0 N c89_20) := x_seq (by rfl) s
theorem x89_17 : execA E C (fg 89) B 46 E0 N c89_17 s = blockX 1 (fun s => (forget s.1 [], s.2)) (execA E C (fg 89) B 46 E0 N c89_18 s) := x_block (by rfl) (by rfl) s
theorem x89_11 : execA E C (fg 89) B 46 E0 N c89_11 s = seqX (execA E C (fg 89) B 46 E0 N c89_12 s) (execA E C (fg 89) B 46 E0 N c89_17) := x_seq (by rfl) s
theorem x89_10 : execA E C (fg 89) B 46 E0 N c89_10 s = iterA (execA E C (fg 89) B 46 E0 N c89_11) (headA E0) N s := x_loop (by rfl) s
theorem x89_9 : execA E C (fg 89) B 46 E0 N c89_9 s = blockX 0 (fun s => (forget s.1 [1, 6, 13], s.2)) (execA E C (fg 89) B 46 E0 N c89_10 s) := x_block (by rfl) (by rfl) s
theorem x89_7 : execA E C (fg 89) B 46 E0 N c89_7 s = seqX (execA E C (fg 89) B 46 E0 N c89_8 s) (execA E C (fg 89) B 46 E0 N c89_9) := x_seq (by rfl) s
noncomputable def c89_31 : Code := kR c89_6
noncomputable def c89_32 : Code := kL c89_31
noncomputable def r89_12 : Array Oper := kO c89_32
noncomputable def o89_12_0 : Oper := opN r89_12 0
noncomputable def o89_12_1 : Oper := opN r89_12 1
theorem x89_32 : execA E C (fg 89) B 46 E0 N c89_32 s = regX (runA E C B 46 r89_12 r89_12.toList s) (fun s => gcM E0 [42, 43] (forget s.1 [42, 43], s.2)) := x_reg (ops := r89_12) (by rfl) (by rfl) s
theorem r89_12_l : r89_12.toList = [o89_12_0, o89_12_1] := nrfl rfl
theorem s89_12_0 : stepA E C B 46 r89_12 o89_12_0 (φ, H) = some (fput φ 42 (fget φ 4), H) := nrfl rfl
theorem s89_12_1 : stepA E C B 46 r89_12 o89_12_1 (φ, H) = mutX (some 43) φ (C 129 [(fget φ 42)] H (B + 46 * 8)) := nrfl rfl
noncomputable def c89_33 : Code := kR c89_31
noncomputable def c89_34 : Code := kL c89_33
noncomputable def r89_13 : Array Oper := kO c89_34
noncomputable def o89_13_0 : Oper := opN r89_13 0
noncomputable def o89_13_1 : Oper := opN r89_13 1
noncomputable def o89_13_2 : Oper := opN r89_13 2
noncomputable def o89_13_3 : Oper := opN r89_13 3
theorem x89_34 : execA E C (fg 89) B 46 E0 N c89_34 s = regX (runA E C B 46 r89_13 r89_13.toList s) (fun s => gcM E0 [4, 5, 44, 45] (forget s.1 [4, 5, 44, 45], s.2)) := x_reg (ops := r89_13) (by rfl) (by rfl) s
theorem r89_13_l : r89_13.toList = [o89_13_0, o89_13_1, o89_13_2, o89_13_3] := nrfl rfl
theorem s89_13_0 : stepA E C B 46 r89_13 o89_13_0 (φ, H) = some (fput φ 44 (fget φ 4), H) := nrfl rfl
theorem s89_13_1 : stepA E C B 46 r89_13 o89_13_1 (φ, H) = some (fput φ 45 (fget φ 5), H) := nrfl rfl
theorem s89_13_2 : stepA E C B 46 r89_13 o89_13_2 (φ, H) = some (fput φ 2 (fget φ 44), H) := nrfl rfl
theorem s89_13_3 : stepA E C B 46 r89_13 o89_13_3 (φ, H) = some (fput φ 3 (fget φ 45), H) := nrfl rfl
noncomputable def c89_35 : Code := kR c89_33
theorem x89_35 : execA E C (fg 89) B 46 E0 N c89_35 s = some (.ret, s) := x_ret (by rfl) s
theorem x89_33 : execA E C (fg 89) B 46 E0 N c89_33 s = seqX (execA E C (fg 89) B 46 E0 N c89_34 s) (execA E C (fg 89) B 46 E0 N c89_35) := x_seq (by rfl) s
theorem x89_31 : execA E C (fg 89) B 46 E0 N c89_31 s = seqX (execA E C (fg 89) B 46 E0 N c89_32 s) (execA E C (fg 89) B 46 E0 N c89_33) := x_seq (by rfl) s
theorem x89_6 : execA E C (fg 89) B 46 E0 N c89_6 s = seqX (execA E C (fg 89) B 46 E0 N c89_7 s) (execA E C (fg 89) B 46 E0 N c89_31) := x_seq (by rfl) s
theorem x89_4 : execA E C (fg 89) B 46 E0 N c89_4 s = seqX (execA E C (fg 89) B 46 E0 N c89_5 s) (execA E C (fg 89) B 46 E0 N c89_6) := x_seq (by rfl) s
theorem x89_2 : execA E C (fg 89) B 46 E0 N c89_2 s = seqX (execA E C (fg 89) B 46 E0 N c89_3 s) (execA E C (fg 89) B 46 E0 N c89_4) := x_seq (by rfl) s
theorem x89_0 : execA E C (fg 89) B 46 E0 N c89_0 s = seqX (execA E C (fg 89) B 46 E0 N c89_1 s) (execA E C (fg 89) B 46 E0 N c89_2) := x_seq (by rfl) s
theorem fi_89 : fInfo E 89 = some ⟨46, #[.tmp 2, .tmp 3], c89_0⟩ := nrfl rfl
theorem b_89 (args : List AV) : bodyA E C fg N 89 args H B = bodyX E [.tmp 2, .tmp 3] (execA E C (fg 89) B 46 H N c89_0 (frame0 args 0 [], H)) := bodyA_eq fi_89 args H
noncomputable def c131_0 : Code := kBody Proofs.Tryd.f131
noncomputable def c131_1 : Code := kL c131_0
noncomputable def r131_0 : Array Oper := kO c131_1
noncomputable def o131_0_0 : Oper := opN r131_0 0
theorem x131_1 : execA E C (fg 131) B 22 E0 N c131_1 s = regX (runA E C B 22 r131_0 r131_0.toList s) (fun s => gcM E0 [6] (forget s.1 [6], s.2)) := x_reg (ops := r131_0) (by rfl) (by rfl) s
theorem r131_0_l : r131_0.toList = [o131_0_0] := nrfl rfl
theorem s131_0_0 : stepA E C B 22 r131_0 o131_0_0 (φ, H) = some (fput φ 6 (.int .i64 0), H) := nrfl rfl
noncomputable def c131_2 : Code := kR c131_0
noncomputable def c131_3 : Code := kL c131_2
noncomputable def r131_1 : Array Oper := kO c131_3
noncomputable def o131_1_0 : Oper := opN r131_1 0
noncomputable def o131_1_1 : Oper := opN r131_1 1
noncomputable def o131_1_2 : Oper := opN r131_1 2
noncomputable def o131_1_3 : Oper := opN r131_1 3
noncomputable def o131_1_4 : Oper := opN r131_1 4
noncomputable def o131_1_5 : Oper := opN r131_1 5
noncomputable def o131_1_6 : Oper := opN r131_1 6
noncomputable def o131_1_7 : Oper := opN r131_1 7
noncomputable def o131_1_8 : Oper := opN r131_1 8
noncomputable def o131_1_9 : Oper := opN r131_1 9
noncomputable def o131_1_10 : Oper := opN r131_1 10
noncomputable def o131_1_11 : Oper := opN r131_1 11
noncomputable def o131_1_12 : Oper := opN r131_1 12
noncomputable def o131_1_13 : Oper := opN r131_1 13
noncomputable def o131_1_14 : Oper := opN r131_1 14
noncomputable def o131_1_15 : Oper := opN r131_1 15
theorem x131_3 : execA E C (fg 131) B 22 E0 N c131_3 s = regX (drawA E C B 22 r131_1 s) (fun s => gcM E0 [0, 1, 2, 3, 7, 8, 9, 10, 11, 12, 13, 14, 15, 16, 17, 18, 19, 20, 21] (forget s.1 [0, 1, 2, 3, 7, 8, 9, 10, 11, 12, 13, 14, 15, 16, 17, 18, 19, 20, 21], s.2)) := x_draw (ops := r131_1) (by rfl) (by rfl) s
theorem r131_1_l : r131_1.toList = [o131_1_0, o131_1_1, o131_1_2, o131_1_3, o131_1_4, o131_1_5, o131_1_6, o131_1_7, o131_1_8, o131_1_9, o131_1_10, o131_1_11, o131_1_12, o131_1_13, o131_1_14, o131_1_15] := nrfl rfl
theorem r131_1_st : statOk r131_1 = true := by kernel_rfl
theorem r131_1_dr : drawA E C B 22 r131_1 s = if neat 22 s = true then drX r131_1 (runT E C B 22 r131_1 r131_1.toList 0 s) else none := draw_eq r131_1_st s
theorem r131_1_an (l : List (Nat × Tr)) : dynOk r131_1 l = (!writing l || dynPairs [[], [0], [], [0, 1, 2], [0, 1, 2, 3], [], [0, 1, 2, 3, 4, 5], [], [7], [], [7, 8, 9], [7, 8, 9, 10], [], [0, 1, 2, 3, 4, 5, 6, 7, 8, 9, 10, 11, 12], [0, 1, 2, 3, 4, 5, 6, 7, 8, 9, 10, 11, 12, 13], [0, 1, 2, 3, 4, 5, 6, 7, 8, 9, 10, 11, 12, 13, 14]] (touching l)) := dynOk_eq (by kernel_rfl) l
theorem s131_1_0 : stepT E C B 22 r131_1 o131_1_0 (φ, H) = stpT (some 7) φ H (just (aFieldAddr E.T 109 (fget φ 2) 0)) := stT_go rfl (goT_R rfl rfl)
theorem s131_1_1 : stepT E C B 22 r131_1 o131_1_1 (φ, H) = stpT (some 8) φ H (just (aLoad E.T 106 (fget φ 7))) := stT_go rfl (goT_R rfl rfl)
theorem s131_1_2 : stepT E C B 22 r131_1 o131_1_2 (φ, H) = some ((fput φ 9 (fget φ 0), H), ⟨false, [], []⟩) := stT_go rfl (goT_mv rfl rfl)
theorem s131_1_3 : stepT E C B 22 r131_1 o131_1_3 (φ, H) = stpT (some 10) φ H (just (aIndexAddr E.T 106 (fget φ 8) (fget φ 9))) := stT_go rfl (goT_R rfl rfl)
theorem s131_1_4 : stepT E C B 22 r131_1 o131_1_4 (φ, H) = stpT (some 11) φ H (just (aLoad E.T 126 (fget φ 10))) := stT_go rfl (goT_R rfl rfl)
theorem s131_1_5 : stepT E C B 22 r131_1 o131_1_5 (φ, H) = stpT (some 12) φ H (just (aLoad E.T 3 (fget φ 3))) := stT_go rfl (goT_R rfl rfl)
theorem s131_1_6 : stepT E C B 22 r131_1 o131_1_6 (φ, H) = stpT (some 13) φ H (aCall C (fun j => B + j * 22 + 13) true 99 [(fget φ 11), (fget φ 12)]) := stT_go rfl (goT_R rfl rfl)
theorem s131_1_7 : stepT E C B 22 r131_1 o131_1_7 (φ, H) = stpT (some 14) φ H (just (aFieldAddr E.T 109 (fget φ 2) 0)) := stT_go rfl (goT_R rfl rfl)
theorem s131_1_8 : stepT E C B 22 r131_1 o131_1_8 (φ, H) = stpT (some 15) φ H (just (aLoad E.T 106 (fget φ 14))) := stT_go rfl (goT_R rfl rfl)
theorem s131_1_9 : stepT E C B 22 r131_1 o131_1_9 (φ, H) = some ((fput φ 16 (fget φ 1), H), ⟨false, [], []⟩) := stT_go rfl (goT_mv rfl rfl)
theorem s131_1_10 : stepT E C B 22 r131_1 o131_1_10 (φ, H) = stpT (some 17) φ H (just (aIndexAddr E.T 106 (fget φ 15) (fget φ 16))) := stT_go rfl (goT_R rfl rfl)
theorem s131_1_11 : stepT E C B 22 r131_1 o131_1_11 (φ, H) = stpT (some 18) φ H (just (aLoad E.T 126 (fget φ 17))) := stT_go rfl (goT_R rfl rfl)
theorem s131_1_12 : stepT E C B 22 r131_1 o131_1_12 (φ, H) = stpT (some 19) φ H (just (aLoad E.T 3 (fget φ 3))) := stT_go rfl (goT_R rfl rfl)
theorem s131_1_13 : stepT E C B 22 r131_1 o131_1_13 (φ, H) = stpT (some 20) φ H (aCall C (fun j => B + j * 22 + 20) true 99 [(fget φ 18), (fget φ 19)]) := stT_go rfl (goT_R rfl rfl)
theorem s131_1_14 : stepT E C B 22 r131_1 o131_1_14 (φ, H) = stpT (some 21) φ H (just (aBin E.T .sub 3 (fget φ 13) (fget φ 20))) := stT_go rfl (goT_R rfl rfl)
theorem s131_1_15 : stepT E C B 22 r131_1 o131_1_15 (φ, H) = some ((fput φ 6 (fget φ 21), H), ⟨false, [], []⟩) := stT_go rfl (goT_mv rfl rfl)
noncomputable def c131_4 : Code := kR c131_2
theorem x131_4 : execA E C (fg 131) B 22 E0 N c131_4 s = some (.ret, s) := x_ret (by rfl) s
theorem x131_2 : execA E C (fg 131) B 22 E0 N c131_2 s = seqX (execA E C (fg 131) B 22 E0 N c131_3 s) (execA E C (fg 131) B 22 E0 N c131_4) := x_seq (by rfl) s
theorem x131_0 : execA E C (fg 131) B 22 E0 N c131_0 s = seqX (execA E C (fg 131) B 22 E0 N c131_1 s) (execA E C (fg 131) B 22 E0 N c131_2) := x_seq (by rfl) s
theorem fi_131 : fInfo E 131 = some ⟨22, #[.tmp 6], c131_0⟩ := nrfl rfl
theorem b_131 (args : List AV) : bodyA E C fg N 131 args H B = bodyX E [.tmp 6] (execA E C (fg 131) B 22 H N c131_0 (frame0 args 0 [], H)) := bodyA_eq fi_131 args H
noncomputable def c21_0 : Code := kBody Proofs.Tryd.f21
noncomputable def c21_1 : Code := kL c21_0
noncomputable def r21_0 : Array Oper := kO c21_1
noncomputable def o21_0_0 : Oper := opN r21_0 0
noncomputable def o21_0_1 : Oper := opN r21_0 1
noncomputable def o21_0_2 : Oper := opN r21_0 2
theorem x21_1 : execA E C (fg 21) B 22 E0 N c21_1 s = regX (runA E C B 22 r21_0 r21_0.toList s) (fun s => gcM E0 [0, 2, 3] (forget s.1 [0, 2, 3], s.2)) := x_reg (ops := r21_0) (by rfl) (by rfl) s
theorem r21_0_l : r21_0.toList = [o21_0_0, o21_0_1, o21_0_2] := nrfl rfl
theorem s21_0_0 : stepA E C B 22 r21_0 o21_0_0 (φ, H) = stp (some 1) φ H (opBox (B + 1) (acells (fget φ 0))) := nrfl rfl
theorem s21_0_1 : stepA E C B 22 r21_0 o21_0_1 (φ, H) = some (fput φ 2 (.nilsl), H) := nrfl rfl
theorem s21_0_2 : stepA E C B 22 r21_0 o21_0_2 (φ, H) = some (fput φ 3 (.int .i64 0), H) := nrfl rfl
noncomputable def c21_2 : Code := kR c21_0
noncomputable def c21_3 : Code := kL c21_2
noncomputable def r21_1 : Array Oper := kO c21_3
noncomputable def o21_1_0 : Oper := opN r21_1 0
noncomputable def o21_1_1 : Oper := opN r21_1 1
noncomputable def o21_1_2 : Oper := opN r21_1 2
noncomputable def o21_1_3 : Oper := opN r21_1 3
noncomputable def o21_1_4 : Oper := opN r21_1 4
noncomputable def o21_1_5 : Oper := opN r21_1 5
noncomputable def o21_1_6 : Oper := opN r21_1 6
noncomputable def o21_1_7 : Oper := opN r21_1 7
theorem x21_3 : execA E C (fg 21) B 22 E0 N c21_3 s = regX (runA E C B 22 r21_1 r21_1.toList s) (fun s => gcM E0 [1, 8, 9, 10, 11, 12] (forget s.1 [1, 8, 9, 10, 11, 12], s.2)) := x_reg (ops := r21_1) (by rfl) (by rfl) s
theorem r21_1_l : r21_1.toList = [o21_1_0, o21_1_1, o21_1_2, o21_1_3, o21_1_4, o21_1_5, o21_1_6, o21_1_7] := nrfl rfl
theorem s21_1_0 : stepA E C B 22 r21_1 o21_1_0 (φ, H) = stp (some 9) φ H (just (aLoad E.T 25 (fget φ 1))) := nrfl rfl
theorem s21_1_1 : stepA E C B 22 r21_1 o21_1_1 (φ, H) = stp (some 10) φ H (aCall C (fun j => B + j * 22 + 10) true 88 [(fget φ 9)]) := nrfl rfl
theorem s21_1_2 : stepA E C B 22 r21_1 o21_1_2 (φ, H) = some (fput φ 8 (fget φ 10), H) := nrfl rfl
theorem s21_1_3 : stepA E C B 22 r21_1 o21_1_3 (φ, H) = stp (some 11) φ H (opExtract (fget φ 8) 0) := nrfl rfl
theorem s21_1_4 : stepA E C B 22 r21_1 o21_1_4 (φ, H) = stp (some 12) φ H (opExtract (fget φ 8) 1) := nrfl rfl
theorem s21_1_5 : stepA E C B 22 r21_1 o21_1_5 (φ, H) = stp (some 4) φ H (opBox (B + 4) (zeroCells E.T 109)) := nrfl rfl
theorem s21_1_6 : stepA E C B 22 r21_1 o21_1_6 (φ, H) = stp none φ H (opStore E.T 109 (fget φ 4) (fget φ 11)) := nrfl rfl
theorem s21_1_7 : stepA E C B 22 r21_1 o21_1_7 (φ, H) = some (fput φ 5 (fget φ 12), H) := nrfl rfl
noncomputable def c21_4 : Code := kR c21_2
noncomputable def c21_5 : Code := kL c21_4
noncomputable def c21_6 : Code := kL c21_5
noncomputable def r21_2 : Array Oper := kO c21_6
noncomputable def o21_2_0 : Oper := opN r21_2 0
noncomputable def o21_2_1 : Oper := opN r21_2 1
theorem x21_6 : execA E C (fg 21) B 22 E0 N c21_6 s = regX (runA E C B 22 r21_2 r21_2.toList s) (fun s => gcM E0 [13] (forget s.1 [13], s.2)) := x_reg (ops := r21_2) (by rfl) (by rfl) s
theorem r21_2_l : r21_2.toList = [o21_2_0, o21_2_1] := nrfl rfl
theorem s21_2_0 : stepA E C B 22 r21_2 o21_2_0 (φ, H) = some (fput φ 13 (fget φ 5), H) := nrfl rfl
theorem s21_2_1 : stepA E C B 22 r21_2 o21_2_1 (φ, H) = stp (some 14) φ H (just (aBin E.T .neq 32 (fget φ 13) (.int .i64 0))) := nrfl rfl
noncomputable def c21_7 : Code := kR c21_5
noncomputable def c21_8 : Code := kT c21_7
noncomputable def c21_9 : Code := kL c21_8
noncomputable def r21_3 : Array Oper := kO c21_9
noncomputable def o21_3_0 : Oper := opN r21_3 0
noncomputable def o21_3_1 : Oper := opN r21_3 1
noncomputable def o21_3_2 : Oper := opN r21_3 2
theorem x21_9 : execA E C (fg 21) B 22 E0 N c21_9 s = regX (runA E C B 22 r21_3 r21_3.toList s) (fun s => gcM E0 [4, 5, 14, 15] (forget s.1 [4, 5, 14, 15], s.2)) := x_reg (ops := r21_3) (by rfl) (by rfl) s
theorem r21_3_l : r21_3.toList = [o21_3_0, o21_3_1, o21_3_2] := nrfl rfl
theorem s21_3_0 : stepA E C B 22 r21_3 o21_3_0 (φ, H) = some (fput φ 15 (fget φ 5), H) := nrfl rfl
theorem s21_3_1 : stepA E C B 22 r21_3 o21_3_1 (φ, H) = some (fput φ 2 (.nilsl), H) := nrfl rfl
theorem s21_3_2 : stepA E C B 22 r21_3 o21_3_2 (φ, H) = some (fput φ 3 (fget φ 15), H) := nrfl rfl
noncomputable def c21_10 : Code := kR c21_8
theorem x21_10 : execA E C (fg 21) B 22 E0 N c21_10 s = some (.ret, s) := x_ret (by rfl) s
theorem x21_8 : execA E C (fg 21) B 22 E0 N c21_8 s = seqX (execA E C (fg 21) B 22 E0 N c21_9 s) (execA E C (fg 21) B 22 E0 N c21_10) := x_seq (by rfl) s
noncomputable def c21_11 : Code := kE c21_7
theorem x21_11 : execA E C (fg 21) B 22 E0 N c21_11 s = some (.normal, s) := x_skip (by rfl) s
theorem x21_7 : execA E C (fg 21) B 22 E0 N c21_7 (φ, H) = condX (fget φ 14) (execA E C (fg 21) B 22 E0 N c21_8 (φ, H)) (execA E C (fg 21) B 22 E0 N c21_11 (φ, H)) := x_cond (by rfl) _
theorem x21_5 : execA E C (fg 21) B 22 E0 N c21_5 s = seqX (execA E C (fg 21) B 22 E0 N c21_6 s) (execA E C (fg 21) B 22 E0 N c21_7) := x_seq (by rfl) s
noncomputable def c21_12 : Code := kR c21_4
noncomputable def c21_13 : Code := kL c21_12
noncomputable def r21_4 : Array Oper := kO c21_13
noncomputable def o21_4_0 : Oper := opN r21_4 0
noncomputable def o21_4_1 : Oper := opN r21_4 1
noncomputable def o21_4_2 : Oper := opN r21_4 2
noncomputable def o21_4_3 : Oper := opN r21_4 3
noncomputable def o21_4_4 : Oper := opN r21_4 4
noncomputable def o21_4_5 : Oper := opN r21_4 5
noncomputable def o21_4_6 : Oper := opN r21_4 6
theorem x21_13 : execA E C (fg 21) B 22 E0 N c21_13 s = regX (runA E C B 22 r21_4 r21_4.toList s) (fun s => gcM E0 [4, 5, 7, 14, 16, 17, 18, 19, 20] (forget s.1 [4, 5, 7, 14, 16, 17, 18, 19, 20], s.2)) := x_reg (ops := r21_4) (by rfl) (by rfl) s
theorem r21_4_l : r21_4.toList = [o21_4_0, o21_4_1, o21_4_2, o21_4_3, o21_4_4, o21_4_5, o21_4_6] := nrfl rfl
theorem s21_4_0 : stepA E C B 22 r21_4 o21_4_0 (φ, H) = stp (some 17) φ H (just (aLoad E.T 109 (fget φ 4))) := nrfl rfl
theorem s21_4_1 : stepA E C B 22 r21_4 o21_4_1 (φ, H) = stp (some 18) φ H (aCall C (fun j => B + j * 22 + 18) true 89 [(fget φ 17)]) := nrfl rfl
theorem s21_4_2 : stepA E C B 22 r21_4 o21_4_2 (φ, H) = some (fput φ 16 (fget φ 18), H) := nrfl rfl
theorem s21_4_3 : stepA E C B 22 r21_4 o21_4_3 (φ, H) = stp (some 19) φ H (opExtract (fget φ 16) 0) := nrfl rfl
theorem s21_4_4 : stepA E C B 22 r21_4 o21_4_4 (φ, H) = stp (some 20) φ H (opExtract (fget φ 16) 1) := nrfl rfl
theorem s21_4_5 : stepA E C B 22 r21_4 o21_4_5 (φ, H) = some (fput φ 6 (fget φ 19), H) := nrfl rfl
theorem s21_4_6 : stepA E C B 22 r21_4 o21_4_6 (φ, H) = some (fput φ 7 (fget φ 20), H) := nrfl rfl
noncomputable def c21_14 : Code := kR c21_12
noncomputable def c21_15 : Code := kL c21_14
noncomputable def r21_5 : Array Oper := kO c21_15
noncomputable def o21_5_0 : Oper := opN r21_5 0
noncomputable def o21_5_1 : Oper := opN r21_5 1
noncomputable def o21_5_2 : Oper := opN r21_5 2
theorem x21_15 : execA E C (fg 21) B 22 E0 N c21_15 s = regX (runA E C B 22 r21_5 r21_5.toList s) (fun s => gcM E0 [6, 21] (forget s.1 [6, 21], s.2)) := x_reg (ops := r21_5) (by rfl) (by rfl) s
theorem r21_5_l : r21_5.toList = [o21_5_0, o21_5_1, o21_5_2] := nrfl rfl
theorem s21_5_0 : stepA E C B 22 r21_5 o21_5_0 (φ, H) = some (fput φ 21 (fget φ 6), H) := nrfl rfl
theorem s21_5_1 : stepA E C B 22 r21_5 o21_5_1 (φ, H) = some (fput φ 2 (fget φ 21), H) := nrfl rfl
theorem s21_5_2 : stepA E C B 22 r21_5 o21_5_2 (φ, H) = some (fput φ 3 (.int .i64 0), H) := nrfl rfl
noncomputable def c21_16 : Code := kR c21_14
theorem x21_16 : execA E C (fg 21) B 22 E0 N c21_16 s = some (.ret, s) := x_ret (by rfl) s
theorem x21_14 : execA E C (fg 21) B 22 E0 N c21_14 s = seqX (execA E C (fg 21) B 22 E0 N c21_15 s) (execA E C (fg 21) B 22 E0 N c21_16) := x_seq (by rfl) s
theorem x21_12 : execA E C (fg 21) B 22 E0 N c21_12 s = seqX (execA E C (fg 21) B 22 E0 N c21_13 s) (execA E C (fg 21) B 22 E0 N c21_14) := x_seq (by rfl) s
theorem x21_4 : execA E C (fg 21) B 22 E0 N c21_4 s = seqX (execA E C (fg 21) B 22 E0 N c21_5 s) (execA E C (fg 21) B 22 E0 N c21_12) := x_seq (by rfl) s
theorem x21_2 : execA E C (fg 21) B 22 E0 N c21_2 s = seqX (execA E C (fg 21) B 22 E0 N c21_3 s) (execA E C (fg 21) B 22 E0 N c21_4) := x_seq (by rfl) s
theorem x21_0 : execA E C (fg 21) B 22 E0 N c21_0 s = seqX (execA E C (fg 21) B 22 E0 N c21_1 s) (execA E C (fg 21) B 22 E0 N c21_2) := x_seq (by rfl) s
theorem fi_21 : fInfo E 21 = some ⟨22, #[.tmp 2, .tmp 3], c21_0⟩ := nrfl rfl
theorem b_21 (args : List AV) : bodyA E C fg N 21 args H B = bodyX E [.tmp 2, .tmp 3] (execA E C (fg 21) B 22 H N c21_0 (frame0 args 0 [], H)) := bodyA_eq fi_21 args H
end Go.AM.YtgfnbmfjbjopkaaDoor
end
