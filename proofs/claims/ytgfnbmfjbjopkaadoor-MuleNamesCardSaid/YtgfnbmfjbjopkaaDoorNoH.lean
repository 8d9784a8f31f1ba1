/- A part of the proof of muleNames_card: NmH. Own work of this project; texts printed by own programs among it. -/
import Derived.Test.YtgfnbmfjbjopkaaDoorNoG
set_option maxRecDepth 1000000
set_option maxHeartbeats 16000000
noncomputable section
noncomputable section
namespace Go.AM.Mule
structure Ord (T : Nat → Nat → Bool) : Prop where
 irr : ∀ i, T i i = false
 tr : ∀ i j k, T i j = true → T j k = true → T i k = true
def days (d : Nat → Int) : List Nat → Int
 | [] => 0
 | i :: l => d i + days d l
theorem Z42 (d : Nat → Int) : ∀ a b : List Nat, days d (a ++ b) = days d a + days d b
 | [], b => by simp [days]
 | i :: a, b => by simp only [List.cons_append, days, Z42 d a b]; omega
theorem Z3p {d : Nat → Int} {a b : List Nat} (h : a.Perm b) : days d a = days d b := by
 induction h with
 | nil => rfl
 | cons x _ ih => simp only [days, ih]
 | swap x y l => simp only [days]; omega
 | trans _ _ h1 h2 => rw [h1, h2]
theorem ZbU {d : Nat → Int} : ∀ {l : List Nat}, (∀ i ∈ l, 0 ≤ d i) → 0 ≤ days d l
 | [], _ => by simp [days]
 | i :: l, h => by
   have := ZbU (l := l) fun j hj => h j (by simp [hj])
   have := h i (by simp)
   simp only [days]; omega
theorem ZOR {d : Nat → Int} : ∀ {a b : List Nat}, a.Nodup → (∀ i ∈ a, i ∈ b) → (∀ i ∈ b, 0 ≤ d i) → days d a ≤ days d b
 | [], b, _, _, h => by have := ZbU h; simpa [days] using this
 | i :: a, b, hn, hs, h => by
   have hi := hs i (by simp)
   have hn' := List.nodup_cons.1 hn
   have hp := List.perm_cons_erase hi
   have := ZOR (d := d) (a := a) (b := b.erase i) hn'.2 (fun j hj => by
     have hne : j ≠ i := fun e => hn'.1 (e ▸ hj)
     rw [List.mem_erase_of_ne hne]; exact hs j (by simp [hj])) (fun j hj => h j (List.mem_of_mem_erase hj))
   rw [Z3p hp]
   simp only [days]; omega
def lastsL (T : Nat → Nat → Bool) (S : List Nat) : List Nat := S.filter fun i => S.all fun k => !T i k
theorem Z5D {T : Nat → Nat → Bool} {S : List Nat} {i : Nat} : i ∈ lastsL T S ↔ i ∈ S ∧ ∀ k ∈ S, T i k = false := by
 simp [lastsL, List.mem_filter, List.all_eq_true]
theorem Z0eB {T : Nat → Nat → Bool} (hT : Ord T) {S : List Nat} : ∀ (m : Nat) (x : Nat), x ∈ S → (S.filter (T x)).length ≤ m → ∃ i, i ∈ lastsL T S := by
 intro m
 induction m with
 | zero =>
   intro x hx hm
   refine ⟨x, Z5D.2 ⟨hx, fun k hk => ?_⟩⟩
   cases e : T x k with
   | false => rfl
   | true =>
     have : k ∈ S.filter (T x) := List.mem_filter.2 ⟨hk, e⟩
     have := List.length_pos_of_mem this
     omega
 | succ m ih =>
   intro x hx hm
   by_cases h : ∃ k, k ∈ S ∧ T x k = true
   · obtain ⟨k, hk, e⟩ := h
     refine ih k hk ?_
     have hsub : ∀ l : List Nat, (l.filter (T k)).length ≤ (l.filter (T x)).length ∧ (k ∈ l → (l.filter (T k)).length < (l.filter (T x)).length) := by
       intro l
       induction l with
       | nil => simp
       | cons y l ihl =>
         obtain ⟨i1, i2⟩ := ihl
         simp only [List.filter_cons]
         constructor
         · cases ek : T k y with
           | true => rw [if_pos rfl, if_pos (hT.tr x k y e ek)]; simp only [List.length_cons]; omega
           | false => simp only [Bool.false_eq_true, if_false]; split <;> (try simp only [List.length_cons]) <;> omega
         · intro hm
           by_cases ey : y = k
           · subst ey
             rw [if_neg (by simp [hT.irr]), if_pos e]; simp only [List.length_cons]; omega
           · have hm : k ∈ l := by
               rcases List.mem_cons.1 hm with h | h
               · exact absurd h.symm ey
               · exact h
             have := i2 hm
             cases ek : T k y with
             | true => rw [if_pos rfl, if_pos (hT.tr x k y e ek)]; simp only [List.length_cons]; omega
             | false => simp only [Bool.false_eq_true, if_false]; split <;> (try simp only [List.length_cons]) <;> omega
     have := (hsub S).2 hk
     omega
   · refine ⟨x, Z5D.2 ⟨hx, fun k hk => ?_⟩⟩
     cases e : T x k with
     | false => rfl
     | true => exact absurd ⟨k, hk, e⟩ h
theorem ZOI {T : Nat → Nat → Bool} (hT : Ord T) {S : List Nat} (h : S ≠ []) : ∃ i, i ∈ lastsL T S := by
 obtain ⟨x, hx⟩ : ∃ x, x ∈ S := List.exists_mem_of_ne_nil S h
 exact Z0eB hT _ x hx (Nat.le_refl _)
def Good (T : Nat → Nat → Bool) (o : List Nat) : Prop := o.Pairwise fun a b => T b a = false
def mc (d : Nat → Int) (c : Nat → Int → Int) : Int → List Nat → Int
 | _, [] => 0
 | now, i :: o => max (c i (now + d i)) (mc d c (now + d i) o)
theorem Zoj (d : Nat → Int) (c : Nat → Int → Int) : ∀ (o p : List Nat) (now : Int), (∀ now o, 0 ≤ mc d c now o) → mc d c now (o ++ p) = max (mc d c now o) (mc d c (now + days d o) p)
 | [], p, now, h => by
   have := h (now + 0) p
   simp only [List.nil_append, mc, days]
   rw [Int.add_zero] at *
   omega
 | i :: o, p, now, h => by
   simp only [List.cons_append, mc, Zoj d c o p _ h, days]
   rw [Int.add_assoc]
   omega
theorem Z4L {d : Nat → Int} {c : Nat → Int → Int} : ∀ (now : Int) (o : List Nat), 0 ≤ mc d c now o
 | _, [] => Int.le_refl _
 | now, i :: o => by have := Z4L (d := d) (c := c) (now + d i) o; simp only [mc]; omega
theorem Z0fW {T : Nat → Nat → Bool} (hT : Ord T) {d : Nat → Int} {c : Nat → Int → Int} (hd : ∀ i, 0 ≤ d i) (hc : ∀ i x y, x ≤ y → c i x ≤ c i y) {o S : List Nat} (ho : Good T o) (hn : S.Nodup) (hS : S ≠ []) (hsub : ∀ i ∈ S, i ∈ o) :
   ∃ i, i ∈ lastsL T S ∧ c i (days d S) ≤ mc d c 0 o := by
 have key : ∀ o : List Nat, (∃ i, i ∈ o ∧ i ∈ S) → ∃ p i q, o = p ++ i :: q ∧ i ∈ S ∧ ∀ k ∈ q, k ∉ S := by
   intro o
   induction o with
   | nil => rintro ⟨i, h, _⟩; simp at h
   | cons x o ih =>
     intro h
     by_cases h2 : ∃ i, i ∈ o ∧ i ∈ S
     · obtain ⟨p, i, q, e, a, b⟩ := ih h2
       exact ⟨x :: p, i, q, by rw [e]; rfl, a, b⟩
     · obtain ⟨i, hi, hs⟩ := h
       rcases List.mem_cons.1 hi with rfl | hi
       · exact ⟨[], i, o, rfl, hs, fun k hk hk2 => h2 ⟨k, hk, hk2⟩⟩
       · exact absurd ⟨i, hi, hs⟩ h2
 obtain ⟨x, hx⟩ := List.exists_mem_of_ne_nil S hS
 obtain ⟨p, i, q, e, hi, hq⟩ := key o ⟨x, hsub x hx, hx⟩
 have hin : ∀ k ∈ S, k ∈ p ++ [i] := fun k hk => by
   have := hsub k hk
   rw [e] at this
   rcases List.mem_append.1 this with h | h
   · simp [h]
   · rcases List.mem_cons.1 h with rfl | h
     · simp
     · exact absurd hk (hq k h)
 refine ⟨i, Z5D.2 ⟨hi, fun k hk => ?_⟩, ?_⟩
 · rcases List.mem_append.1 (hin k hk) with h | h
   · rw [e] at ho
     have := (List.pairwise_append.1 ho).2.2 k h i (by simp)
     exact this
   · have : k = i := by simpa using h
     subst this; exact hT.irr k
 · have h1 := ZOR (d := d) hn hin (fun k _ => hd k)
   rw [e, Zoj d c p (i :: q) 0 Z4L]
   simp only [mc]
   have h2 := hc i (days d S) (0 + days d p + d i) (by rw [Z42] at h1; simp only [days] at h1; omega)
   omega
def pick (f : Nat → Int) : List Nat → Nat
 | [] => 0
 | [i] => i
 | i :: j :: l => let k := pick f (j :: l); if f i < f k then i else k
theorem ZfP (f : Nat → Int) : ∀ {l : List Nat}, l ≠ [] → pick f l ∈ l ∧ ∀ k ∈ l, f (pick f l) ≤ f k
 | [i], _ => by simp [pick]
 | i :: j :: l, _ => by
   obtain ⟨a, b⟩ := ZfP f (l := j :: l) (by simp)
   simp only [pick]
   split
   · rename_i h
     refine ⟨by simp, fun k hk => ?_⟩
     rcases List.mem_cons.1 hk with rfl | hk
     · exact Int.le_refl _
     · have := b k hk; omega
   · rename_i h
     refine ⟨List.mem_cons_of_mem _ a, fun k hk => ?_⟩
     rcases List.mem_cons.1 hk with rfl | hk
     · omega
     · exact b k hk
def ruleL (T : Nat → Nat → Bool) (d : Nat → Int) (c : Nat → Int → Int) : Nat → List Nat → List Nat
 | 0, _ => []
 | m + 1, S => match S with
   | [] => []
   | x :: r => ruleL T d c m ((x :: r).erase (pick (fun i => c i (days d (x :: r))) (lastsL T (x :: r)))) ++ [pick (fun i => c i (days d (x :: r))) (lastsL T (x :: r))]
theorem Z4S {T : Nat → Nat → Bool} (hT : Ord T) {d : Nat → Int} {c : Nat → Int → Int} : ∀ (m : Nat) (S : List Nat), S.Nodup → S.length ≤ m →
   (ruleL T d c m S).Perm S ∧ Good T (ruleL T d c m S) ∧ (mc d c 0 (ruleL T d c m S) ≤ 0 ∨ ∃ R, R ≠ [] ∧ R.Nodup ∧ (∀ i ∈ R, i ∈ S) ∧ ∀ i ∈ lastsL T R, mc d c 0 (ruleL T d c m S) ≤ c i (days d R))
 | 0, S, _, hm => by
   obtain rfl := List.length_eq_zero_iff.1 (by omega : S.length = 0)
   exact ⟨List.Perm.refl _, List.Pairwise.nil, .inl (by simp [ruleL, mc])⟩
 | m + 1, [], _, _ => ⟨List.Perm.refl _, List.Pairwise.nil, .inl (by simp [ruleL, mc])⟩
 | m + 1, x :: r, hn, hm => by
   have hne : lastsL T (x :: r) ≠ [] := by
     obtain ⟨i, hi⟩ := ZOI hT (S := x :: r) (by simp)
     exact List.ne_nil_of_mem hi
   obtain ⟨p1, p2⟩ := ZfP (fun i => c i (days d (x :: r))) hne
   simp only [ruleL]
   generalize hk : pick (fun i => c i (days d (x :: r))) (lastsL T (x :: r)) = k at *
   obtain ⟨k1, k2⟩ := Z5D.1 p1
   have hl := List.length_erase_of_mem k1
   obtain ⟨q1, q2, q3⟩ := Z4S hT (d := d) (c := c) m ((x :: r).erase k) (hn.erase k) (by simp at hl hm ⊢; omega)
   have hp : (ruleL T d c m ((x :: r).erase k) ++ [k]).Perm (x :: r) := by
     refine (List.perm_append_singleton k _).trans ?_
     exact (List.Perm.cons k q1).trans (List.perm_cons_erase k1).symm
   refine ⟨hp, ?_, ?_⟩
   · refine List.pairwise_append.2 ⟨q2, List.pairwise_singleton _ _, fun a ha b hb => ?_⟩
     have : b = k := by simpa using hb
     subst this
     exact k2 a (List.mem_of_mem_erase (q1.mem_iff.1 ha))
   · have e := Zoj d c (ruleL T d c m ((x :: r).erase k)) [k] 0 Z4L
     have ed : 0 + days d (ruleL T d c m ((x :: r).erase k)) + d k = days d (x :: r) := by
       have := Z3p (d := d) hp
       rw [Z42] at this
       simp only [days] at this ⊢; omega
     simp only [mc] at e
     rw [ed] at e
     rw [e]
     by_cases h : mc d c 0 (ruleL T d c m ((x :: r).erase k)) ≤ c k (days d (x :: r)) ∨ c k (days d (x :: r)) ≤ 0 ∧ mc d c 0 (ruleL T d c m ((x :: r).erase k)) ≤ 0
     · by_cases h0 : c k (days d (x :: r)) ≤ 0
       · left; omega
       · right
         refine ⟨x :: r, by simp, hn, fun i hi => hi, fun i hi => ?_⟩
         have := p2 i hi
         omega
     · rcases q3 with q3 | ⟨R, r1, r2, r3, r4⟩
       · left; omega
       · right
         refine ⟨R, r1, r2, fun i hi => List.mem_of_mem_erase (r3 i hi), fun i hi => ?_⟩
         have := r4 i hi
         omega
theorem Z0b0 {T : Nat → Nat → Bool} (hT : Ord T) {d : Nat → Int} {c : Nat → Int → Int} (hd : ∀ i, 0 ≤ d i) (hc : ∀ i x y, x ≤ y → c i x ≤ c i y) {S o : List Nat} (hn : S.Nodup) (ho : Good T o) (hp : o.Perm S) :
   mc d c 0 (ruleL T d c S.length S) ≤ mc d c 0 o := by
 obtain ⟨_, _, h⟩ := Z4S hT (d := d) (c := c) S.length S hn (Nat.le_refl _)
 rcases h with h | ⟨R, r1, r2, r3, r4⟩
 · have := Z4L (d := d) (c := c) 0 o; omega
 · obtain ⟨i, h1, h2⟩ := Z0fW hT hd hc ho r2 r1 fun i hi => hp.mem_iff.2 (r3 i hi)
   have := r4 i h1
   omega
end Go.AM.Mule
end
noncomputable section
namespace Go.AM.Mule
def Cok (d : Nat → Int) (c : Nat → Int → Int) (lim : Int) : Int → List Nat → Prop
 | _, [] => True
 | now, i :: o => c i (now + d i) ≤ lim ∧ Cok d c lim (now + d i) o
theorem ZIg {d : Nat → Int} {c : Nat → Int → Int} {lim : Int} (h0 : 0 ≤ lim) : ∀ (now : Int) (o : List Nat), Cok d c lim now o ↔ mc d c now o ≤ lim
 | _, [] => by simp [Cok, mc, h0]
 | now, i :: o => by
   have := ZIg (d := d) (c := c) h0 (now + d i) o
   simp only [Cok, mc, this]; omega
theorem Zli {d : Nat → Int} {c : Nat → Int → Int} {lim : Int} : ∀ (now : Int) (o : List Nat) (i : Nat), Cok d c lim now (o ++ [i]) ↔ Cok d c lim now o ∧ c i (now + days d o + d i) ≤ lim
 | now, [], i => by simp [Cok, days]
 | now, j :: o, i => by
   have := Zli (d := d) (c := c) (lim := lim) (now + d j) o i
   simp only [List.cons_append, Cok, this, days]
   rw [Int.add_assoc now (d j) (days d o), and_assoc]
def bk (T : Nat → Nat → Bool) (d : Nat → Int) (c : Nat → Int → Int) (lim : Int) : Nat → List Nat → List (List Nat)
 | 0, _ => [[]]
 | m + 1, S => match S with
   | [] => [[]]
   | x :: r => ((lastsL T (x :: r)).filter fun i => decide (c i (days d (x :: r)) ≤ lim)).flatMap fun i => (bk T d c lim m ((x :: r).erase i)).map (· ++ [i])
theorem ZIM {T : Nat → Nat → Bool} (hT : Ord T) {d : Nat → Int} {c : Nat → Int → Int} {lim : Int} : ∀ (m : Nat) (S : List Nat), S.Nodup → S.length ≤ m → ∀ o, o ∈ bk T d c lim m S ↔ o.Perm S ∧ Good T o ∧ Cok d c lim 0 o
 | 0, S, _, hm, o => by
   obtain rfl := List.length_eq_zero_iff.1 (by omega : S.length = 0)
   simp only [bk, List.mem_singleton]
   constructor
   · rintro rfl; exact ⟨List.Perm.refl _, List.Pairwise.nil, trivial⟩
   · intro h; exact List.Perm.eq_nil h.1
 | m + 1, [], _, _, o => by
   simp only [bk, List.mem_singleton]
   constructor
   · rintro rfl; exact ⟨List.Perm.refl _, List.Pairwise.nil, trivial⟩
   · intro h; exact List.Perm.eq_nil h.1
 | m + 1, x :: r, hn, hm, o => by
   have ih : ∀ i ∈ x :: r, ∀ o, o ∈ bk T d c lim m ((x :: r).erase i) ↔ o.Perm ((x :: r).erase i) ∧ Good T o ∧ Cok d c lim 0 o := fun i hi o => by
     have hl := List.length_erase_of_mem hi
     exact ZIM hT m _ (hn.erase i) (by simp at hl hm ⊢; omega) o
   simp only [bk, List.mem_flatMap, List.mem_filter, List.mem_map, decide_eq_true_eq]
   constructor
   · rintro ⟨i, ⟨hi, hc⟩, o', ho', rfl⟩
     obtain ⟨i1, i2⟩ := Z5D.1 hi
     obtain ⟨p1, p2, p3⟩ := (ih i i1 o').1 ho'
     have hp : (o' ++ [i]).Perm (x :: r) := by
       refine (List.perm_append_singleton i o').trans ?_
       exact (List.Perm.cons i p1).trans (List.perm_cons_erase i1).symm
     refine ⟨hp, ?_, ?_⟩
     · refine List.pairwise_append.2 ⟨p2, List.pairwise_singleton _ _, fun a ha b hb => ?_⟩
       have : b = i := by simpa using hb
       subst this
       exact i2 a (List.mem_of_mem_erase (p1.mem_iff.1 ha))
     · rw [Zli]
       refine ⟨p3, ?_⟩
       have := Z3p (d := d) hp
       rw [Z42] at this
       simp only [days] at this
       have e : 0 + days d o' + d i = days d (x :: r) := by simp only [days]; omega
       rw [e]; exact hc
   · rintro ⟨hp, hg, hc⟩
     obtain ⟨o', i, rfl⟩ : ∃ o' i, o = o' ++ [i] := by
       rcases List.eq_nil_or_concat o with e | ⟨o', i, e⟩
       · subst e; exact absurd (List.Perm.nil_eq hp).symm (by simp)
       · exact ⟨o', i, by simpa using e⟩
     have i1 : i ∈ x :: r := hp.mem_iff.1 (by simp)
     obtain ⟨g1, _, g3⟩ := List.pairwise_append.1 hg
     have p1 : o'.Perm ((x :: r).erase i) := by
       have : (i :: o').Perm (i :: (x :: r).erase i) := ((List.perm_append_singleton i o').symm.trans hp).trans (List.perm_cons_erase i1)
       exact List.Perm.cons_inv this
     rw [Zli] at hc
     refine ⟨i, ⟨Z5D.2 ⟨i1, fun k hk => ?_⟩, ?_⟩, o', (ih i i1 o').2 ⟨p1, g1, hc.1⟩, rfl⟩
     · have : k ∈ o' ++ [i] := hp.mem_iff.2 hk
       rcases List.mem_append.1 this with h | h
       · exact g3 k h i (by simp)
       · have : k = i := by simpa using h
         subst this; exact hT.irr k
     · have := Z3p (d := d) hp
       rw [Z42] at this
       simp only [days] at this
       have e : 0 + days d o' + d i = days d (x :: r) := by simp only [days]; omega
       rw [← e]; exact hc.2
theorem Zkt {T : Nat → Nat → Bool} {d : Nat → Int} {c : Nat → Int → Int} {lim : Int} : ∀ (m : Nat) (S : List Nat), S.Nodup → (bk T d c lim m S).Nodup
 | 0, _, _ => by simp [bk]
 | _ + 1, [], _ => by simp [bk]
 | m + 1, x :: r, hn => by
   simp only [bk]
   have key : ∀ l : List Nat, l.Nodup → (l.flatMap fun i => (bk T d c lim m ((x :: r).erase i)).map (· ++ [i])).Nodup := by
     intro l
     induction l with
     | nil => intro _; simp
     | cons i l ih =>
       intro h
       obtain ⟨h1, h2⟩ := List.nodup_cons.1 h
       rw [List.flatMap_cons, List.nodup_append]
       refine ⟨?_, ih h2, fun a ha b hb e => ?_⟩
       · have := Zkt (T := T) (d := d) (c := c) (lim := lim) m ((x :: r).erase i) (hn.erase i)
         rw [List.nodup_iff_pairwise_ne, List.pairwise_map]
         exact (List.nodup_iff_pairwise_ne.1 this).imp fun hab e => hab (List.append_cancel_right e)
       · obtain ⟨a', _, rfl⟩ := List.mem_map.1 ha
         obtain ⟨j, hj, hb⟩ := List.mem_flatMap.1 hb
         obtain ⟨b', _, rfl⟩ := List.mem_map.1 hb
         have := (List.append_inj' e rfl).2
         have : i = j := by simpa using this
         subst this; exact h1 hj
   exact key _ ((hn.filter _).filter _)
def cntD (T : Nat → Nat → Bool) (d : Nat → Int) (c : Nat → Int → Int) (lim : Int) : Nat → List Nat → Nat
 | 0, _ => 1
 | m + 1, S => match S with
   | [] => 1
   | x :: r => (((lastsL T (x :: r)).filter fun i => decide (c i (days d (x :: r)) ≤ lim)).map fun i => cntD T d c lim m ((x :: r).erase i)).sum
theorem ZND (T : Nat → Nat → Bool) (d : Nat → Int) (c : Nat → Int → Int) (lim : Int) : ∀ (m : Nat) (S : List Nat), cntD T d c lim m S = (bk T d c lim m S).length
 | 0, _ => rfl
 | _ + 1, [] => rfl
 | m + 1, x :: r => by
   simp only [cntD, bk]
   rw [List.length_flatMap]
   congr 1
   refine List.map_congr_left fun i _ => ?_
   rw [List.length_map, ZND T d c lim m]
theorem Z6f {α : Type} [DecidableEq α] : ∀ (l u : List α), l.Nodup → (∀ x ∈ l, x ∈ u) → l.length ≤ u.length
 | [], u, _, _ => by simp
 | x :: l, u, hn, hs => by
   have hx := hs x (by simp)
   have hn' := List.nodup_cons.1 hn
   have : l.length ≤ (u.erase x).length := Z6f l (u.erase x) hn'.2 fun y hy => by
     have hne : y ≠ x := fun e => hn'.1 (e ▸ hy)
     rw [List.mem_erase_of_ne hne]
     exact hs y (by simp [hy])
   have hl := List.length_erase_of_mem hx
   have : 0 < u.length := List.length_pos_of_mem hx
   simp only [List.length_cons]
   omega
theorem Z06z {T : Nat → Nat → Bool} (hT : Ord T) {d : Nat → Int} {c : Nat → Int → Int} {lim : Int} {S : List Nat} (hn : S.Nodup) {L : List (List Nat)} (hL : L.Nodup) (hm : ∀ o, o ∈ L ↔ o.Perm S ∧ Good T o ∧ Cok d c lim 0 o) : cntD T d c lim S.length S = L.length := by
 rw [ZND]
 have a := ZIM hT (d := d) (c := c) (lim := lim) S.length S hn (Nat.le_refl _)
 have h1 := Z6f _ L (Zkt (T := T) (d := d) (c := c) (lim := lim) S.length S hn) fun o ho => (hm o).2 ((a o).1 ho)
 have h2 := Z6f L _ hL fun o ho => (a o).2 ((hm o).1 ho)
 omega
end Go.AM.Mule
end
noncomputable section
namespace Go.AM.Mule
abbrev Edge (es : List (Nat × Nat)) (i k : Nat) : Prop := (i, k) ∈ es
abbrev Reach (es : List (Nat × Nat)) : Nat → Nat → Prop := Relation.TransGen (Edge es)
def bit (B : List Nat) (i k : Nat) : Bool := (B.getD i 0).testBit k
def addE (B : List Nat) (p : Nat × Nat) : List Nat := B.set p.1 (B.getD p.1 0 ||| 1 <<< p.2)
theorem Z8Q (B : List Nat) (p) : (addE B p).length = B.length := by simp [addE]
theorem Z3u (B : List Nat) (i j x : Nat) (h : i < B.length) : (B.set i x).getD j 0 = if i = j then x else B.getD j 0 := by
 simp only [List.getD_eq_getElem?_getD, List.getElem?_set]
 split
 · rename_i e; subst e; simp []
 · rfl
theorem Z0gA {B : List Nat} {p : Nat × Nat} (h : p.1 < B.length) (i k : Nat) : bit (addE B p) i k = true ↔ bit B i k = true ∨ (i, k) = p := by
 obtain ⟨a, b⟩ := p
 simp only [bit, addE] at *
 rw [Z3u _ _ _ _ h]
 split
 · rename_i e; subst e
   simp only [Nat.testBit_or, Bool.or_eq_true, Nat.one_shiftLeft, Nat.testBit_two_pow, decide_eq_true_eq, Prod.mk.injEq, true_and]
   exact or_congr Iff.rfl ⟨Eq.symm, Eq.symm⟩
 · rename_i e
   constructor
   · intro h; exact .inl h
   · rintro (h | h)
     · exact h
     · simp at h; exact absurd h.1.symm e
theorem ZAL : ∀ {es : List (Nat × Nat)} {B : List Nat}, (∀ p ∈ es, p.1 < B.length) → (es.foldl addE B).length = B.length ∧ ∀ i k, bit (es.foldl addE B) i k = true ↔ bit B i k = true ∨ (i, k) ∈ es
 | [], B, _ => by simp
 | p :: es, B, h => by
   have hp := h p (by simp)
   obtain ⟨a, b⟩ := ZAL (es := es) (B := addE B p) (fun q hq => by rw [Z8Q]; exact h q (by simp [hq]))
   refine ⟨by simp [a, Z8Q], fun i k => ?_⟩
   simp only [List.foldl_cons, b i k, Z0gA hp, List.mem_cons, or_assoc]
def fwI (k : Nat) (B : List Nat) (i : Nat) : List Nat := if bit B i k = true then B.set i (B.getD i 0 ||| B.getD k 0) else B
def fwK (n : Nat) (B : List Nat) (k : Nat) : List Nat := (List.range n).foldl (fwI k) B
def fw (n : Nat) (B : List Nat) : List Nat := (List.range n).foldl (fwK n) B
theorem ZsH (k : Nat) (B : List Nat) (i : Nat) : (fwI k B i).length = B.length := by unfold fwI; split <;> simp
theorem Z0lM {k : Nat} {B : List Nat} {i : Nat} (h : i < B.length) (a b : Nat) : bit (fwI k B i) a b = true ↔ bit B a b = true ∨ (a = i ∧ bit B i k = true ∧ bit B k b = true) := by
 unfold fwI
 split
 · rename_i hb
   simp only [bit] at *
   rw [Z3u _ _ _ _ h]
   split
   · rename_i e; subst e
     simp only [Nat.testBit_or, Bool.or_eq_true, hb, true_and]
   · rename_i e
     constructor
     · intro h; exact .inl h
     · rintro (h | ⟨h, _⟩)
       · exact h
       · exact absurd h.symm e
 · rename_i hb
   constructor
   · intro h; exact .inl h
   · rintro (h | ⟨_, h, _⟩)
     · exact h
     · exact absurd h hb
theorem ZPu {k : Nat} {B : List Nat} : ∀ (m : Nat), m ≤ B.length → ((List.range m).foldl (fwI k) B).length = B.length ∧ ∀ a b, bit ((List.range m).foldl (fwI k) B) a b = true ↔ bit B a b = true ∨ (a < m ∧ bit B a k = true ∧ bit B k b = true)
 | 0, _ => by simp
 | m + 1, hm => by
   obtain ⟨h1, h2⟩ := ZPu (k := k) (B := B) m (by omega)
   rw [List.range_succ, List.foldl_append]
   simp only [List.foldl_cons, List.foldl_nil]
   refine ⟨by rw [ZsH, h1], fun a b => ?_⟩
   rw [Z0lM (by omega), h2 a b, h2 m k, h2 k b]
   constructor
   · rintro (h | ⟨rfl, h3, h4⟩)
     · rcases h with h | ⟨x, y, z⟩
       · exact .inl h
       · exact .inr ⟨by omega, y, z⟩
     · have h3' : bit B a k = true := h3.elim id fun h => h.2.1
       have h4' : bit B k b = true := h4.elim id fun h => h.2.2
       exact .inr ⟨by omega, h3', h4'⟩
   · rintro (h | ⟨x, y, z⟩)
     · exact .inl (.inl h)
     · by_cases e : a = m
       · exact .inr ⟨e, .inl (e ▸ y), .inl z⟩
       · exact .inl (.inr ⟨by omega, y, z⟩)
theorem Z0dO {n : Nat} {B : List Nat} (hB : B.length = n) (k : Nat) : (fwK n B k).length = n ∧ ∀ a b, bit (fwK n B k) a b = true ↔ bit B a b = true ∨ (bit B a k = true ∧ bit B k b = true) := by
 obtain ⟨h1, h2⟩ := ZPu (k := k) (B := B) n (by omega)
 refine ⟨by rw [← hB] at h1 ⊢; exact h1, fun a b => ?_⟩
 unfold fwK
 rw [h2 a b]
 constructor
 · rintro (h | h)
   · exact .inl h
   · exact .inr h.2
 · rintro (h | h)
   · exact .inl h
   · refine .inr ⟨?_, h⟩
     have := h.1
     simp only [bit] at this
     by_cases hl : a < B.length
     · omega
     · rw [List.getD_eq_getElem?_getD, List.getElem?_eq_none (by omega)] at this
       simp at this
theorem ZtW {n : Nat} {B : List Nat} (hB : B.length = n) : ∀ m, ((List.range m).foldl (fwK n) B).length = n ∧ (∀ a b, bit B a b = true → bit ((List.range m).foldl (fwK n) B) a b = true) ∧
   (∀ a b, bit ((List.range m).foldl (fwK n) B) a b = true → Relation.TransGen (fun i k => bit B i k = true) a b) ∧
   (∀ k a b, k < m → bit ((List.range m).foldl (fwK n) B) a k = true → bit ((List.range m).foldl (fwK n) B) k b = true → bit ((List.range m).foldl (fwK n) B) a b = true)
 | 0 => by
   refine ⟨by simpa using hB, fun a b h => h, fun a b h => .single h, fun k a b h => by omega⟩
 | m + 1 => by
   obtain ⟨h1, h2, h3, h4⟩ := ZtW hB m
   rw [List.range_succ, List.foldl_append]
   simp only [List.foldl_cons, List.foldl_nil]
   generalize (List.range m).foldl (fwK n) B = D at *
   obtain ⟨g1, g2⟩ := Z0dO h1 m
   refine ⟨g1, fun a b h => (g2 a b).2 (.inl (h2 a b h)), fun a b h => ?_, fun k a b hk ha hb => ?_⟩
   · rcases (g2 a b).1 h with h | ⟨x, y⟩
     · exact h3 a b h
     · exact (h3 _ _ x).trans (h3 _ _ y)
   · have ha' := (g2 a k).1 ha
     have hb' := (g2 k b).1 hb
     refine (g2 a b).2 ?_
     by_cases e : k = m
     · subst e
       have x : bit D a k = true := ha'.elim id fun h => h.1
       have y : bit D k b = true := hb'.elim id fun h => h.2
       exact .inr ⟨x, y⟩
     · have hk' : k < m := by omega
       rcases ha' with x | ⟨x, x'⟩
       · rcases hb' with y | ⟨y, y'⟩
         · exact .inl (h4 k a b hk' x y)
         · exact .inr ⟨h4 k a m hk' x y, y'⟩
       · rcases hb' with y | ⟨y, y'⟩
         · exact .inr ⟨x, h4 k m b hk' x' y⟩
         · exact .inr ⟨x, y'⟩
theorem Z0lG {n : Nat} {B : List Nat} (hB : B.length = n) (hb : ∀ i k, bit B i k = true → k < n) (a b : Nat) : bit (fw n B) a b = true ↔ Relation.TransGen (fun i k => bit B i k = true) a b := by
 obtain ⟨h1, h2, h3, h4⟩ := ZtW hB n
 refine ⟨h3 a b, fun h => ?_⟩
 induction h with
 | single h => exact h2 _ _ h
 | tail h1' h ih =>
   rename_i b c
   refine h4 b _ _ ?_ ih (h2 _ _ h)
   cases h1' with
   | single h => exact hb _ _ h
   | tail _ h => exact hb _ _ h
theorem Z0cB {n : Nat} {B : List Nat} (hB : B.length = n) : (fw n B).length = n := (ZtW hB n).1
def closed (n : Nat) (es : List (Nat × Nat)) : List Nat := fw n (es.foldl addE (List.replicate n 0))
theorem Z0mw (n i k : Nat) : bit (List.replicate n 0) i k = false := by
 simp only [bit, List.getD_eq_getElem?_getD, List.getElem?_replicate]
 split <;> simp
theorem ZbS {n : Nat} {es : List (Nat × Nat)} (h : ∀ p ∈ es, p.1 < n ∧ p.2 < n) : (closed n es).length = n ∧ ∀ a b, bit (closed n es) a b = true ↔ Reach es a b := by
 obtain ⟨h1, h2⟩ := ZAL (es := es) (B := List.replicate n 0) (fun p hp => by simpa using (h p hp).1)
 have e : ∀ i k, bit (es.foldl addE (List.replicate n 0)) i k = true ↔ Edge es i k := fun i k => by rw [h2, Z0mw]; simp
 have hl : (es.foldl addE (List.replicate n 0)).length = n := by rw [h1]; simp
 refine ⟨Z0cB hl, fun a b => ?_⟩
 unfold closed
 rw [Z0lG hl (fun i k hik => (h (i, k) ((e i k).1 hik)).2)]
 have : (fun i k => bit (es.foldl addE (List.replicate n 0)) i k = true) = Edge es := by funext i k; exact propext (e i k)
 rw [this]
theorem ZKy {n : Nat} {es : List (Nat × Nat)} (h : ∀ p ∈ es, p.1 < n ∧ p.2 < n) {a b : Nat} (hr : Reach es a b) : a < n ∧ b < n := by
 induction hr with
 | single e => exact h _ e
 | tail _ e ih => exact ⟨ih.1, (h _ e).2⟩
end Go.AM.Mule
end
noncomputable section
namespace Go.AM.Mule
def lst (s : Nat) : List Nat := (List.range 6).filter s.testBit
theorem Z9P {s i : Nat} (h : s < 64) : i ∈ lst s ↔ s.testBit i = true := by
 simp only [lst, List.mem_filter, List.mem_range]
 constructor
 · exact fun h => h.2
 · intro hb
   refine ⟨?_, hb⟩
   rcases Nat.lt_or_ge i 6 with h6 | h6
   · exact h6
   · rw [Nat.testBit_lt_two_pow (Nat.lt_of_lt_of_le h (show 2 ^ 6 ≤ 2 ^ i from Nat.pow_le_pow_right (by omega) h6))] at hb
     exact absurd hb (by simp)
theorem ZfG (s : Nat) : (lst s).Nodup := List.nodup_range.filter _
theorem ZSy {s i : Nat} (h : i ∈ lst s) : i < 6 := by simp only [lst, List.mem_filter, List.mem_range] at h; exact h.1
theorem ZgV : ∀ s, s < 64 → ∀ i, i < 6 → lst (s &&& (63 - 1 <<< i)) = (lst s).erase i := by decide +kernel
theorem ZdZ : ∀ n, n ≤ 6 → lst (2 ^ n - 1) = List.range n := by decide +kernel
theorem ZhR : ∀ s, s < 64 → (lst s = [] ↔ s = 0) := by decide +kernel
def msk (l : List Nat) : Nat := l.foldl (fun s i => s ||| 1 <<< i) 0
theorem ZgO : ∀ (l : List Nat) (s k : Nat), (l.foldl (fun s i => s ||| 1 <<< i) s).testBit k = (s.testBit k || l.contains k)
 | [], s, k => by simp
 | i :: l, s, k => by
   rw [List.foldl_cons, ZgO l, List.contains_cons]
   simp only [Nat.testBit_or, Nat.one_shiftLeft, Nat.testBit_two_pow, Bool.or_assoc]
   congr 2
   by_cases e : i = k
   · subst e; simp
   · have : (k == i) = false := by rw [beq_eq_false_iff_ne]; exact fun h => e h.symm
     simp [this, e]
theorem Zjl (l : List Nat) (k : Nat) : (msk l).testBit k = l.contains k := by rw [msk, ZgO]; simp
theorem Z0qc {l : List Nat} {n : Nat} (h : ∀ i ∈ l, i < n) : msk l < 2 ^ n := by
 apply Nat.lt_pow_two_of_testBit
 intro i hi
 rw [Zjl]
 cases hc : l.contains i with
 | false => rfl
 | true => have := h i (by simpa using hc); omega
theorem ZkL {a s : Nat} (hs : s < 64) : (a &&& s = 0) ↔ ∀ k ∈ lst s, a.testBit k = false := by
 constructor
 · intro h k hk
   have hb := (Z9P hs).1 hk
   have : (a &&& s).testBit k = false := by rw [h]; simp
   rw [Nat.testBit_and, hb] at this
   simpa using this
 · intro h
   apply Nat.eq_of_testBit_eq
   intro k
   rw [Nat.testBit_and]
   cases hb : s.testBit k with
   | false => simp
   | true => simp [h k ((Z9P hs).2 hb)]
theorem Z07z (B : List Nat) {s : Nat} (hs : s < 64) : lastsL (bit B) (lst s) = (lst s).filter fun i => B.getD i 0 &&& s == 0 := by
 simp only [lastsL]
 apply List.filter_congr
 intro i _
 rw [Bool.eq_iff_iff, List.all_eq_true, beq_iff_eq, ZkL hs]
 simp only [bit, Bool.not_eq_true']
end Go.AM.Mule
end
noncomputable section
namespace Go.AM.Mule
def firstsL (T : Nat → Nat → Bool) (S : List Nat) : List Nat := S.filter fun i => S.all fun k => !T k i
def fr (T : Nat → Nat → Bool) : Nat → List Nat → List (List Nat)
 | 0, _ => [[]]
 | m + 1, S => match S with
   | [] => [[]]
   | x :: r => (firstsL T (x :: r)).flatMap fun i => (fr T m ((x :: r).erase i)).map (i :: ·)
def leftL (n : Nat) (begun : List Nat) : List Nat := (List.range n).filter fun i => !begun.contains i
theorem ZBk {n : Nat} {begun : List Nat} {i : Nat} : i ∈ leftL n begun ↔ i < n ∧ i ∉ begun := by simp [leftL, List.mem_filter]
theorem Z07o (n begun) : (leftL n begun).Nodup := List.nodup_range.filter _
theorem ZV9 {n : Nat} : ∀ {begun : List Nat}, begun.Nodup → (∀ i ∈ begun, i < n) → (leftL n begun).length + begun.length = n := by
 intro begun
 induction begun with
 | nil => intro _ _; have : leftL n [] = List.range n := by simp [leftL]
          simp [this]
 | cons x b ih =>
   intro hn hl
   obtain ⟨h1, h2⟩ := List.nodup_cons.1 hn
   have ih' := ih h2 fun i hi => hl i (by simp [hi])
   have hx : x ∈ leftL n b := ZBk.2 ⟨hl x (by simp), h1⟩
   have e : leftL n (x :: b) = (leftL n b).erase x := by
     rw [(Z07o n b).erase_eq_filter]
     simp only [leftL, List.filter_filter]
     apply List.filter_congr
     intro k _
     simp only [List.contains_cons, Bool.not_or, bne]
   rw [e, List.length_erase_of_mem hx]
   have := List.length_pos_of_mem hx
   simp only [List.length_cons]
   omega
noncomputable instance {d : Nat → Int} {c : Nat → Int → Int} {lim now : Int} {o : List Nat} : Decidable (Cok d c lim now o) := Classical.propDecidable _
end Go.AM.Mule
end
noncomputable section
namespace Go.AM.YtgfnbmfjbjopkaaDoor
open Go Go.AM Go.AM.Mule
structure Ld where
 lo : Int
 hi : Int
 due : Int
 rate : Int
 base : Int
deriving Inhabited
def lc (l : Ld) : List AV := [.int .i64 l.lo, .int .i64 l.hi, .int .i64 l.due, .int .i64 l.rate, .int .i64 l.base]
theorem ZX (l : Ld) : (lc l).length = 5 := rfl
abbrev trA (ls : List Ld) (B : List Nat) (n : Nat) (e1 e2 : Bool) : List AV := [.imm (cls lc ls) n e1, .imm (ucs B) n e2]
structure LdOk (l : Ld) : Prop where
 lo : 1 ≤ l.lo ∧ l.lo ≤ 9
 hi : 1 ≤ l.hi ∧ l.hi ≤ 9
 due : 0 ≤ l.due ∧ l.due ≤ 54
 rate : 0 ≤ l.rate ∧ l.rate ≤ 9
 base : 0 ≤ l.base ∧ l.base ≤ 20
structure TrOk (ls : List Ld) (B : List Nat) (n : Nat) : Prop where
 ne : 0 < n
 le : n ≤ 6
 l : ls.length = n
 b : B.length = n
 ld : ∀ x ∈ ls, LdOk x
 bb : ∀ x ∈ B, x < 2 ^ n
def listB (s : Nat) (r : Option (AV × AHeap)) : Bool :=
 match r with
 | some (.nilsl, _) => Nat.beq s 0
 | some (.ref 14 0 l c g 1 false, [(14, ⟨.row, cells⟩)]) => !Nat.beq s 0 && Nat.beq l (lst s).length && Nat.beq c (lst s).length && Nat.beq g (lst s).length && (match eqInts .i64 cells (ins (lst s)) with | some true => true | _ => false)
 | _ => false
theorem Z0dE (d : Nat) : (List.range 64).all (fun s => listB s (callA E fg 1000 (d + 4) 97 [.int .u64 s] [] 0)) = true := by kernel_rfl
theorem ZxM {k : IntKind} : ∀ {xs ys : List AV}, eqInts k xs ys = some true → xs = ys
 | [], [], _ => rfl
 | [], _ :: _, h => by simp [eqInts] at h
 | .int k1 a :: xs, .int k2 b :: ys, h => by
   simp only [eqInts] at h
   split at h
   · rename_i hk
     split at h
     · rename_i hab
       rw [ZxM h, hk.1, hk.2, eq_of_beq hab]
     · split at h <;> simp at h
   · simp at h
 | .int _ _ :: _, [], h => by simp [eqInts] at h
theorem ZEI {d s : Nat} (h : s < 64) : (s = 0 ∧ ∃ H, callA E fg 1000 (d + 4) 97 [.int .u64 s] [] 0 = some (.nilsl, H)) ∨
   (s ≠ 0 ∧ callA E fg 1000 (d + 4) 97 [.int .u64 s] [] 0 = some (.ref 14 0 (lst s).length (lst s).length (lst s).length 1 false, [(14, ⟨.row, ins (lst s)⟩)])) := by
 have := List.all_eq_true.1 (Z0dE d) s (List.mem_range.2 h)
 revert this
 generalize callA E fg 1000 (d + 4) 97 [.int .u64 s] [] 0 = r
 intro this
 unfold listB at this
 split at this
 · exact .inl ⟨Nat.eq_of_beq_eq_true this, _, rfl⟩
 · rename_i l c g cells
   simp only [Bool.and_eq_true, Bool.not_eq_true'] at this
   obtain ⟨⟨⟨⟨h1, h2⟩, h3⟩, h4⟩, h5⟩ := this
   refine .inr ⟨Nat.ne_of_beq_eq_false h1, ?_⟩
   rw [Nat.eq_of_beq_eq_true h2, Nat.eq_of_beq_eq_true h3, Nat.eq_of_beq_eq_true h4]
   have : eqInts .i64 cells (ins (lst s)) = some true := by
     split at h5 <;> simp_all
   rw [ZxM this]
 · simp at this
theorem ZMp {d : Nat} {site : Nat → Nat} {seen : List Nat} : aBack site true seen (thaw (callA E fg 1000 (d + 4)) 97 [.int .u64 0] [] 0) = .pure (.nilsl, []) := by
 rcases ZEI (d := d) (s := 0) (by omega) with h | h
 · exact Z0al h.2
 · exact absurd rfl h.1
theorem Zm4 {d s : Nat} {site : Nat → Nat} {seen : List Nat} (h : s < 64) (h0 : s ≠ 0) : aBack site true seen (thaw (callA E fg 1000 (d + 4)) 97 [.int .u64 s] [] 0) =
   Z15 (site 0) seen (fun k => .ref k 0 (lst s).length (lst s).length (lst s).length 1 false) ⟨.row, ins (lst s)⟩ := by
 rcases ZEI (d := d) h with h1 | h1
 · exact absurd h1.1 h0
 · have := Z0aU (site := site) (seen := seen) (id := 14) (n := (lst s).length) (sz := 1) (cells := ins (lst s)) (by rw [Zu]; exact h1.2) rfl
   rw [Zu] at this
   exact this
theorem Z0mR {C : Callee} {ls : List Ld} {B : List Nat} {n : Nat} {e1 e2 : Bool} (hn : n ≤ 6) : rsOf (bodyA E C fg 1000 95 [.agg (trA ls B n e1 e2)] [] 0) = some (.int .u64 ((2 ^ n - 1 : Nat) : Int)) := by
 have h1 := Zzn (i := n) (by omega)
 have h2 : wrp .u64 (((1 <<< n : Nat) : Int) - 1) = ((2 ^ n - 1 : Nat) : Int) := by
   have : n = 0 ∨ n = 1 ∨ n = 2 ∨ n = 3 ∨ n = 4 ∨ n = 5 ∨ n = 6 := by omega
   rcases this with rfl | rfl | rfl | rfl | rfl | rfl | rfl <;> rfl
 simp (disch := omega) only [ZF, Zc, Za, Z2, Z1, Z3, Z0, Zl, Zd, Zx, Zw, Zm, stp, opBox, just, Rd.bind, Rd.run, Rd.opt, upds, acells, rdCells, fieldOf, Ze, aLoad, resA, resL, fresh, aLen, Zh, aBin, aInt, Nat.reduceAdd, Nat.reduceBEq, Nat.reduceEqDiff, Nat.reduceLeDiff, ↓reduceIte, reduceCtorEq, Zf, Nat.zero_add, Nat.add_zero, List.getElem?_toArray, Z7, Option.map_some, List.elem_cons, List.elem_nil, List.length_cons, List.length_nil, List.getElem?_cons_zero, seqN, bindN, regN, beq_self_eq_true, Bool.false_eq_true, Z0P, ZZ, Z0rc, Z0mt, Z0mE, Z0m1, Z0qT, Z0mG, Z0lU, Z0ic, Z0kZ, Z0ml, Z0lF, Z0lK, Z0rF, Z0t6, Z0sT, b_95, h1, h2]
theorem Zai {d : Nat} {site : Nat → Nat} {seen : List Nat} {ls : List Ld} {B : List Nat} {n : Nat} {e1 e2 : Bool} (hn : n ≤ 6) : aBack site true seen (thaw (callA E fg 1000 (d + 1)) 95 [.agg (trA ls B n e1 e2)] [] 0) = .pure (.int .u64 ((2 ^ n - 1 : Nat) : Int), []) :=
 Z1k (Z1j (Z0mR (C := callA E fg 1000 d) hn))
def ldC (l : Ld) (day : Int) : Int := l.base + l.rate * max 0 (day - l.due)
theorem ZnY {l : Ld} (h : LdOk l) {day : Int} (h1 : 0 ≤ day ∧ day ≤ 1000) : 0 ≤ ldC l day ∧ ldC l day ≤ 9020 := by
 obtain ⟨_, _, hd, hr, hb⟩ := h
 have hm : 0 ≤ max 0 (day - l.due) ∧ max 0 (day - l.due) ≤ 1000 := by omega
 have h2 : 0 ≤ l.rate * max 0 (day - l.due) := Int.mul_nonneg hr.1 hm.1
 have h3 : l.rate * max 0 (day - l.due) ≤ 9 * 1000 := Int.mul_le_mul hr.2 hm.2 hm.1 (by omega)
 unfold ldC
 omega
theorem Z0f0 {C : Callee} {l : Ld} {day : Int} (h : LdOk l) (h1 : 0 ≤ day ∧ day ≤ 1000) : rsOf (bodyA E C fg 1000 99 [.agg (lc l), .int .i64 day] [] 0) = some (.int .i64 (ldC l day)) := by
 have hb := ZnY h h1
 obtain ⟨_, _, hd, hr, hbb⟩ := h
 have hm : 0 ≤ max 0 (day - l.due) ∧ max 0 (day - l.due) ≤ 1000 := by omega
 have h2 : 0 ≤ l.rate * max 0 (day - l.due) := Int.mul_nonneg hr.1 hm.1
 have h3 : l.rate * max 0 (day - l.due) ≤ 9 * 1000 := Int.mul_le_mul hr.2 hm.2 hm.1 (by omega)
 have w1 : wrp .i64 (day - l.due) = day - l.due := Z0i (by omega)
 have e : (if day - l.due > 0 then day - l.due else 0) = max 0 (day - l.due) := by split <;> omega
 have w2 : wrp .i64 (l.rate * max 0 (day - l.due)) = l.rate * max 0 (day - l.due) := Z0i (by omega)
 have w3 : wrp .i64 (l.base + l.rate * max 0 (day - l.due)) = ldC l day := by rw [Z0i (by omega)]; rfl
 simp (disch := omega) only [ZF, Zc, Za, Z2, Z1, Z3, Z0, Zl, Zd, Zx, Zw, Zm, stp, opBox, justO, just, Rd.bind, Rd.run, Rd.opt, upds, acells, tsz, rdCells, aLoad, resA, resL, fresh, Z5, aNum, Zh, aMax, aBin, aInt, Nat.reduceAdd, Nat.reduceBEq, Nat.reduceEqDiff, Nat.reduceLeDiff, ↓reduceIte, reduceCtorEq, Zf, Nat.zero_add, Z7, true_and, Option.map_some, List.elem_cons, List.elem_nil, List.length_cons, List.length_nil, List.getElem?_cons_zero, List.getElem?_cons_succ, seqN, bindN, regN, Int.reduceLE, Int.reduceToNat, Nat.mul_one, beq_self_eq_true, Bool.false_eq_true, T_3, Z0E, Z0sE, Z0jV, Z0hL, Z0hI, Z0rs, Z0ka, Z0kG, Z0mm, Z0lg, Z0l3, Z0mI, Z0ls, Z0nk, Z0iH, Z0iK, Z0jN, Z0do, Z0dt, Z0sV, Z0sk, Z0rG, b_99, lc, w1, e, w2, w3, if_pos]
theorem ZgQ {d : Nat} {site : Nat → Nat} {seen : List Nat} {l : Ld} {day : Int} (h : LdOk l) (h1 : 0 ≤ day ∧ day ≤ 1000) : aBack site true seen (thaw (callA E fg 1000 (d + 1)) 99 [.agg (lc l), .int .i64 day] [] 0) = .pure (.int .i64 (ldC l day), []) :=
 Z1k (Z1j (Z0f0 (C := callA E fg 1000 d) h h1))
end Go.AM.YtgfnbmfjbjopkaaDoor
end
noncomputable section
namespace Go.AM.YtgfnbmfjbjopkaaDoor
open Go Go.AM Go.AM.Mule
def hiF (ls : List Ld) (i : Nat) : Int := (ls.getD i default).hi
theorem Z07a {ls : List Ld} {B : List Nat} {n : Nat} (h : TrOk ls B n) {i : Nat} (hi : i < n) : ∃ l, ls[i]? = some l ∧ LdOk l ∧ hiF ls i = l.hi := by
 have hl : i < ls.length := by rw [h.l]; exact hi
 refine ⟨ls[i], List.getElem?_eq_getElem hl, h.ld _ (List.getElem_mem hl), ?_⟩
 simp [hiF, hl]
theorem Z0bM (d : Nat → Int) (l : List Nat) (i : Nat) : days d (l ++ [i]) = days d l + d i := by rw [Z42]; simp [days]
theorem ZqJ {ls : List Ld} {B : List Nat} {n : Nat} (h : TrOk ls B n) : ∀ {l : List Nat}, (∀ i ∈ l, i < n) → 0 ≤ days (hiF ls) l ∧ days (hiF ls) l ≤ 9 * l.length
 | [], _ => by simp [days]
 | i :: l, hl => by
   obtain ⟨x, _, h2, h3⟩ := Z07a h (hl i (by simp))
   have ih := ZqJ h (l := l) fun k hk => hl k (by simp [hk])
   have := h2.hi
   simp only [days, h3, List.length_cons]
   omega
abbrev dyS (ls : List Ld) (B : List Nat) (n : Nat) (e1 e2 : Bool) (l : List Nat) (i : Nat) : St := ([(11, .int .i64 i), (10, .int .i64 l.length), (9, .ref 9 0 l.length l.length l.length 1 false), (5, .int .i64 (days (hiF ls) (l.take i))), (2, .ptr 2 0 2)],
 [(2, ⟨.box, trA ls B n e1 e2⟩), (9, ⟨.row, ins l⟩)])
theorem Z0sG {C : Callee} {ls : List Ld} {B : List Nat} {n : Nat} {e1 e2 : Bool} {l : List Nat} (h : TrOk ls B n) (hl : ∀ i ∈ l, i < n) (h6 : l.length ≤ 6) (i : Nat) (hi : i < l.length) :
   ∃ s', execA E C (fg 100) 0 25 [] 1000 Zao (dyS ls B n e1 e2 l i) = some (.normal, s') ∧ headA [] s' = dyS ls B n e1 e2 l (i + 1) := by
 have hk : l[i]? = some l[i] := List.getElem?_eq_getElem hi
 have hkn := hl _ (List.getElem_mem hi)
 obtain ⟨x, hx, hx2, hx3⟩ := Z07a h hkn
 have e : days (hiF ls) (l.take (i + 1)) = days (hiF ls) (l.take i) + x.hi := by
   rw [List.take_add_one, hk, Option.toList_some, Z0bM, hx3]
 have b := ZqJ h (l := l.take i) fun k hk => hl k (List.mem_of_mem_take hk)
 rw [List.length_take] at b
 have hb := hx2.hi
 generalize l[i] = k at *
 have hf : (cls lc ls)[k * 5 + 1]? = some (.int .i64 x.hi) := Z0bW ZX hx (by omega)
 have hlen : (cls lc ls).length = n * 5 := by rw [ZA ZX, h.l]
 have g1 : (i : Int) < l.length := by omega
 have w : wrp .i64 (days (hiF ls) (l.take i) + x.hi) = days (hiF ls) (l.take i) + x.hi := Z0i (by omega)
 have hin := Zu l
 have hat := Z10 hk
 simp only [dyS, e]
 simp (disch := omega) only [Z8, Zg, Zc, Za, Z2, Z1, Z3, Z0, Zd, Zo, Zm, stp, just, Rd.bind, Rd.run, Rd.opt, upds, tsz, rdCells, fieldOf, Ze, aLoad, Z5, aNum, aBin, aInt, Nat.reduceAdd, Nat.reduceLT, Nat.reduceBEq, Nat.reduceEqDiff, Nat.reduceLeDiff, ↓reduceIte, Zf, Nat.zero_add, Nat.add_zero, decide_true, Z7, and_true, true_and, Int.natCast_nonneg, Int.ofNat_lt, Int.toNat_natCast, List.elem_cons, List.elem_nil, List.length_cons, List.length_nil, List.getElem?_cons_zero, seqN, bindN, regN, Int.reduceLE, Int.reduceToNat, Nat.mul_one, beq_self_eq_true, Bool.false_eq_true, T_3, T_36, Z0P, ZZ, Z0E, Zwa, ZmF, ZjB, ZuI, Zw6, Zwy, Z0mJ, Z0gx, Z0eh, Z0em, Z0g1, Z0jx, Z0eF, Z0dU, Z0fa, Z0ge, Z0fg, Z0eP, Z0eo, Z0ew, Z0f8, Z0fV, Z0iR, Z0kn, Z0kX, Z0fA, Z0ek, Z0gZ, Z0np, Ztg, ZEF, g1, hat, hf, hlen, hin, w, if_pos, ZD (show i < 1000000 by omega), List.elem_cons, Nat.zero_add]
 exact ⟨_, rfl, rfl⟩
theorem lt64 {s n : Nat} (hn : n ≤ 6) (h : s < 2 ^ n) : s < 64 := Nat.lt_of_lt_of_le h (Nat.pow_le_pow_right (by omega) hn)
theorem Z5P {s n : Nat} (hn : n ≤ 6) (h : s < 2 ^ n) : ∀ i ∈ lst s, i < n := by
 intro i hi
 have hb := (Z9P (lt64 hn h)).1 hi
 rcases Nat.lt_or_ge i n with h1 | h1
 · exact h1
 · rw [Nat.testBit_lt_two_pow (Nat.lt_of_lt_of_le h (Nat.pow_le_pow_right (by omega) h1))] at hb
   exact absurd hb (by simp)
theorem Z4V (s : Nat) : (lst s).length ≤ 6 := by
 have := List.length_filter_le s.testBit (List.range 6)
 simpa [lst] using this
theorem Z025 {s : Nat} (h : s < 64) (h0 : s ≠ 0) : 0 < (lst s).length := by
 rcases Nat.eq_zero_or_pos (lst s).length with h1 | h1
 · exact absurd ((ZhR s h).1 (List.length_eq_zero_iff.1 h1)) h0
 · exact h1
def daysS (ls : List Ld) (s : Nat) : Int := days (hiF ls) (lst s)
theorem ZuP {ls : List Ld} {B : List Nat} {n s : Nat} (h : TrOk ls B n) (hs : s < 2 ^ n) : 0 ≤ daysS ls s ∧ daysS ls s ≤ 54 := by
 have := ZqJ h (Z5P h.le hs)
 have := Z4V s
 unfold daysS
 omega
theorem Z0ds {d : Nat} {ls : List Ld} {B : List Nat} {n s : Nat} {e1 e2 : Bool} (h : TrOk ls B n) (hs : s < 2 ^ n) : rsOf (bodyA E (callA E fg 1000 (d + 4)) fg 1000 100 [.agg (trA ls B n e1 e2), .int .u64 s] [] 0) = some (.int .i64 (daysS ls s)) := by
 have h64 := lt64 h.le hs
 by_cases h0 : s = 0
 · subst h0
   have hr := fun (site : Nat → Nat) seen => ZMp (d := d) (site := site) (seen := seen)
   have z : lst 0 = [] := rfl
   simp only [daysS, z, days]
   have z0 : ((0 : Nat) : Int) = 0 := rfl
   rw [z0]
   generalize callA E fg 1000 (d + 4) = C at *
   have hloop := Z2M (f := execA E C (fg 100) 0 25 [] 1000 Zao) (hd := headA []) (fun _ => ([(11, .int .i64 0), (10, .int .i64 0), (9, .nilsl), (5, .int .i64 0), (2, .ptr 2 0 2)], [(2, ⟨.box, trA ls B n e1 e2⟩)])) 0 1000 0
     ([(11, .int .i64 0), (10, .int .i64 0), (9, .nilsl), (5, .int .i64 0), (2, .ptr 2 0 2)], [(2, ⟨.box, trA ls B n e1 e2⟩)]) rfl (by omega) (fun i _ hi => by omega)
     (e := .exit 0) (se := ([(12, .bool false), (11, .int .i64 0), (10, .int .i64 0), (9, .nilsl), (5, .int .i64 0), (2, .ptr 2 0 2)], [(2, ⟨.box, trA ls B n e1 e2⟩)]))
     (by simp (disch := omega) only [ZR, Z8, Zc, Za, Z2, Z1, Z3, Z0, Zo, stp, just, Rd.bind, Rd.run, Rd.opt, upds, aBin, aInt, Nat.reduceEqDiff, Nat.reduceLeDiff, ↓reduceIte, decide_false, Z7, List.elem_nil, seqN, bindN, regN, Int.lt_irrefl, Bool.false_eq_true, Zwa, ZmF, ZjB, ZuI, Zw6, Zwy, Ztg, ZEF]) (by simp)
   simp (disch := omega) only [ZJ, ZF, Zc, Za, Z2, Z0G, Z1, Z3, Z0, Zl, Zx, Zw, Zo, Zm, stp, opBox, just, Rd.bind, Rd.run, upds, acells, resA, resL, fresh, aLen, Zh, Nat.reduceAdd, Nat.reduceBEq, Nat.reduceEqDiff, Nat.reduceLeDiff, ↓reduceIte, reduceCtorEq, Nat.zero_add, List.getElem?_toArray, Z7, aCall, snaps, List.append_nil, Option.map_some, List.elem_cons, List.elem_nil, List.length_cons, List.length_nil, List.getElem?_cons_zero, seqN, bindN, regN, Zr, beq_self_eq_true, Bool.false_eq_true, T_36, Z0aA, ZNe, ZLw, ZG8, Z0a0, ZAD, ZKh, Z08B, ZEr, ZKX, ZT2, ZHo, ZK5, Z0aC, Z09D, Z09A, Z04x, ZDK, ZSE, ZR9, Z02D, ZY7, Z0bl, Z08Z, Z0cM, Z0hB, hr, hloop]
 · have hr := fun (site : Nat → Nat) seen => Zm4 (d := d) (site := site) (seen := seen) h64 h0
   have hl6 := Z4V s
   have hin := Zu (lst s)
   have hln := Z5P h.le hs
   have hS : daysS ls s = days (hiF ls) (lst s) := rfl
   have b := ZqJ h hln
   rw [hS]
   generalize lst s = l at *
   generalize callA E fg 1000 (d + 4) = C at *
   have hloop := Z2M (f := execA E C (fg 100) 0 25 [] 1000 Zao) (hd := headA []) (dyS ls B n e1 e2 l) l.length 1000 0 (dyS ls B n e1 e2 l 0) rfl (by omega) (fun i _ hi => Z0sG h hln hl6 i (by omega))
     (e := .exit 0) (se := ([(12, .bool false), (11, .int .i64 l.length), (10, .int .i64 l.length), (9, .ref 9 0 l.length l.length l.length 1 false), (5, .int .i64 (days (hiF ls) l)), (2, .ptr 2 0 2)], [(2, ⟨.box, trA ls B n e1 e2⟩), (9, ⟨.row, ins l⟩)]))
     (by simp (disch := omega) only [ZR, Z8, Zc, Za, Z2, Z1, Z3, Z0, Zo, stp, just, Rd.bind, Rd.run, Rd.opt, upds, aBin, aInt, Nat.reduceEqDiff, Nat.reduceLeDiff, ↓reduceIte, Nat.zero_add, decide_false, Z7, List.elem_nil, seqN, bindN, regN, Int.lt_irrefl, Bool.false_eq_true, Zwa, ZmF, ZjB, ZuI, Zw6, Zwy, Ztg, ZEF, dyS, Nat.zero_add, List.take_length]) (by simp)
   simp only [dyS, List.take_zero, days, cl0] at hloop
   simp (disch := omega) only [ZJ, ZF, Zc, Za, Z2, Z0G, Z1, Z3, Z0, Zl, Zd, Zx, Zi, Zw, Zo, Zm, stp, opBox, just, Rd.bind, Rd.run, upds, acells, resA, resL, fresh, aLen, Zh, Nat.reduceAdd, Nat.reduceBEq, Nat.reduceEqDiff, Nat.reduceLeDiff, ↓reduceIte, reduceCtorEq, Zf, Nat.zero_add, List.nil_append, List.getElem?_toArray, Z7, aCall, snaps, List.append_nil, Option.map_some, List.elem_cons, List.elem_nil, List.length_cons, List.length_nil, List.getElem?_cons_zero, Zp, seqN, bindN, regN, Zr, Z1o, Nat.zero_mul, beq_self_eq_true, Bool.false_eq_true, T_36, Z0aA, ZNe, ZLw, ZG8, Z0a0, ZAD, ZKh, Z08B, ZEr, ZKX, ZT2, ZHo, ZK5, Z0aC, Z09D, Z09A, Z04x, ZDK, ZSE, ZR9, Z02D, ZY7, Z0bl, Z08Z, Z0cM, Z0hB, hr, hin, hloop]
theorem Zgy {d : Nat} {site : Nat → Nat} {seen : List Nat} {ls : List Ld} {B : List Nat} {n s : Nat} {e1 e2 : Bool} (h : TrOk ls B n) (hs : s < 2 ^ n) : aBack site true seen (thaw (callA E fg 1000 (d + 5)) 100 [.agg (trA ls B n e1 e2), .int .u64 s] [] 0) = .pure (.int .i64 (daysS ls s), []) :=
 Z1k (Z1j (Z0ds (d := d) h hs))
end Go.AM.YtgfnbmfjbjopkaaDoor
end
noncomputable section
namespace Go.AM.YtgfnbmfjbjopkaaDoor
open Go Go.AM Go.AM.Mule
structure Prd (C : Callee) (f : AV) (l : List Nat) (p : Nat → Bool) : Prop where
 mt : ∀ args, mutV E f args = none
 call : ∀ (site : Nat → Nat) i, i ∈ l → opCallV E C site true f [.int .i64 (i : Int)] = .pure (.bool (p i), [])
 refs : refsOf f = []
abbrev ixS (l : List Nat) (ex : Bool) (f : AV) (i : Nat) : St := ([(8, .int .i64 i), (7, .int .i64 l.length), (1, f), (0, .imm (ins l) l.length ex)], [])
theorem ZuB (l : List Nat) (ex : Bool) (f : AV) (i : Nat) (φ : AFr) (H : AHeap) (hr : refsOf f = []) (h : φ = (ixS l ex f i).1) : headA [] (φ, H) = ixS l ex f i := by
 subst h
 rw [Z60]
 simp only [refsF, refsOf, hr, List.append_nil]
theorem Z0od {C : Callee} {f : AV} {l : List Nat} {p : Nat → Bool} {ex : Bool} (h : Prd C f l p) (hl : l.length < 900) :
   rsOf (bodyA E C fg 1000 54 [.imm (ins l) l.length ex, f] [] 0) = some (.int .i64 (if l.findIdx p < l.length then (l.findIdx p : Int) else -1)) := by
 obtain ⟨hm, hc, hr⟩ := h
 have hin := Zu l
 have hle := List.findIdx_le_length (xs := l) (p := p)
 have hlo : ∀ i, i < l.findIdx p → ∃ s', (execA E C (fg 54) 0 19 [] 1000 Zj9) (ixS l ex f i) = some (.normal, s') ∧ headA [] s' = ixS l ex f (i + 1) := by
   intro i hi
   have hil : i < l.length := by omega
   have hk : l[i]? = some l[i] := List.getElem?_eq_getElem hil
   have hp : p l[i] = false := by simpa using List.not_of_lt_findIdx hi
   have hcall := fun site => hc site l[i] (List.getElem_mem hil)
   generalize l[i] = k at *
   have g1 : (i : Int) < l.length := by omega
   have hat := Z10 hk
   rw [hp] at hcall
   simp (disch := omega) only [ixS]
   simp (disch := omega) only [Z8, Zg, Zc, Za, Z2, Z1, Z3, Z0, Zo, Zm, stp, just, Rd.bind, Rd.run, Rd.opt, upds, tsz, rdCells, aLoad, Z5, aNum, aBin, aInt, Nat.reduceMul, Nat.reduceLT, Nat.reduceBEq, Nat.reduceEqDiff, Nat.reduceLeDiff, ↓reduceIte, reduceCtorEq, Nat.zero_add, decide_true, Z7, and_true, Int.natCast_nonneg, Int.toNat_natCast, List.elem_cons, List.elem_nil, seqN, bindN, regN, Nat.mul_one, beq_self_eq_true, Bool.false_eq_true, T_3, T_36, Zz9, Zii, Zi8, Zqm, Zo5, ZqC, Z0b2, ZYM, Z02j, Z02r, Z09V, ZZx, ZWJ, Z03e, ZWu, Z03A, Z05v, ZXj, Z0aO, Z01f, Z01p, Z00P, Z09m, Z0aX, Z09y, Z0c1, Z0a9, Z0c9, Z0ax, Z0oK, Z0kC, Z0i9, Z0mY, Z0cJ, ZyZ, ZyP, g1, hat, hin, ZD (show i < 1000000 by omega), Z1L (hm _), hcall]
   exact ⟨_, rfl, ZuB _ _ _ _ _ _ hr rfl⟩
 by_cases hlt : l.findIdx p < l.length
 · rw [if_pos hlt]
   have hk : l[l.findIdx p]? = some l[l.findIdx p] := List.getElem?_eq_getElem hlt
   have hp : p l[l.findIdx p] = true := List.findIdx_getElem
   have hcall := fun site => hc site l[l.findIdx p] (List.getElem_mem hlt)
   rw [hp] at hcall
   have g1 : (l.findIdx p : Int) < l.length := by omega
   have hat := Z10 hk
   generalize l[l.findIdx p] = k at *
   generalize l.findIdx p = m at *
   have hloop := loopN (ixS l ex f) m hlo (ZuB _ _ _ _ _ _ hr rfl) (by omega)
     (e := .ret) (se := ([(4, .int .i64 m)], []))
     (by simp (disch := omega) only [Z0o, Z8, Z0e, Zc, Za, Z2, Z1, Z3, Z0, Zo, Zm, stp, just, Rd.bind, Rd.run, Rd.opt, upds, tsz, rdCells, aLoad, Z5, aNum, aBin, aInt, Nat.reduceMul, Nat.reduceLT, Nat.reduceBEq, Nat.reduceEqDiff, Nat.reduceLeDiff, ↓reduceIte, reduceCtorEq, Nat.zero_add, decide_true, Z7, and_true, Int.natCast_nonneg, Int.toNat_natCast, List.elem_cons, List.elem_nil, seqN, bindN, regN, Nat.mul_one, beq_self_eq_true, Bool.false_eq_true, T_3, T_36, Zz9, Zii, Zi8, Zqm, Zo5, ZqC, Z0b2, ZYM, Z02j, Z02r, Z09V, ZZx, ZWJ, Z03e, ZWu, Z03A, Z05v, ZXj, Z0aO, Z01f, Z01p, Z00P, Z09m, Z0aX, Z09y, Z0c1, Z0a9, Z0c9, Z0ax, Z0cJ, ZyZ, ZyP, ixS, g1, hat, hin, Z1L (hm _), hcall]) (by simp)
   simp only [ixS, cl0] at hloop
   simp (disch := omega) only [Z0o, Z0e, ZF, Zc, Za, Z2, Z1, Z3, Z0, Zw, Zm, stp, just, Rd.bind, Rd.run, upds, resA, resL, aLen, Zh, Nat.reduceBEq, Nat.reduceEqDiff, Nat.reduceLeDiff, ↓reduceIte, reduceCtorEq, Nat.zero_add, List.getElem?_toArray, Z7, Option.map_some, List.elem_cons, List.elem_nil, List.getElem?_cons_zero, seqN, bindN, regN, beq_self_eq_true, Bool.false_eq_true, T_36, Z06m, Zvk, ZtO, Z06s, Ztz, Zuu, Zts, Zv7, Z06D, Z07d, Z06O, Z06N, Z06f, b_54, hloop]
 · rw [if_neg hlt]
   have e : l.findIdx p = l.length := by omega
   have hloop := loopN (ixS l ex f) l.length (fun i hi => hlo i (by omega)) (ZuB _ _ _ _ _ _ hr rfl) (by omega)
     (e := .exit 0) (se := ([(9, .bool false), (8, .int .i64 l.length), (7, .int .i64 l.length), (1, f), (0, .imm (ins l) l.length ex)], []))
     (by simp (disch := omega) only [ZR, Z8, Zc, Za, Z2, Z1, Z3, Z0, Zo, stp, just, Rd.bind, Rd.run, Rd.opt, upds, aBin, aInt, Nat.reduceEqDiff, Nat.reduceLeDiff, ↓reduceIte, decide_false, Z7, List.elem_nil, seqN, bindN, regN, Int.lt_irrefl, Bool.false_eq_true, Zz9, Zii, Zi8, Zqm, Zo5, ZqC, ZyZ, ZyP, ixS]) (by simp)
   simp only [ixS, cl0] at hloop
   simp (disch := omega) only [ZJ, ZF, Zc, Za, Z2, Z0G, Z1, Z3, Z0, Zw, Zo, Zm, stp, just, Rd.bind, Rd.run, upds, resA, resL, aLen, Zh, Nat.reduceBEq, Nat.reduceEqDiff, Nat.reduceLeDiff, Int.reduceNeg, ↓reduceIte, reduceCtorEq, Nat.zero_add, List.getElem?_toArray, Z7, Option.map_some, List.elem_cons, List.elem_nil, List.getElem?_cons_zero, seqN, bindN, regN, beq_self_eq_true, Bool.false_eq_true, T_36, Z06m, Zvk, ZtO, Z06s, Ztz, Zuu, Zts, Zv7, Z06D, Z07d, Z06O, Z0cF, ZZI, ZY4, Z098, Z0ba, Z06N, Z06f, b_54, hloop]
theorem Z0q2 {C : Callee} {f : AV} (hr : refsOf f = []) :
   rsOf (bodyA E C fg 1000 54 [.nilsl, f] [] 0) = some (.int .i64 (-1)) := by
 have hloop := Z06C (f := (execA E C (fg 54) 0 19 [] 1000 Zj9)) (s0 := ([(8, .int .i64 0), (7, .int .i64 0), (1, f), (0, .nilsl)], [])) (by rw [Z60]; simp only [refsF, refsOf, hr, List.append_nil])
     (e := .exit 0) (se := ([(9, .bool false), (8, .int .i64 0), (7, .int .i64 0), (1, f), (0, .nilsl)], []))
     (by simp (disch := omega) only [ZR, Z8, Zc, Za, Z2, Z1, Z3, Z0, Zo, stp, just, Rd.bind, Rd.run, Rd.opt, upds, aBin, aInt, Nat.reduceEqDiff, Nat.reduceLeDiff, ↓reduceIte, decide_false, Z7, List.elem_nil, seqN, bindN, regN, Int.lt_irrefl, Bool.false_eq_true, Zz9, Zii, Zi8, Zqm, Zo5, ZqC, ZyZ, ZyP]) (by simp)
 simp (disch := omega) only [ZJ, ZF, Zc, Za, Z2, Z0G, Z1, Z3, Z0, Zw, Zo, Zm, stp, just, Rd.bind, Rd.run, upds, resA, resL, aLen, Zh, Nat.reduceBEq, Nat.reduceEqDiff, Nat.reduceLeDiff, Int.reduceNeg, ↓reduceIte, reduceCtorEq, Nat.zero_add, List.getElem?_toArray, Z7, Option.map_some, List.elem_cons, List.elem_nil, List.getElem?_cons_zero, seqN, bindN, regN, beq_self_eq_true, Bool.false_eq_true, T_36, Z06m, Zvk, ZtO, Z06s, Ztz, Zuu, Zts, Zv7, Z06D, Z07d, Z06O, Z0cF, ZZI, ZY4, Z098, Z0ba, Z06N, Z06f, b_54, hloop]
theorem ZVc (l : List Nat) (p : Nat → Bool) : l.any p = decide (l.findIdx p < l.length) := by
 rw [Bool.eq_iff_iff, decide_eq_true_eq, List.findIdx_lt_length, List.any_eq_true]
def LV (l : List Nat) (a : AV) : Prop := (l = [] ∧ a = .nilsl) ∨ ∃ ex, a = .imm (ins l) l.length ex
theorem ZPs {d : Nat} {f a : AV} {l : List Nat} {p : Nat → Bool} {site : Nat → Nat} {seen : List Nat} (h : Prd (callA E fg 1000 d) f l p) (ha : LV l a) (hl : l.length < 900) :
   aBack site true seen (thaw (callA E fg 1000 (d + 1)) 54 [a, f] [] 0) = .pure (.int .i64 (if l.findIdx p < l.length then (l.findIdx p : Int) else -1), []) := by
 rcases ha with ⟨rfl, rfl⟩ | ⟨ex, rfl⟩
 · exact Z1k (Z1j (Z0q2 (C := callA E fg 1000 d) h.refs))
 · exact Z1k (Z1j (Z0od h hl))
theorem Z0qv {d : Nat} {f a : AV} {l : List Nat} {p : Nat → Bool} (h : Prd (callA E fg 1000 d) f l p) (hf : ∀ n, snap (n + 100) f = .pure (f, [])) (ha : LV l a) (hl : l.length < 900) :
   rsOf (bodyA E (callA E fg 1000 (d + 1)) fg 1000 56 [a, f] [] 0) = some (.bool (l.any p)) := by
 have hc := fun (site : Nat → Nat) seen => ZPs (site := site) (seen := seen) h ha hl
 have e : l.any p = decide ((if l.findIdx p < l.length then (l.findIdx p : Int) else -1) ≥ 0) := by
   rw [ZVc]; exact decide_eq_decide.2 (by split <;> omega)
 rw [e]
 generalize (if l.findIdx p < l.length then (l.findIdx p : Int) else -1) = z at *
 have hs : ∀ m, snap (m + 100) a = .pure (a, []) := by
   intro m
   rcases ha with ⟨rfl, rfl⟩ | ⟨ex, rfl⟩ <;> rfl
 generalize callA E fg 1000 (d + 1) = C at *
 have hf1 := hf 98
 have hs1 := hs 99
 simp only [Nat.reduceAdd] at hf1 hs1
 simp (disch := omega) only [ZF, Zc, Za, Z2, Z1, Z3, Z0, Zw, Zm, stp, just, Rd.bind, Rd.run, Rd.opt, upds, resA, resL, aBin, aInt, Nat.reduceBEq, Nat.reduceEqDiff, Nat.reduceLeDiff, ↓reduceIte, reduceCtorEq, Nat.zero_add, Z7, aCall, snaps, List.append_nil, Option.map_some, List.elem_cons, List.elem_nil, seqN, bindN, regN, beq_self_eq_true, Bool.false_eq_true, Z0r7, Z0i6, Z0iI, Z0r3, Z0lo, Z0kg, Z0jo, Z0i1, Z0jz, Z0nr, Z0sN, Z0s5, Z0t2, b_56, hc, hs1, hf1]
theorem Z0hJ {d : Nat} {f a : AV} {l : List Nat} {p : Nat → Bool} {site : Nat → Nat} {seen : List Nat} (h : Prd (callA E fg 1000 d) f l p) (hf : ∀ n, snap (n + 100) f = .pure (f, [])) (ha : LV l a) (hl : l.length < 900) :
   aBack site true seen (thaw (callA E fg 1000 (d + 2)) 56 [a, f] [] 0) = .pure (.bool (l.any p), []) :=
 Z5Z (Z1j (Z0qv h hf ha hl))
end Go.AM.YtgfnbmfjbjopkaaDoor
end
noncomputable section
namespace Go.AM.YtgfnbmfjbjopkaaDoor
open Go Go.AM Go.AM.Mule
theorem Z51 {B : List Nat} {i n : Nat} (hB : B.length = n) (hi : i < n) : B[i]? = some (B.getD i 0) := by
 have h : i < B.length := by omega
 rw [List.getElem?_eq_getElem h]; simp [h]
theorem b_lt {ls : List Ld} {B : List Nat} {n : Nat} (h : TrOk ls B n) {i : Nat} : B.getD i 0 < 64 := by
 by_cases hi : i < B.length
 · have := h.bb _ (List.getElem_mem hi)
   have : B[i] < 64 := lt64 h.le this
   simpa [hi] using this
 · simp [hi]
theorem Z0ol {C : Callee} {ls : List Ld} {B : List Nat} {n : Nat} {e1 e2 : Bool} {i s : Nat} (h : TrOk ls B n) (hi : i < n) (hs : s < 64) :
   rsOf (bodyA E C fg 1000 141 [.int .i64 (i : Int), .iptr (trA ls B n e1 e2) 0, .iptr [.int .u64 (s : Int)] 0] [] 0) = some (.bool (B.getD i 0 &&& s != 0)) := by
 have hat := ZaJ (Z51 h.b hi)
 have hl := Z0g B
 rw [h.b] at hl
 have hb := b_lt h (i := i)
 have ha := ZLi (a := B.getD i 0) (b := s) (by omega) (by omega)
 have hn := ZLs (B.getD i 0 &&& s)
 generalize B.getD i 0 = b at *
 simp (disch := omega) only [Bool.not_true, Bool.not_false, ZF, Zc, Za, Z2, Z1, Z3, Z0, Zw, Zm, just, Rd.bind, Rd.run, Rd.opt, upds, tsz, rdCells, fieldOf, Ze, aLoad, resA, resL, Z5, aNum, aBin, aInt, Nat.reduceAdd, Nat.reduceLT, Nat.reduceBEq, Nat.reduceEqDiff, Nat.reduceLeDiff, ↓reduceIte, reduceCtorEq, Nat.zero_add, ZE, ZH, ZO, ZP, Zz, ZL, Zt, Zn, ZC, stpT, Rd.foot, writing, Zq, Tr.empty, Zs, List.isEmpty_nil, List.map_nil, Bool.not_false, Bool.not_true, Bool.or_true, Bool.or_false, Bool.and_self, decide_true, Z7, and_true, true_and, Int.natCast_nonneg, Int.ofNat_lt, Int.toNat_natCast, Option.map_some, List.elem_cons, List.elem_nil, List.getElem?_cons_zero, List.getElem?_cons_succ, seqN, bindN, regN, Nat.le_refl, Nat.mul_one, beq_self_eq_true, Bool.false_eq_true, Z46, ZZ, Z18, beq_self_eq_true, Z0pz, Z0dY, Z0fB, Z0ox, Z0dW, Z0ck, Z0ce, Z0eI, Z0fZ, Z0dV, Z0gP, Z0dM, Z0hd, Z0e3, Z0dA, Z0dz, Z0o1, Z0pu, Z0o8, Z0sr, hat, hl, ha, hn, if_pos]
theorem ZZY {d : Nat} {site : Nat → Nat} {seen : List Nat} {ls : List Ld} {B : List Nat} {n : Nat} {e1 e2 : Bool} {i s : Nat} (h : TrOk ls B n) (hi : i < n) (hs : s < 64) :
   aBack site true seen (thaw (callA E fg 1000 (d + 1)) 141 [.int .i64 (i : Int), .iptr (trA ls B n e1 e2) 0, .iptr [.int .u64 (s : Int)] 0] [] 0) = .pure (.bool (B.getD i 0 &&& s != 0), []) :=
 Z5Z (Z1j (Z0ol (C := callA E fg 1000 d) h hi hs))
theorem Z0oO {d : Nat} {ls : List Ld} {B : List Nat} {n : Nat} {e1 e2 : Bool} {s : Nat} {l : List Nat} (h : TrOk ls B n) (hl : ∀ i ∈ l, i < n) (hs : s < 64) :
   Prd (callA E fg 1000 (d + 1)) (.clo 141 [.iptr (trA ls B n e1 e2) 0, .iptr [.int .u64 (s : Int)] 0]) l (fun i => B.getD i 0 &&& s != 0) := by
 refine ⟨fun _ => rfl, fun site i hi => ?_, rfl⟩
 have := ZZY (d := d) (site := site) (seen := []) (e1 := e1) (e2 := e2) h (hl i hi) hs
 simp only [opCallV, ZrX, aCall, List.cons_append, List.nil_append, List.append_nil, snaps, snap, Rd.bind]
 exact this
theorem ZNZ : ∀ (b a z : List AV), z.length = b.length → putC (a ++ b) a.length z = a ++ z
 | [], a, z, h => by obtain rfl := List.length_eq_zero_iff.1 h; simp [putC]
 | x :: b, a, [], h => by simp at h
 | x :: b, a, y :: z, h => by
   simp only [putC]
   rw [show (a ++ x :: b).set a.length y = (a ++ [y]) ++ b by simp, show a.length + 1 = (a ++ [y]).length by simp, ZNZ b (a ++ [y]) z (by simpa using h)]
   simp
theorem ZeY : ∀ n, repC [.int .i64 0] n = ins (List.replicate n 0)
 | 0 => rfl
 | n + 1 => by rw [repC, ZeY n]; rfl
theorem ZsX (a b : List Nat) : ins (a ++ b) = ins a ++ ins b := by simp [ins]
def keepL (p : Nat → Bool) (l : List Nat) : List Nat := l.filter fun i => !p i
theorem ZIi (p : Nat → Bool) (l : List Nat) (j : Nat) : (keepL p (l.take j)).length ≤ j := by
 have := List.length_filter_le (fun i => !p i) (l.take j)
 have := List.length_take_le j l
 unfold keepL; omega
abbrev dfS (ls : List Ld) (B : List Nat) (n : Nat) (e1 e2 : Bool) (s : Nat) (l : List Nat) (p : Nat → Bool) (j : Nat) : St :=
 ([(6, .int .i64 j), (5, .int .i64 (keepL p (l.take j)).length), (1, .clo 141 [.ptr 2 0 2, .ptr 3 0 1]), (0, .ref 6 0 l.length l.length l.length 1 false)],
   [(2, ⟨.box, trA ls B n e1 e2⟩), (3, ⟨.box, [.int .u64 (s : Int)]⟩), (6, ⟨.row, ins (keepL p (l.take j) ++ l.drop (keepL p (l.take j)).length)⟩)])
theorem Z0sA {C : Callee} {ls : List Ld} {B : List Nat} {n : Nat} {e1 e2 : Bool} {s : Nat} {l : List Nat} {p : Nat → Bool} {H0 : AHeap} (hH : H0 = [(2, ⟨.box, trA ls B n e1 e2⟩), (3, ⟨.box, [.int .u64 (s : Int)]⟩), (6, ⟨.row, ins l⟩)])
   (hc : ∀ (site : Nat → Nat) seen i, i ∈ l → aBack site true seen (thaw C 141 [.int .i64 (i : Int), .iptr (trA ls B n e1 e2) 0, .iptr [.int .u64 (s : Int)] 0] [] 0) = .pure (.bool (p i), [])) (j : Nat) (hj : j < l.length) (h6 : l.length ≤ 6) :
   ∃ s', execA E C (fg 140) 72 42 H0 1000 Z9S (dfS ls B n e1 e2 s l p j) = some (.normal, s') ∧ headA H0 s' = dfS ls B n e1 e2 s l p (j + 1) := by
 subst hH
 have hm : ∀ caps args, mutV E (.clo 141 caps) args = none := fun _ _ => rfl
 have hk : l[j]? = some l[j] := List.getElem?_eq_getElem hj
 have hcj := fun site seen => hc site seen l[j] (List.getElem_mem hj)
 have ht : l.take (j + 1) = l.take j ++ [l[j]] := by rw [List.take_add_one, hk]; rfl
 have hkl := ZIi p l j
 have g1 : (j : Int) < l.length := by omega
 have hat : (keepL p (l.take j) ++ l.drop (keepL p (l.take j)).length)[j]? = some l[j] := by
   rw [List.getElem?_append_right hkl, List.getElem?_drop, ← hk]; congr 1; omega
 have hat2 := Z10 hat
 have hlen : (ins (keepL p (l.take j) ++ l.drop (keepL p (l.take j)).length)).length = l.length := by
   rw [Zu, List.length_append, List.length_drop]; omega
 simp only [dfS, ht]
 cases hp : p l[j] with
 | true =>
   have e : keepL p (l.take j ++ [l[j]]) = keepL p (l.take j) := by simp only [keepL, List.filter_append, List.filter_cons, hp, Bool.not_true, Bool.false_eq_true, if_false, List.filter_nil, List.append_nil]
   rw [hp] at hcj
   rw [e]
   generalize keepL p (l.take j) = q at *
   generalize l[j] = k at *
   simp (disch := omega) only [Z8, Zg, Bool.not_true, Zc, Za, Z2, Z1, Z3, Z0, Zd, Zi, Zm, stp, justO, just, Rd.bind, Rd.run, Rd.opt, upds, acells, tsz, rdCells, aLoad, aStore, opStore, Z5, aNum, aLen, Zh, aBin, aInt, putC, Nat.reduceAdd, Nat.reduceMul, Nat.reduceLT, Nat.reduceBEq, Nat.reduceEqDiff, Nat.reduceLeDiff, ↓reduceIte, reduceCtorEq, Zf, Nat.zero_add, List.nil_append, List.getElem?_toArray, Bool.not_true, decide_true, aUn, Z7, Zk, and_true, true_and, Int.natCast_nonneg, Int.ofNat_lt, Int.toNat_natCast, aCall, snaps, List.append_nil, List.elem_cons, List.elem_nil, List.length_cons, List.length_nil, List.getElem?_cons_zero, Zp, seqN, bindN, regN, Zr, Z0n, Z0q, opCallV, List.cons_append, Nat.mul_one, List.not_mem_nil, beq_self_eq_true, Bool.false_eq_true, T_3, T_36, beq_self_eq_true, ZtL, Zl1, Zll, ZmN, ZmJ, ZlO, Ztx, Zt4, Zwd, Zu5, ZVQ, ZPp, ZH2, ZB7, ZQG, ZI4, ZCd, Z02Y, ZGO, ZAo, ZNg, ZOl, ZQM, Z04P, ZEU, ZPW, ZHF, ZTi, ZMm, ZAc, ZXh, Zyk, Zyx, ZwT, ZxT, Z01Q, ZYb, ZZs, ZWU, Z026, ZWt, ZVj, ZPr, ZDp, ZBw, ZTR, Z01m, ZuQ, g1, hat2, hlen, hcj, if_pos, Z1L (hm _ _), ZD (show j < 1000000 by omega), ZrX]
   exact ⟨_, rfl, rfl⟩
 | false =>
   have e : keepL p (l.take j ++ [l[j]]) = keepL p (l.take j) ++ [l[j]] := by simp only [keepL, List.filter_append, List.filter_cons, hp, Bool.not_false, if_true, List.filter_nil]
   rw [hp] at hcj
   rw [e]
   have hset : (ins (keepL p (l.take j) ++ l.drop (keepL p (l.take j)).length)).set (keepL p (l.take j)).length (.int .i64 (l[j] : Int)) = ins ((keepL p (l.take j) ++ [l[j]]) ++ l.drop (keepL p (l.take j) ++ [l[j]]).length) := by
     rw [Z9N]
     congr 1
     rw [List.set_append_right _ _ (Nat.le_refl _), Nat.sub_self, List.append_assoc]
     congr 1
     rw [List.length_append, List.length_singleton, List.drop_eq_getElem_cons (by omega), List.set_cons_zero]
     rfl
   have hle2 : (keepL p (l.take j) ++ [l[j]]).length = (keepL p (l.take j)).length + 1 := by simp
   simp only [hle2]
   rw [hle2] at hset
   generalize keepL p (l.take j) = q at *
   generalize l[j] = k at *
   have g2 : (q.length : Int) < l.length := by omega
   simp (disch := omega) only [Z8, Zg, Bool.not_false, Zc, Za, Z2, Z1, Z3, Z0, Zd, Zi, Zm, stp, justO, just, Rd.bind, Rd.run, Rd.opt, upds, acells, tsz, rdCells, aLoad, aStore, opStore, Z5, aNum, aLen, Zh, aBin, aInt, putC, Nat.reduceAdd, Nat.reduceMul, Nat.reduceLT, Nat.reduceBEq, Nat.reduceEqDiff, Nat.reduceLeDiff, ↓reduceIte, reduceCtorEq, Zf, Nat.zero_add, List.nil_append, List.getElem?_toArray, Bool.not_false, decide_true, aUn, Z7, Zk, and_true, true_and, Int.natCast_nonneg, Int.toNat_natCast, aCall, snaps, List.append_nil, List.elem_cons, List.elem_nil, List.length_cons, List.length_nil, List.getElem?_cons_zero, Zp, seqN, bindN, regN, Zr, Z0n, Z0q, opCallV, List.cons_append, Nat.mul_one, List.not_mem_nil, beq_self_eq_true, Bool.false_eq_true, T_3, T_36, beq_self_eq_true, ZtL, Zl1, Zll, ZmN, ZmJ, ZlO, Ztx, Zt4, Zwd, Zu5, ZVQ, ZPp, ZH2, ZB7, ZQG, ZI4, ZCd, Z02Y, ZGO, ZAo, ZNg, ZOl, ZQM, Z04P, ZEU, ZPW, ZHF, ZTi, ZMm, ZAc, ZXh, Zyk, Zyx, ZwT, ZxT, Z01Q, ZYb, ZZs, ZWU, Z026, ZWt, ZVj, ZPr, ZDp, ZBw, ZTR, Z01m, ZuQ, g1, g2, hat2, hlen, hcj, hset, if_pos, Z1L (hm _ _), ZD (show j < 1000000 by omega), ZD (show q.length < 1000000 by omega), ZrX]
   exact ⟨_, rfl, rfl⟩
theorem ZxS {p : Nat → Bool} {l : List Nat} : keepL p (l.take (l.findIdx p)) = l.take (l.findIdx p) := by
 rw [keepL, List.filter_eq_self]
 intro a ha
 obtain ⟨i, hi, rfl⟩ := List.mem_iff_getElem.1 ha
 have h1 : i < l.findIdx p := by rw [List.length_take] at hi; omega
 have := List.not_of_lt_findIdx h1
 simpa using this
theorem ZV7 {p : Nat → Bool} {l : List Nat} (h : l.findIdx p < l.length) : keepL p (l.take (l.findIdx p + 1)) = l.take (l.findIdx p) := by
 rw [List.take_add_one, List.getElem?_eq_getElem h]
 have hp : p l[l.findIdx p] = true := List.findIdx_getElem
 simp only [keepL, Option.toList_some, List.filter_append, List.filter_cons, hp, Bool.not_true, Bool.false_eq_true, if_false, List.filter_nil, List.append_nil]
 exact ZxS
theorem Z0nZ {d : Nat} {ls : List Ld} {B : List Nat} {n : Nat} {e1 e2 : Bool} {s : Nat} {l : List Nat} (h : TrOk ls B n) (hl : ∀ i ∈ l, i < n) (hs : s < 64) (h6 : l.length ≤ 6) :
   bodyA E (callA E fg 1000 (d + 2)) fg 1000 140 [.ref 6 0 l.length l.length l.length 1 false, .clo 141 [.ptr 2 0 2, .ptr 3 0 1]] [(2, ⟨.box, trA ls B n e1 e2⟩), (3, ⟨.box, [.int .u64 (s : Int)]⟩), (6, ⟨.row, ins l⟩)] 72 =
     some (.ref 6 0 (keepL (fun i => B.getD i 0 &&& s != 0) l).length l.length l.length 1 false, [(2, ⟨.box, trA ls B n e1 e2⟩), (3, ⟨.box, [.int .u64 (s : Int)]⟩), (6, ⟨.row, ins (keepL (fun i => B.getD i 0 &&& s != 0) l ++ List.replicate (l.length - (keepL (fun i => B.getD i 0 &&& s != 0) l).length) 0)⟩)]) := by
 have hix := fun (site : Nat → Nat) seen => ZPs (site := site) (seen := seen) (Z0oO (d := d) (e1 := e1) (e2 := e2) h hl hs) (.inr ⟨false, rfl⟩) (by omega)
 have hc := fun (site : Nat → Nat) seen i hi => ZZY (d := d + 1) (site := site) (seen := seen) (e1 := e1) (e2 := e2) (i := i) (s := s) h (hl i hi) hs
 generalize hp : (fun i => B.getD i 0 &&& s != 0) = p at *
 have hc' : ∀ (site : Nat → Nat) seen i, i ∈ l → aBack site true seen (thaw (callA E fg 1000 (d + 2)) 141 [.int .i64 (i : Int), .iptr (trA ls B n e1 e2) 0, .iptr [.int .u64 (s : Int)] 0] [] 0) = .pure (.bool (p i), []) := by
   intro site seen i hi
   rw [← hp]
   exact hc site seen i hi
 clear hc
 generalize callA E fg 1000 (d + 2) = C at *
 have hin := Zu l
 have htk : List.take l.length (ins l) = ins l := ZgZ l
 by_cases hlt : l.findIdx p < l.length
 · have ht := ZV7 hlt
   have hkf := ZIi p l l.length
   rw [List.take_length] at hkf
   have lenf : (l.take (l.findIdx p)).length = l.findIdx p := by rw [List.length_take]; omega
   have hloop := Z2M (f := execA E C (fg 140) 72 42 [(2, ⟨.box, trA ls B n e1 e2⟩), (3, ⟨.box, [.int .u64 (s : Int)]⟩), (6, ⟨.row, ins l⟩)] 1000 Z9S) (hd := headA [(2, ⟨.box, trA ls B n e1 e2⟩), (3, ⟨.box, [.int .u64 (s : Int)]⟩), (6, ⟨.row, ins l⟩)])
     (dfS ls B n e1 e2 s l p) (l.length - (l.findIdx p + 1)) 1000 (l.findIdx p + 1) (dfS ls B n e1 e2 s l p (l.findIdx p + 1)) rfl (by omega) (fun j _ hj => Z0sA rfl hc' j (by omega) h6)
     (e := .exit 0) (se := ([(19, .bool false), (6, .int .i64 l.length), (5, .int .i64 (keepL p l).length), (1, .clo 141 [.ptr 2 0 2, .ptr 3 0 1]), (0, .ref 6 0 l.length l.length l.length 1 false)],
       [(2, ⟨.box, trA ls B n e1 e2⟩), (3, ⟨.box, [.int .u64 (s : Int)]⟩), (6, ⟨.row, ins (keepL p l ++ l.drop (keepL p l).length)⟩)]))
     (by
       have hlen : (ins (keepL p l ++ l.drop (keepL p l).length)).length = l.length := by
         rw [Zu, List.length_append, List.length_drop]; omega
       rw [show l.findIdx p + 1 + (l.length - (l.findIdx p + 1)) = l.length by omega]
       simp only [dfS, List.take_length]
       simp (disch := omega) only [ZR, Z8, Zc, Za, Z2, Z1, Z3, Z0, Zd, Zm, stp, just, Rd.bind, Rd.run, Rd.opt, upds, aLen, Zh, aBin, aInt, Nat.reduceBEq, Nat.reduceEqDiff, Nat.reduceLeDiff, ↓reduceIte, reduceCtorEq, Zf, List.getElem?_toArray, decide_false, Z7, List.elem_cons, List.elem_nil, List.getElem?_cons_zero, seqN, bindN, regN, beq_self_eq_true, Int.lt_irrefl, Bool.false_eq_true, T_36, beq_self_eq_true, ZtL, Zl1, Zll, ZmN, ZmJ, ZlO, Ztx, Zt4, Zwd, Zu5, ZuQ, hlen]) (by simp)
   simp only [dfS, ht, lenf, List.take_append_drop] at hloop
   have g1 : ¬ (l.findIdx p : Int) = -1 := by omega
   have g2 : ((keepL p l).length : Int) ≤ l.length := by omega
   have hlen : (ins (keepL p l ++ l.drop (keepL p l).length)).length = l.length := by
     rw [Zu, List.length_append, List.length_drop]; omega
   have hput : putC (ins (keepL p l ++ l.drop (keepL p l).length)) (keepL p l).length (repC [.int .i64 0] (l.length - (keepL p l).length)) = ins (keepL p l ++ List.replicate (l.length - (keepL p l).length) 0) := by
     rw [ZsX, ZsX, ZeY]
     have := ZNZ (ins (l.drop (keepL p l).length)) (ins (keepL p l)) (ins (List.replicate (l.length - (keepL p l).length) 0)) (by rw [Zu, Zu, List.length_replicate, List.length_drop])
     rw [Zu] at this
     exact this
   have hlen2 : (ins (keepL p l ++ List.replicate (l.length - (keepL p l).length) 0)).length = l.length := by
     rw [Zu, List.length_append, List.length_replicate]; omega
   generalize keepL p l = q at *
   generalize l.findIdx p = f at *
   simp (disch := omega) only [Z8, ZJ, ZF, Zc, Za, Z2, Z1, Z3, Z0, Zd, Zi, Zw, Zm, stp, just, Rd.bind, Rd.run, Rd.opt, upds, zeroCells, tsz, elemT, resA, resL, aNum, Zh, aBin, aInt, Nat.reduceAdd, Nat.reduceLT, Nat.reduceBEq, Nat.reduceEqDiff, Nat.reduceLeDiff, Int.reduceNeg, ↓reduceIte, reduceCtorEq, Zf, Nat.zero_add, Nat.add_zero, beq_iff_eq, List.nil_append, List.getElem?_toArray, Bool.and_true, Bool.and_self, decide_true, Z7, Zk, and_true, Int.natCast_nonneg, Int.toNat_natCast, aCall, snaps, List.append_nil, Option.map_some, List.elem_cons, List.elem_nil, List.length_cons, List.length_nil, List.getElem?_cons_zero, List.drop_zero, seqN, bindN, regN, Zr, Z0n, ZM, Z0q, Z2K, aSlice, aBounds, bMax, bHigh, bLow, List.all_cons, List.all_nil, AV.flat, List.cons_append, Nat.le_refl, Nat.sub_zero, Nat.mul_one, beq_self_eq_true, Bool.false_eq_true, T_3, T_36, List.all_cons, List.all_nil, beq_self_eq_true, Z0au, ZIa, ZIJ, Z0b7, ZJt, ZRF, ZDf, ZK3, ZBE, Z0by, ZGR, ZKn, ZL0, Z0bk, ZNL, ZIp, ZLL, Z02N, Z09c, Z030, Z0co, Z0ag, Z0i7, Z0eV, Z0ha, Z0eG, Z0gk, Z0jh, Z0lZ, Z0lJ, Z0lX, Z0br, Z0c0, Z09a, Z08T, Z0aK, Z0mS, Z091, Z088, Z0cc, Z099, Z0ak, Z0mL, Z0mf, Z0kF, Z0mD, Z0cx, Z0bo, Z08F, Z0hp, hin, htk, hix, g1, g2, hloop, hlen, hput, hlen2, if_pos, aClear, ZD (show f < 1000000 by omega), Nat.mul_one, Nat.add_sub_cancel' hkf, Int.toNat_natCast]
 · have e : l.findIdx p = l.length := by have := List.findIdx_le_length (xs := l) (p := p); omega
   have hk : keepL p l = l := by have := ZxS (p := p) (l := l); rwa [e, List.take_length] at this
   rw [hk, Nat.sub_self, List.replicate_zero, List.append_nil]
   rw [if_neg hlt] at hix
   simp (disch := omega) only [Z0o, Z8, ZF, Zc, Za, Z2, Z1, Z3, Z0, Zd, Zw, Zm, stp, just, Rd.bind, Rd.run, Rd.opt, upds, resA, resL, aBin, aInt, Nat.reduceAdd, Nat.reduceBEq, Nat.reduceEqDiff, Nat.reduceLeDiff, Int.reduceNeg, ↓reduceIte, reduceCtorEq, Zf, Nat.zero_add, List.nil_append, Bool.and_true, decide_true, Z7, aCall, snaps, List.append_nil, Option.map_some, List.elem_cons, List.elem_nil, List.length_cons, List.length_nil, List.drop_zero, seqN, bindN, regN, Zr, Z0n, ZM, Z0q, Z2K, List.cons_append, Nat.le_refl, Nat.mul_one, beq_self_eq_true, Bool.false_eq_true, beq_self_eq_true, Z0au, ZIa, ZIJ, Z0b7, ZJt, ZRF, ZDf, ZK3, ZBE, Z0by, ZGR, ZKn, ZL0, Z0bk, ZNL, ZIp, ZLL, Z02N, Z09c, Z030, Z0co, Z0ag, Z0cx, Z0bo, Z08F, Z0hp, hin, htk, hix]
abbrev lsL (B : List Nat) (s : Nat) : List Nat := lastsL (bit B) (lst s)
theorem Z06Y (B : List Nat) {s : Nat} (hs : s < 64) : keepL (fun i => B.getD i 0 &&& s != 0) (lst s) = lsL B s := by
 rw [lsL, Z07z B hs]
 simp only [keepL]
 apply List.filter_congr
 intro i _
 simp [bne]
def lsCells (B : List Nat) (s : Nat) : List AV := ins (lsL B s ++ List.replicate ((lst s).length - (lsL B s).length) 0)
theorem ZnO (B : List Nat) (s : Nat) : (lsL B s).length ≤ (lst s).length := List.length_filter_le ..
theorem Z8P (B : List Nat) (s : Nat) : (lsCells B s).length = (lst s).length := by
 have := ZnO B s
 rw [lsCells, Zu, List.length_append, List.length_replicate]; omega
theorem Z095 {d : Nat} {ls : List Ld} {B : List Nat} {n : Nat} {e1 e2 : Bool} {s : Nat} (h : TrOk ls B n) (hs : s < 2 ^ n) (h0 : s ≠ 0) :
   ∃ H', bodyA E (callA E fg 1000 (d + 4)) fg 1000 128 [.agg (trA ls B n e1 e2), .int .u64 (s : Int)] [] 0 = some (.ref 6 0 (lsL B s).length (lst s).length (lst s).length 1 false, H') ∧ hget H' 6 = some ⟨.row, lsCells B s⟩ := by
 have h64 := lt64 h.le hs
 have hr := fun (site : Nat → Nat) seen => Zm4 (d := d) (site := site) (seen := seen) h64 h0
 have hdf : callA E fg 1000 (d + 4) 140 _ _ 72 = _ := Z0nZ (d := d + 1) (e1 := e1) (e2 := e2) (l := lst s) h (Z5P h.le hs) h64 (Z4V s)
 rw [Z06Y B h64] at hdf
 have hm : ∀ args caps, mutV E (.clo 140 caps) args = some (140, args ++ caps) := fun _ _ => rfl
 have hin := Zu (lst s)
 refine ⟨[(2, ⟨.box, trA ls B n e1 e2⟩), (3, ⟨.box, [.int .u64 (s : Int)]⟩), (6, ⟨.row, lsCells B s⟩)], ?_, rfl⟩
 unfold lsCells
 generalize callA E fg 1000 (d + 4) = C at *
 simp (disch := omega) only [ZF, Zc, Za, Z2, Z1, Z3, Z0, Zl, Zd, Zx, Zi, Zw, Zm, stp, opBox, just, Rd.bind, Rd.run, Rd.opt, upds, acells, rdCells, aLoad, resA, resL, fresh, Nat.reduceAdd, Nat.reduceMul, Nat.reduceBEq, Nat.reduceEqDiff, Nat.reduceLeDiff, ↓reduceIte, reduceCtorEq, Zf, Nat.zero_add, List.nil_append, Z7, mutX, aCall, snaps, List.append_nil, Option.map_some, List.elem_cons, List.elem_nil, List.length_cons, List.length_nil, List.getElem?_cons_zero, Zp, seqN, bindN, regN, Zr, Z1o, Nat.zero_mul, beq_self_eq_true, Bool.false_eq_true, Z18, beq_self_eq_true, Z0pD, Z0gt, Z0fb, Z0gL, Z0f9, Z0oY, Z0fH, Z0e5, Z0gl, Z0cY, Z0eO, Z0gU, Z0qe, Z0oq, Z0o6, Z0t7, hr, hdf]
theorem ZoD {d : Nat} {site : Nat → Nat} {seen : List Nat} {ls : List Ld} {B : List Nat} {n : Nat} {e1 e2 : Bool} {s : Nat} (h : TrOk ls B n) (hs : s < 2 ^ n) (h0 : s ≠ 0) :
   aBack site true seen (thaw (callA E fg 1000 (d + 5)) 128 [.agg (trA ls B n e1 e2), .int .u64 (s : Int)] [] 0) = Z15 (site 0) seen (fun k => .ref k 0 (lsL B s).length (lst s).length (lst s).length 1 false) ⟨.row, lsCells B s⟩ := by
 obtain ⟨H', h1, h2⟩ := Z095 (d := d) (e1 := e1) (e2 := e2) h hs h0
 exact Z06v h1 h2 (Z8P B s)
end Go.AM.YtgfnbmfjbjopkaaDoor
end
noncomputable section
namespace Go.AM
theorem Z07X : ∀ (H : AHeap) (i : Nat) (b : Blk), hget (hset H i b) i = some b
 | [], i, b => by rw [ZgT, Z6e, Nat.beq_refl]; rfl
 | (k, c) :: t, i, b => by
   rw [Z4h]
   cases h : Nat.beq k i with
   | true => simp only [cond_true]; rw [Z6e, Nat.beq_refl]; rfl
   | false =>
     simp only [cond_false]
     cases h2 : Nat.ble k i with
     | true => simp only [cond_true]; rw [Z6e, h]; exact Z07X t i b
     | false => simp only [cond_false]; rw [Z6e, Nat.beq_refl]; rfl
theorem Z0hC : ∀ (H : AHeap) (i : Nat) (b c : Blk), hset (hset H i b) i c = hset H i c
 | [], i, b, c => by rw [ZgT, Z4h, Nat.beq_refl]; rfl
 | (k, d) :: t, i, b, c => by
   rw [Z4h, Z4h k]
   cases h : Nat.beq k i with
   | true => simp only [cond_true]; rw [Z4h, Nat.beq_refl]; rfl
   | false =>
     simp only [cond_false]
     cases h2 : Nat.ble k i with
     | true => simp only [cond_true]; rw [Z4h, h, h2]; simp only [cond_false, cond_true]; rw [Z0hC t i b c]
     | false => simp only [cond_false]; rw [Z4h, Nat.beq_refl]; rfl
theorem Z0a2 : ∀ {H : AHeap} {i : Nat} {b : Blk} {p : Nat × Blk}, p ∈ hset H i b → p.1 = i ∨ p ∈ H
 | [], i, b, p, h => by rw [ZgT] at h; simp at h; exact .inl (by rw [h])
 | (k, c) :: t, i, b, p, h => by
   rw [Z4h] at h
   cases h1 : Nat.beq k i with
   | true =>
     rw [h1] at h
     rcases List.mem_cons.1 h with e | h
     · exact .inl (by rw [e])
     · exact .inr (by simp [h])
   | false =>
     rw [h1] at h
     cases h2 : Nat.ble k i with
     | true =>
       rw [h2] at h
       rcases List.mem_cons.1 h with e | h
       · exact .inr (by simp [e])
       · rcases Z0a2 h with h | h
         · exact .inl h
         · exact .inr (by simp [h])
     | false =>
       rw [h2] at h
       rcases List.mem_cons.1 h with e | h
       · exact .inl (by rw [e])
       · exact .inr h
theorem ZEy : ∀ {H : AHeap} {k : Nat} {b : Blk}, (k, b) ∈ H → (hget H k).isSome = true
 | (j, c) :: t, k, b, h => by
   rw [Z6e]
   cases hj : Nat.beq j k with
   | true => rfl
   | false =>
     rcases List.mem_cons.1 h with e | h
     · injection e with e1 e2; subst e1; rw [Nat.beq_refl] at hj; exact absurd hj (by simp)
     · exact ZEy h
theorem Zyv (E0 : AHeap) (keep : List Nat) : ∀ {H : AHeap}, (∀ p ∈ H, (hget E0 p.1).isSome = true) → keepB E0 keep H = H
 | [], _ => rfl
 | (i, b) :: t, h => by
   have := h (i, b) (by simp)
   simp only [keepB, this, Bool.or_true, cond_true, Zyv E0 keep (H := t) fun p hp => h p (by simp [hp])]
theorem Z07O {E0 : AHeap} (φ : AFr) {H : AHeap} (h : ∀ p ∈ H, (hget E0 p.1).isSome = true) : headA E0 (φ, H) = (φ, H) := by
 simp only [headA, Zyv E0 _ h, gcIf]
 split <;> rfl
theorem Zy0 {E0 : AHeap} (φ : AFr) {k : Nat} {b : Blk} (hk : (hget E0 k).isSome = true) : headA E0 (φ, hset E0 k b) = (φ, hset E0 k b) := by
 apply Z07O
 intro p hp
 rcases Z0a2 hp with h | h
 · rw [h]; exact hk
 · exact ZEy (b := p.2) h
theorem loopE {E0 : AHeap} {f : St → XR} (st : Nat → St) (n : Nat) (h : ∀ i, i < n → ∃ s', f (st i) = some (.normal, s') ∧ headA E0 s' = st (i + 1)) (h0 : headA E0 (st 0) = st 0) (hn : n < 1000) {e : Ex} {se : St} (he : f (st n) = some (e, se)) (hne : e ≠ .normal) :
   iterA f (headA E0) 1000 (st 0) = some (e, se) :=
 Z2M st n 1000 0 (st 0) h0 hn (fun i _ hi => h i (by omega)) (by rw [Nat.zero_add]; exact he) hne
end Go.AM
end
noncomputable section
namespace Go.AM.YtgfnbmfjbjopkaaDoor
open Go Go.AM Go.AM.Mule
def sw (l : List Nat) : Nat → List Nat
 | 0 => l
 | i + 1 => ((sw l i).set i ((sw l i).getD (l.length - 1 - i) 0)).set (l.length - 1 - i) ((sw l i).getD i 0)
theorem Zgo (l : List Nat) : ∀ i, (sw l i).length = l.length
 | 0 => rfl
 | i + 1 => by simp [sw, Zgo l i]
theorem Zx7 (l : List Nat) (i j x : Nat) (h : i < l.length) : (l.set i x).getD j 0 = if i = j then x else l.getD j 0 := Z3u l i j x h
theorem Z09E (l : List Nat) : ∀ i, 2 * i ≤ l.length → ∀ j, j < l.length → (sw l i).getD j 0 = if j < i ∨ l.length - i ≤ j then l.getD (l.length - 1 - j) 0 else l.getD j 0
 | 0, _, j, hj => by simp only [sw]; rw [if_neg (by omega)]
 | i + 1, hi, j, hj => by
   have hl := Zgo l i
   have ih := Z09E l i (by omega)
   have h1 := ih i (by omega)
   have h2 := ih (l.length - 1 - i) (by omega)
   have h3 := ih j hj
   rw [if_neg (by omega)] at h1 h2
   simp only [sw]
   rw [Zx7 _ _ _ _ (by rw [List.length_set]; omega), Zx7 _ _ _ _ (by omega), h1, h2, h3]
   by_cases e1 : l.length - 1 - i = j
   · rw [if_pos e1, if_pos (by omega)]; congr 1; omega
   · rw [if_neg e1]
     by_cases e2 : i = j
     · subst e2; rw [if_pos rfl, if_pos (by omega)]
     · rw [if_neg e2]
       by_cases e3 : j < i ∨ l.length - i ≤ j
       · rw [if_pos e3, if_pos (by omega)]
       · rw [if_neg e3, if_neg (by omega)]
theorem Z0o5 (l : List Nat) : sw l (l.length / 2) = l.reverse := by
 apply List.ext_getElem?
 intro j
 by_cases hj : j < l.length
 · have hs : j < (sw l (l.length / 2)).length := by rw [Zgo]; exact hj
   have := Z09E l (l.length / 2) (by omega) j hj
   rw [List.getElem?_eq_getElem hs, List.getElem?_eq_getElem (by simpa using hj)]
   congr 1
   have e1 : (sw l (l.length / 2)).getD j 0 = (sw l (l.length / 2))[j] := by simp [hs]
   rw [← e1, this]
   rw [List.getElem_reverse]
   split
   · simp [show l.length - 1 - j < l.length by omega]
   · rename_i h
     have : l.length - 1 - j = j := by omega
     simp only [this]
     simp [hj]
 · rw [List.getElem?_eq_none (by rw [Zgo]; omega), List.getElem?_eq_none (by simpa using hj)]
abbrev rvS (H : AHeap) (k c : Nat) (l : List Nat) (z : List AV) (i : Nat) : St := ([(3, .int .i64 ((l.length : Int) - 1 - i)), (2, .int .i64 i), (0, .ref k 0 l.length c c 1 false)], hset H k ⟨.row, ins (sw l i) ++ z⟩)
theorem Z0rO {C : Callee} {B : Nat} {H : AHeap} {k c : Nat} {l : List Nat} {z : List AV} (hk : (hget H k).isSome = true) (ha : ascH 0 H = true) (hc : l.length + z.length = c) (h6 : l.length < 900) (i : Nat) (hi : i < l.length / 2) :
   ∃ s', execA E C (fg 129) B 28 H 1000 ZbX (rvS H k c l z i) = some (.normal, s') ∧ headA H s' = rvS H k c l z (i + 1) := by
 have has : ∀ b, ascH 0 (hset H k b) = true := fun b => ZI0 ha (Nat.zero_le _)
 have hl := Zgo l i
 have hlen : (ins (sw l i) ++ z).length = c := by rw [List.length_append, Zu, hl, hc]
 have hlen2 : ∀ x y : Nat, (ins ((sw l i).set x y) ++ z).length = c := fun x y => by rw [List.length_append, Zu, List.length_set, hl, hc]
 have a1 : (ins (sw l i) ++ z)[i]? = some (.int .i64 ((sw l i).getD i 0 : Nat)) := by
   rw [List.getElem?_append_left (by rw [Zu, hl]; omega)]; exact Z10 (Z51 hl (by omega))
 have a2 : (ins (sw l i) ++ z)[l.length - 1 - i]? = some (.int .i64 ((sw l i).getD (l.length - 1 - i) 0 : Nat)) := by
   rw [List.getElem?_append_left (by rw [Zu, hl]; omega)]; exact Z10 (Z51 hl (by omega))
 have b1 : ∀ (m : List Nat) (j x : Nat), m.length = l.length → j < l.length → (ins m ++ z).set j (.int .i64 (x : Int)) = ins (m.set j x) ++ z := by
   intro m j x hm hj
   rw [List.set_append_left _ _ (by rw [Zu]; omega), Z9N]
 have e : sw l (i + 1) = ((sw l i).set i ((sw l i).getD (l.length - 1 - i) 0)).set (l.length - 1 - i) ((sw l i).getD i 0) := rfl
 have b2 := b1 (sw l i) i ((sw l i).getD (l.length - 1 - i) 0) hl (by omega)
 have b3 := b1 ((sw l i).set i ((sw l i).getD (l.length - 1 - i) 0)) (l.length - 1 - i) ((sw l i).getD i 0) (by simp [hl]) (by omega)
 have hl3 := hlen2 i ((sw l i).getD (l.length - 1 - i) 0)
 have ej : ((l.length : Int) - 1 - i).toNat = l.length - 1 - i := by omega
 have g1 : (i : Int) < (l.length : Int) - 1 - i := by omega
 have g2 : (l.length : Int) - 1 - i < l.length := by omega
 have g3 : 0 ≤ (l.length : Int) - 1 - i := by omega
 have g4 : (i : Int) < l.length := by omega
 have w : wrp .i64 ((l.length : Int) - 1 - i - 1) = (l.length : Int) - 1 - (i + 1 : Nat) := by rw [Z0i (by omega)]; omega
 simp only [rvS, e]
 generalize (sw l i).getD i 0 = x at *
 generalize (sw l i).getD (l.length - 1 - i) 0 = y at *
 generalize sw l i = m at *
 simp (disch := omega) only [Z8, Zg, Bool.not_true, Bool.not_false, Zc, Za, Z2, Z1, Z3, Z0, Zm, stp, just, Rd.bind, Rd.run, Rd.opt, upds, acells, tsz, rdCells, aLoad, aStore, opStore, Z5, aNum, aBin, aInt, putC, Nat.reduceAdd, Nat.reduceLT, Nat.reduceBEq, Nat.reduceEqDiff, Nat.reduceLeDiff, ↓reduceIte, reduceCtorEq, Zf, Nat.zero_add, List.nil_append, ZE, ZH, ZO, ZP, Zz, ZL, Zt, Zn, stpT, Rd.foot, writing, Zq, Tr.empty, Zs, apartT, disj, List.isEmpty_nil, List.isEmpty_cons, List.map_nil, List.map_cons, Bool.not_false, Bool.not_true, Bool.true_or, Bool.or_true, Bool.or_false, Bool.and_true, Bool.true_and, Bool.and_self, decide_true, Z7, Zk, and_true, true_and, Int.natCast_nonneg, Int.toNat_natCast, snaps, List.append_nil, List.elem_cons, List.elem_nil, List.length_cons, List.length_nil, Zp, seqN, bindN, regN, Zr, List.all_cons, List.all_nil, Nat.le_refl, Nat.mul_one, List.not_mem_nil, beq_self_eq_true, Bool.false_eq_true, T_3, T_36, List.all_cons, List.all_nil, List.getD_cons_zero, List.getD_cons_succ, beq_self_eq_true, Z094, ZS5, ZBt, ZG4, ZIv, Z08D, Z09W, Z0bq, Z09F, Z0hW, Z0dm, Z09P, Z08p, Z0g3, Z0ev, Z0gm, Z0df, Z0f6, Z0dD, Z0es, Z0gn, Z0e6, Z0gy, Z08E, Z0aw, Z09k, Z081, Z09J, Z0ab, Z0ix, Z0hY, Z0d3, Z0gJ, Z0fE, Z0h9, Z0gN, Z0fX, Z0fy, Z0iC, Z0bx, Z07X, Z0hC, has, hlen, hl3, a1, a2, b2, b3, ej, g1, g2, g3, g4, w, if_pos, ZD (show i < 1000000 by omega)]
 exact ⟨_, rfl, Zy0 _ hk⟩
theorem Z052 {C : Callee} {B : Nat} {H : AHeap} {k c : Nat} {l : List Nat} {z : List AV} (hH : hset H k ⟨.row, ins l ++ z⟩ = H) (hk : (hget H k).isSome = true) (ha : ascH 0 H = true) (hc : l.length + z.length = c) (h6 : l.length < 900) :
   bodyA E C fg 1000 129 [.ref k 0 l.length c c 1 false] H B = some (.tup [], hset H k ⟨.row, ins l.reverse ++ z⟩) := by
 have hloop := loopE (E0 := H) (f := execA E C (fg 129) B 28 H 1000 ZbX) (rvS H k c l z) (l.length / 2) (fun i hi => Z0rO hk ha hc h6 i hi) (Zy0 _ hk) (by omega)
   (e := .exit 0) (se := ([(9, .bool false), (3, .int .i64 ((l.length : Int) - 1 - (l.length / 2 : Nat))), (2, .int .i64 (l.length / 2 : Nat)), (0, .ref k 0 l.length c c 1 false)], hset H k ⟨.row, ins l.reverse ++ z⟩))
   (by
     have g1 : ¬ ((l.length / 2 : Nat) : Int) < (l.length : Int) - 1 - (l.length / 2 : Nat) := by omega
     simp (disch := omega) only [ZR, Z8, Zc, Za, Z2, Z1, Z3, Z0, Zm, stp, just, Rd.bind, Rd.run, Rd.opt, upds, aBin, aInt, Nat.reduceBEq, Nat.reduceEqDiff, Nat.reduceLeDiff, ↓reduceIte, decide_false, Z7, List.elem_cons, List.elem_nil, seqN, bindN, regN, beq_self_eq_true, Bool.false_eq_true, beq_self_eq_true, Z094, ZS5, ZBt, ZG4, ZIv, Z08D, Z09W, Z0bq, Z09F, Z0bx, rvS, Z0o5, g1]) (by simp)
 have hlen : (ins l ++ z).length = c := by rw [List.length_append, Zu, hc]
 have w : wrp .i64 ((l.length : Int) - 1) = (l.length : Int) - 1 - (0 : Nat) := by rw [Z0i (by omega)]; omega
 have hg : hget H k = some ⟨.row, ins l ++ z⟩ := by rw [← hH]; exact Z07X _ _ _
 simp only [rvS, sw, cl0, hH] at hloop
 simp only [cl0] at w
 simp (disch := omega) only [ZJ, ZUM, Zc, Za, Z2, Z1, Z3, Z0, Zw, Zm, stp, just, Rd.bind, Rd.run, Rd.opt, upds, resA, resL, aLen, Zh, aBin, aInt, Nat.reduceBEq, Nat.reduceEqDiff, Nat.reduceLeDiff, ↓reduceIte, reduceCtorEq, Zf, List.getElem?_toArray, Z7, Option.map_some, List.elem_cons, List.elem_nil, List.getElem?_cons_zero, seqN, bindN, regN, beq_self_eq_true, Bool.false_eq_true, T_36, beq_self_eq_true, Z0qu, Z0gq, Z0fz, Z0et, Z0dk, Z0eU, Z0fp, Z0qC, Z0pP, Z0qL, Z0sB, hg, hlen, w, hloop]
end Go.AM.YtgfnbmfjbjopkaaDoor
end
noncomputable section
namespace Go.AM.YtgfnbmfjbjopkaaDoor
open Go Go.AM Go.AM.Mule
structure Cmp (C : Callee) (f : AV) (l : List Nat) (F : Nat → Int) : Prop where
 mt : ∀ args, mutV E f args = none
 call : ∀ (site : Nat → Nat) i k, i ∈ l → k ∈ l → opCallV E C site true f [.int .i64 (i : Int), .int .i64 (k : Int)] = .pure (.int .i64 (F i - F k), [])
 refs : refsOf f = []
def mnF (F : Nat → Int) (x : Nat) (l : List Nat) : Nat := l.foldl (fun m k => if F k < F m then k else m) x
theorem ZXX (F : Nat → Int) : ∀ (l : List Nat) (x : Nat), mnF F x l ∈ x :: l
 | [], x => by simp [mnF]
 | k :: l, x => by
   show mnF F (if F k < F x then k else x) l ∈ _
   have := ZXX F l (if F k < F x then k else x)
   simp only [List.mem_cons] at this ⊢
   rcases this with e | h
   · by_cases hlt : F k < F x
     · rw [if_pos hlt] at e ⊢; exact .inr (.inl e)
     · rw [if_neg hlt] at e ⊢; exact .inl e
   · exact .inr (.inr h)
theorem ZGr (F : Nat → Int) (x : Nat) (l : List Nat) (k : Nat) : mnF F x (l ++ [k]) = if F k < F (mnF F x l) then k else mnF F x l := by rw [mnF, List.foldl_append]; rfl
abbrev mfS (l : List Nat) (ex : Bool) (f : AV) (x : Nat) (F : Nat → Int) (i : Nat) : St := ([(6, .int .i64 (i + 1 : Nat)), (5, .int .i64 (mnF F x ((l.drop 1).take i))), (1, f), (0, .imm (ins l) l.length ex)], [])
theorem Z0iw (l : List Nat) (ex : Bool) (f : AV) (x : Nat) (F : Nat → Int) (i : Nat) (φ : AFr) (H : AHeap) (hr : refsOf f = []) (h : φ = (mfS l ex f x F i).1) : headA [] (φ, H) = mfS l ex f x F i := by
 subst h
 rw [Z60]
 simp only [refsF, refsOf, hr, List.append_nil]
theorem Z0qD {C : Callee} {f : AV} {x : Nat} {l : List Nat} {F : Nat → Int} {ex : Bool} (h : Cmp C f (x :: l) F) (hl : l.length < 900) :
   rsOf (bodyA E C fg 1000 130 [.imm (ins (x :: l)) (x :: l).length ex, f] [] 0) = some (.int .i64 (mnF F x l)) := by
 obtain ⟨hm, hc, hr⟩ := h
 have hin := Zu (x :: l)
 have hlen : (x :: l).length = l.length + 1 := rfl
 have hn0 : ¬ ((x :: l).length : Int) < 1 := by omega
 have h0 := Z10 (l := x :: l) (k := 0) (i := x) rfl
 generalize hL : x :: l = L at *
 have hd : L.drop 1 = l := by rw [← hL]; rfl
 have hloop := loopN (f := (execA E C (fg 130) 0 33 [] 1000 ZcK)) (mfS L ex f x F) l.length (fun i hi => by
     have hk : L[i + 1]? = some l[i] := by rw [← hL]; simp [hi]
     have hmem : l[i] ∈ L := by rw [← hL]; exact List.mem_cons_of_mem _ (List.getElem_mem hi)
     have hmm : mnF F x (l.take i) ∈ L := by
       have := ZXX F (l.take i) x
       rw [← hL]
       rcases List.mem_cons.1 this with e | hh
       · rw [e]; simp
       · exact List.mem_cons_of_mem _ (List.mem_of_mem_take hh)
     have hcall := fun site => hc site l[i] (mnF F x (l.take i)) hmem hmm
     have hn : mnF F x (l.take (i + 1)) = if F l[i] < F (mnF F x (l.take i)) then l[i] else mnF F x (l.take i) := by
       rw [List.take_add_one, List.getElem?_eq_getElem hi, Option.toList_some, ZGr]
     have g1 : ((i + 1 : Nat) : Int) < L.length := by omega
     have hat := Z10 hk
     simp only [mfS, hd, hn]
     generalize mnF F x (l.take i) = m at *
     generalize l[i] = k at *
     by_cases hlt : F k < F m
     · have g2 : F k - F m < 0 := by omega
       rw [if_pos hlt]
       simp (disch := omega) only [Z8, Zg, Zc, Za, Z2, Z1, Z3, Z0, Zm, stp, just, Rd.bind, Rd.run, Rd.opt, upds, tsz, rdCells, aLoad, Z5, aNum, aLen, Zh, aBin, aInt, Nat.reduceMul, Nat.reduceLT, Nat.reduceBEq, Nat.reduceEqDiff, Nat.reduceLeDiff, ↓reduceIte, reduceCtorEq, Nat.zero_add, List.getElem?_toArray, decide_true, Z7, and_true, Int.natCast_nonneg, Int.toNat_natCast, List.elem_cons, List.elem_nil, List.getElem?_cons_zero, seqN, bindN, regN, Nat.mul_one, beq_self_eq_true, Bool.false_eq_true, T_3, T_36, beq_self_eq_true, ZuT, Zln, Zn6, ZkH, Zlc, Zkg, ZvX, Zvp, ZtP, ZvY, ZZu, ZB6, ZHP, ZTZ, ZIr, ZSr, ZGJ, ZCp, ZSc, ZKF, Z02H, ZDX, ZT5, ZP8, ZTW, ZA8, ZCL, Z05r, Z00j, Z03t, Z008, ZWc, ZPZ, ZTa, ZQ2, ZF8, ZXg, Zv1, g1, g2, hat, hin, Z1L (hm _), hcall, ZD (show i + 1 < 1000000 by omega)]
       exact ⟨_, rfl, by rw [Z60]; simp only [refsF, refsOf, hr, List.append_nil]⟩
     · have g2 : ¬ F k - F m < 0 := by omega
       rw [if_neg hlt]
       simp (disch := omega) only [Z8, Zg, Zc, Za, Z2, Z1, Z3, Z0, Zm, stp, just, Rd.bind, Rd.run, Rd.opt, upds, tsz, rdCells, aLoad, Z5, aNum, aLen, Zh, aBin, aInt, Nat.reduceMul, Nat.reduceLT, Nat.reduceBEq, Nat.reduceEqDiff, Nat.reduceLeDiff, ↓reduceIte, reduceCtorEq, Nat.zero_add, List.getElem?_toArray, decide_true, decide_false, Z7, and_true, Int.natCast_nonneg, Int.toNat_natCast, List.elem_cons, List.elem_nil, List.getElem?_cons_zero, seqN, bindN, regN, Nat.mul_one, beq_self_eq_true, Bool.false_eq_true, T_3, T_36, beq_self_eq_true, ZuT, Zln, Zn6, ZkH, Zlc, Zkg, ZvX, Zvp, ZtP, ZvY, ZZu, ZB6, ZHP, ZTZ, ZIr, ZSr, ZGJ, ZCp, ZSc, ZKF, Z02H, ZDX, ZT5, ZP8, ZTW, ZA8, ZCL, Z05r, Z00j, Z03t, Z008, ZWc, ZPZ, ZTa, ZQ2, ZF8, ZXg, Zv1, g1, g2, hat, hin, Z1L (hm _), hcall, ZD (show i + 1 < 1000000 by omega)]
       exact ⟨_, rfl, by rw [Z60]; simp only [refsF, refsOf, hr, List.append_nil]⟩) (Z0iw _ _ _ _ _ _ _ _ hr rfl) (by omega)
   (e := .exit 0) (se := ([(17, .bool false), (6, .int .i64 L.length), (5, .int .i64 (mnF F x l)), (1, f), (0, .imm (ins L) L.length ex)], []))
   (by
     have e : ((l.length + 1 : Nat) : Int) = L.length := by omega
     simp only [mfS, hd, List.take_length, e]
     simp (disch := omega) only [ZR, Z8, Zc, Za, Z2, Z1, Z3, Z0, Zm, stp, just, Rd.bind, Rd.run, Rd.opt, upds, aLen, Zh, aBin, aInt, Nat.reduceBEq, Nat.reduceEqDiff, Nat.reduceLeDiff, ↓reduceIte, reduceCtorEq, List.getElem?_toArray, decide_false, Z7, List.elem_cons, List.elem_nil, List.getElem?_cons_zero, seqN, bindN, regN, beq_self_eq_true, Int.lt_irrefl, Bool.false_eq_true, T_36, ZuT, Zln, Zn6, ZkH, Zlc, Zkg, ZvX, Zvp, ZtP, ZvY, Zv1]) (by simp)
 have z : mnF F x (List.take 0 l) = x := rfl
 simp only [mfS, hd, z, Nat.zero_add, cl1] at hloop
 simp (disch := omega) only [Z8, ZJ, ZF, Zc, Za, Z2, Z0G, Z1, Z3, Z0, Zw, Zo, Zm, stp, just, Rd.bind, Rd.run, Rd.opt, upds, tsz, rdCells, aLoad, resA, resL, Z5, aNum, aLen, Zh, aBin, aInt, Nat.reduceLT, Nat.reduceBEq, Nat.reduceEqDiff, Nat.reduceLeDiff, ↓reduceIte, reduceCtorEq, Nat.zero_add, List.getElem?_toArray, decide_false, Z7, and_true, true_and, Option.map_some, List.elem_cons, List.elem_nil, List.getElem?_cons_zero, seqN, bindN, regN, Int.reduceLE, Int.reduceToNat, Nat.mul_one, beq_self_eq_true, Bool.false_eq_true, T_3, T_36, Z0pL, Z0gF, Z0h1, Z0p1, Z0e1, Z0f1, Z0eC, Z0dg, Z0oo, Z0p2, Z0qt, Z0qn, Z0g4, Z0gp, Z0gQ, Z0dN, Z0cZ, Z0iU, Z0dS, Z0eE, Z0i8, Z0mA, Z0ie, Z0n4, Z0dZ, Z0dR, Z0e2, Z0kK, Z0mU, Z0jd, Z0oZ, Z0qy, Z0ot, Z0sO, hin, h0, hn0, hloop, if_pos]
theorem Z0n6 {d : Nat} {f : AV} {x : Nat} {l : List Nat} {F : Nat → Int} {ex : Bool} {site : Nat → Nat} {seen : List Nat} (h : Cmp (callA E fg 1000 d) f (x :: l) F) (hl : l.length < 900) :
   aBack site true seen (thaw (callA E fg 1000 (d + 1)) 130 [.imm (ins (x :: l)) (x :: l).length ex, f] [] 0) = .pure (.int .i64 (mnF F x l), []) :=
 Z1k (Z1j (Z0qD h hl))
theorem Z04I (F : Nat → Int) : ∀ (l : List Nat) (x : Nat) (r : List Nat), (l ++ [x]).reverse = x :: r → mnF F x r = pick F (l ++ [x])
 | [], x, r, h => by simp at h; subst h; rfl
 | i :: l, x, r, h => by
   have hr : (l ++ [x]).reverse = x :: l.reverse := by simp
   have e : r = l.reverse ++ [i] := by simp at h; exact h.symm
   subst e
   rw [ZGr, Z04I F l x l.reverse hr]
   cases hl : l ++ [x] with
   | nil => simp at hl
   | cons j t => rw [List.cons_append, hl]; rfl
theorem Z0gE (F : Nat → Int) {l : List Nat} (h : l ≠ []) : ∃ x r, l.reverse = x :: r ∧ mnF F x r = pick F l := by
 obtain ⟨l', x, rfl⟩ : ∃ l' x, l = l' ++ [x] := ⟨l.dropLast, l.getLast h, (List.dropLast_concat_getLast h).symm⟩
 exact ⟨x, l'.reverse, by simp, Z04I F l' x l'.reverse (by simp)⟩
end Go.AM.YtgfnbmfjbjopkaaDoor
end
end
