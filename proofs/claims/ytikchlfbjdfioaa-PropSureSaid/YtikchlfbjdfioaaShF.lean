/- PropShown: the plain law. Own work of this project. -/
import Derived.Test.YtikchlfbjdfioaaShC
namespace Go.AM.Ytikchlfbjdfioaa
open Go Go.AM
set_option maxRecDepth 100000
set_option maxHeartbeats 4000000

theorem weighL_01 : ∀ (l : List Stone) (ws : List Int), weighL l ws = 0 ∨ weighL l ws = 1
  | [], _ => .inl (by unfold weighL; rfl)
  | _ :: _, [] => .inl (by unfold weighL; rfl)
  | s :: l, w :: ws => by
    simp only [weighL]
    split
    · exact .inr rfl
    · split
      · exact .inr rfl
      · exact weighL_01 l ws
theorem weighL_zero : ∀ {l : List Stone} {ws : List Int}, (∀ (i : Nat) (s : Stone) (w : Int), l[i]? = some s → ws[i]? = some w → s.least ≤ w ∧ w ≤ s.most) → weighL l ws = 0
  | [], _, _ => by unfold weighL; rfl
  | _ :: _, [], _ => by unfold weighL; rfl
  | s :: l, w :: ws, h => by
    have h0 := h 0 s w rfl rfl
    simp only [weighL]
    rw [if_neg (by omega), if_neg (by omega)]
    exact weighL_zero fun i s w h1 h2 => h (i + 1) s w (by simpa using h1) (by simpa using h2)
theorem wantN_01 (l : List Stone) (bs : List Int) : ∀ i, wantN l bs i = 0 ∨ wantN l bs i = 1
  | 0 => .inl rfl
  | i + 1 => by
    have := wantN_01 l bs i
    simp only [wantN]
    repeat' split
    all_goals first | exact .inr rfl | exact .inl rfl | exact this
theorem wantN_zero (l : List Stone) (bs : List Int) : ∀ i, wantN l bs i = 0 ↔ ∀ j, j < i → (l.getD j default).least ≤ xN l bs j ∧ xN l bs j ≤ (l.getD j default).most
  | 0 => by simp [wantN]
  | i + 1 => by
    have ih := wantN_zero l bs i
    simp only [wantN]
    constructor
    · intro h j hj
      by_cases h0 : wantN l bs i = 0
      · rw [if_pos h0] at h
        by_cases hji : j = i
        · subst hji
          split at h
          · simp at h
          · split at h
            · simp at h
            · omega
        · exact ih.1 h0 j (by omega)
      · rw [if_neg h0] at h; exact absurd h h0
    · intro h
      rw [if_pos (ih.2 fun j hj => h j (by omega))]
      have := h i (by omega)
      rw [if_neg (by omega), if_neg (by omega)]
theorem wsI_at {l : List Stone} {bs : List Int} {n i : Nat} (h : i < n) : (wsI l bs n)[i]? = some (xN l bs i) := by
  simp [wsI, h]
theorem want_weigh {l : List Stone} {bs : List Int} : weighE l (wsI l bs l.length) = wantN l bs l.length := by
  unfold weighE
  rw [if_pos (by rw [wsI_length])]
  by_cases h : wantN l bs l.length = 0
  · rw [h]
    refine weighL_zero fun i s w h1 h2 => ?_
    have hi := at_lt h1
    rw [wsI_at hi] at h2
    obtain rfl := Option.some.inj h2
    have := (wantN_zero l bs l.length).1 h i hi
    simpa [h1] using this
  · have h1 := wantN_01 l bs l.length
    have h2 := weighL_01 l (wsI l bs l.length)
    have h3 : wantN l bs l.length = 1 := by omega
    rcases h2 with h2 | h2
    · exfalso
      refine h ((wantN_zero l bs l.length).2 fun j hj => ?_)
      obtain ⟨s, hs⟩ := at_ex hj
      have := weigh_at h2 hs (wsI_at hj)
      simpa [hs] using this
    · omega
theorem want_long {l : List Stone} {bs : List Int} : weighE l (wsI l bs l.length ++ [1]) = 5 := by
  unfold weighE
  rw [if_neg]
  simp [wsI_length]
  omega

/-! Sums of moments -/
theorem sumF_add (F G K : Nat → Int) (k : Nat) : ∀ m, (∀ i, k ≤ i → i < k + m → F i + G i = K i) → sumF F k m + sumF G k m = sumF K k m
  | 0, _ => by simp [sumF]
  | m + 1, h => by
    have ih := sumF_add F G K k m (fun i h1 h2 => h i h1 (by omega))
    have := h (k + m) (by omega) (by omega)
    simp only [sumF]
    omega
theorem sumF_mul (F : Nat → Int) (c : Int) (k : Nat) : ∀ m, sumF (fun i => c * F i) k m = c * sumF F k m
  | 0 => by simp [sumF]
  | m + 1 => by simp only [sumF, sumF_mul F c k m, Int.mul_add]
theorem sumF_shift (F : Nat → Int) (k : Nat) : ∀ m, sumF F k m = sumF (fun i => F (k + i)) 0 m
  | 0 => rfl
  | m + 1 => by simp only [sumF, sumF_shift F k m, Nat.zero_add]
theorem sumF_nonpos (F : Nat → Int) (k : Nat) : ∀ m, (∀ i, k ≤ i → i < k + m → F i ≤ 0) → sumF F k m ≤ 0
  | 0, _ => by simp [sumF]
  | m + 1, h => by
    have ih := sumF_nonpos F k m (fun i h1 h2 => h i h1 (by omega))
    have := h (k + m) (by omega) (by omega)
    simp only [sumF]; omega
theorem sumF_congr (F G : Nat → Int) (k : Nat) : ∀ m, (∀ i, k ≤ i → i < k + m → F i = G i) → sumF F k m = sumF G k m
  | 0, _ => rfl
  | m + 1, h => by simp only [sumF, sumF_congr F G k m (fun i h1 h2 => h i h1 (by omega)), h (k + m) (by omega) (by omega)]
theorem mom_both {l : List Stone} {ws : List Int} {k : Nat} {t : Stone} (hk : k + 1 < l.length) (hlw : ws.length = l.length) (ht : l[k]? = some t) :
    momSum l ws (k + 1) 1 + momSum l ws (k + 1) (-1) = -2 * t.half * totalF (ws.drop (k + 1)) := by
  unfold momSum
  rw [sumF_add _ _ (fun i => (-2 * t.half) * ws.getD i 0) (k + 1) _ (fun i h1 h2 => ?_), sumF_mul, totalF]
  · congr 1
    rw [sumF_shift]
    rw [show (ws.drop (k + 1)).length = l.length - (k + 1) by simp [hlw]]
    refine sumF_congr _ _ _ _ fun i h1 h2 => ?_
    simp [List.getD_eq_getElem?_getD]
  · simp only [momTerm, far, rightE, leftE, List.getD_eq_getElem?_getD, ht, Option.getD_some]
    rw [if_pos (by omega), if_neg (by omega), ← Int.mul_add, Int.mul_comm]
    congr 1
    omega
theorem mom_left0 {l : List Stone} {ws : List Int} (h : OkP l) (hw : weighE l ws = 0) : momSum l ws 0 (-1) ≤ 0 := by
  refine sumF_nonpos _ _ _ fun i h1 h2 => ?_
  have hi : i < l.length := by omega
  obtain ⟨s, hs⟩ := at_ex hi
  obtain ⟨w, hws⟩ := at_ex (l := ws) (k := i) (by rw [weigh_len hw]; exact hi)
  obtain ⟨_, _, p1, p2, l1, lm, m9⟩ := h.fits i s hs
  have hwt := weighE_at hw hs hws
  simp only [momTerm, far, leftE, List.getD_eq_getElem?_getD, hs, hws, Option.getD_some]
  rw [if_neg (by omega)]
  exact Int.mul_nonpos_of_nonneg_of_nonpos (by omega) (by omega)
theorem momSum_b {l : List Stone} {ws : List Int} (h : OkP l) (hw : weighE l ws = 0) {k : Nat} (hk : k ≤ l.length) (side : Int) : -100000000000 ≤ momSum l ws k side ∧ momSum l ws k side ≤ 100000000000 := by
  obtain ⟨b1, b2⟩ := sumF_bound (F := momTerm l ws k side) (M := 2717908992) (by omega) (k := k) (n := l.length) (fun i h1 h2 => momTerm_bound h hw hk side h2) (l.length - k) (by omega)
  have := h.le
  unfold momSum
  omega

/-! Errors -/
theorem found_okP {l : List Stone} (h : OkP l) (z : Int) : foundE l z = if z < 0 then 2 else if z ≥ l.length then 2 else 0 := by
  unfold foundE; rw [if_pos (check_zero.2 h)]
theorem proves_0 {l : List Stone} {ws : List Int} (h : OkP l) (hw : weighE l ws = 0) : provesE l ws 0 = if momSum l ws 0 1 > 0 then 0 else 14 := by
  have h0 := mom_left0 h hw
  have hn := h.ne
  unfold provesE
  rw [found_okP h, if_pos (by rw [if_neg (by omega), if_neg (by omega)]), if_pos hw]
  simp only [Int.toNat_zero]
  repeat' split
  all_goals omega
theorem proves_1 {l : List Stone} {ws : List Int} (h : OkP l) (hw : weighE l ws = 0) {k : Nat} (hk : k < l.length) : provesE l ws k = if momSum l ws k 1 > 0 then 0 else if momSum l ws k (-1) > 0 then 0 else 14 := by
  unfold provesE
  rw [found_okP h, if_pos (by rw [if_neg (by omega), if_neg (by omega)]), if_pos hw]
  simp only [Int.toNat_natCast]
  repeat' split
  all_goals omega
end Go.AM.Ytikchlfbjdfioaa
