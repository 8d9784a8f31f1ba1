/- Plain laws: worst truths are worst, on both ways to reckon them. Own work of this project. -/
import Derived.Test.YteellnlcligpfaaRefC
namespace Go.AM.Yteellnlcligpfaa
open Go Go.AM
set_option maxRecDepth 100000

theorem sumF_congr {F G : Nat → Int} {k : Nat} : ∀ m, (∀ i, k ≤ i → i < k + m → F i = G i) → sumF F k m = sumF G k m
  | 0, _ => rfl
  | m + 1, h => by
    simp only [sumF]
    rw [sumF_congr m (fun i h1 h2 => h i h1 (by omega)), h (k + m) (by omega) (by omega)]
theorem sumF_le {F G : Nat → Int} {k : Nat} : ∀ m, (∀ i, k ≤ i → i < k + m → F i ≤ G i) → sumF F k m ≤ sumF G k m
  | 0, _ => Int.le_refl _
  | m + 1, h => by
    simp only [sumF]
    have := sumF_le m (fun i h1 h2 => h i h1 (by omega))
    have := h (k + m) (by omega) (by omega)
    omega
theorem sumF_neg {F : Nat → Int} {k : Nat} : ∀ m, (∀ i, k ≤ i → i < k + m → F i < 0) → sumF F k m ≤ 0 ∧ (0 < m → sumF F k m < 0)
  | 0, _ => ⟨Int.le_refl _, fun h => absurd h (by omega)⟩
  | m + 1, h => by
    simp only [sumF]
    have := (sumF_neg m (fun i h1 h2 => h i h1 (by omega))).1
    have := h (k + m) (by omega) (by omega)
    exact ⟨by omega, fun _ => by omega⟩

theorem redge_right (l : List Stone) (k : Nat) : redge l 1 k = rightE l k := by
  cases k <;> simp [redge, rightE]
theorem redge_left (l : List Stone) {k : Nat} (hk : 0 < k) : redge l (-1) k = leftE l k := by
  cases k with
  | zero => omega
  | succ k => simp only [redge, leftE]; omega

/-- A weight between bounds is at most as bad as the worst one. -/
theorem wt_worst {s : Stone} (hs : Fits s) {w x : Int} (h1 : s.least ≤ w) (h2 : w ≤ s.most) : w * x ≤ wt s x * x := by
  unfold wt
  split
  · rename_i hx
    exact Int.mul_le_mul_of_nonneg_right h2 (by omega)
  · rename_i hx
    have : (w - s.least) * x ≤ 0 := Int.mul_nonpos_of_nonneg_of_nonpos (by omega) (by omega)
    rw [Int.sub_mul] at this
    omega

theorem far_one (r le : Int) (s : Stone) : far 1 r le s = s.pos - r := by simp [far]
theorem far_neg (r le : Int) (s : Stone) : far (-1) r le s = le - s.pos := by simp [far]

/-- Bounds of a list of weights. -/
def Between (l : List Stone) (ws : List Int) : Prop := ws.length = l.length ∧ ∀ (i : Nat) (s : Stone), l[i]? = some s → s.least ≤ ws.getD i 0 ∧ ws.getD i 0 ≤ s.most
theorem between_okW {l : List Stone} {ws : List Int} (h : OkP l) (hb : Between l ws) : OkW l ws := by
  refine ⟨hb.1, fun k w hw => ?_⟩
  obtain ⟨s, hs⟩ := at_ex (show k < l.length by rw [← hb.1]; exact at_lt hw)
  have := hb.2 k s hs
  have hg : ws.getD k 0 = w := by simp [hw]
  rw [hg] at this
  obtain ⟨_, _, _, _, l1, lm, m9⟩ := h.fits k s hs
  omega
theorem rworst_between {l : List Stone} (h : OkP l) (k : Nat) (side : Int) : Between l (rworstI l k side l.length) := by
  refine ⟨rworstI_length _ _ _ _, fun i s hs => ?_⟩
  have hi := at_lt hs
  have hg : l.getD i default = s := by simp [hs]
  have e : (rworstI l k side l.length).getD i 0 = rwW l k side i := by simp [rworstI, hi]
  rw [e]
  obtain ⟨_, _, _, _, l1, lm, m9⟩ := h.fits i s hs
  unfold rwW
  rw [hg]
  split <;> omega

/-- The reference's moment, of a side that counts. -/
theorem rmom_right {l : List Stone} {ws : List Int} (k : Nat) : rmom l ws k 1 = momSum l ws k 1 := by
  unfold rmom momSum
  refine sumF_congr _ fun i _ _ => ?_
  unfold rterm momTerm
  rw [redge_right, far_one, Int.mul_one]
theorem rmom_left {l : List Stone} {ws : List Int} {k : Nat} (hk : 0 < k) : rmom l ws k (-1) = momSum l ws k (-1) := by
  unfold rmom momSum
  refine sumF_congr _ fun i _ _ => ?_
  unfold rterm momTerm
  rw [redge_left l hk, far_neg, Int.mul_assoc]
  congr 1
  omega
theorem mom_le_worst {l : List Stone} {ws : List Int} (h : OkP l) (hb : Between l ws) (k : Nat) (hk : k ≤ l.length) (side : Int) : momSum l ws k side ≤ worstSum l k side := by
  unfold momSum worstSum
  refine sumF_le _ fun i _ hi => ?_
  obtain ⟨s, hs⟩ := at_ex (show i < l.length by omega)
  have hg : l.getD i default = s := by simp [hs]
  obtain ⟨h1, h2⟩ := hb.2 i s hs
  unfold momTerm term
  rw [hg]
  exact wt_worst (h.fits i s hs) h1 h2

theorem rwW_right {l : List Stone} {k i : Nat} (hki : k ≤ i) : rwW l k 1 i = wt (l.getD i default) (far 1 (rightE l k) (leftE l k) (l.getD i default)) := by
  have : (i : Int) ≥ k := by omega
  unfold rwW rwC wt
  rw [redge_right, far_one, if_pos this, Int.one_mul]
  simp only [decide_eq_true_eq]
theorem rwW_left {l : List Stone} {k i : Nat} (hk : 0 < k) (hki : k ≤ i) : rwW l k (-1) i = wt (l.getD i default) (far (-1) (rightE l k) (leftE l k) (l.getD i default)) := by
  have : (i : Int) ≥ k := by omega
  unfold rwW rwC wt
  rw [redge_left l hk, far_neg, if_pos this]
  simp only [decide_eq_true_eq]
  rw [show -1 * ((l.getD i default).pos - leftE l k) = leftE l k - (l.getD i default).pos by omega]

theorem worst_right {l : List Stone} {k : Nat} (hk : k ≤ l.length) : momSum l (rworstI l k 1 l.length) k 1 = worstSum l k 1 := by
  unfold momSum worstSum
  refine sumF_congr _ fun i h1 h2 => ?_
  have e : (rworstI l k 1 l.length).getD i 0 = rwW l k 1 i := by simp [rworstI, show i < l.length by omega]
  unfold momTerm term
  rw [e, rwW_right h1]
theorem worst_left {l : List Stone} {k : Nat} (h0 : 0 < k) (hk : k ≤ l.length) : momSum l (rworstI l k (-1) l.length) k (-1) = worstSum l k (-1) := by
  unfold momSum worstSum
  refine sumF_congr _ fun i h1 h2 => ?_
  have e : (rworstI l k (-1) l.length).getD i 0 = rwW l k (-1) i := by simp [rworstI, show i < l.length by omega]
  unfold momTerm term
  rw [e, rwW_left h0 h1]

theorem far_zero_neg {l : List Stone} (h : OkP l) {i : Nat} (hi : i < l.length) : far (-1) (rightE l 0) (leftE l 0) (l.getD i default) < 0 := by
  obtain ⟨s, hs⟩ := at_ex hi
  have hg : l.getD i default = s := by simp [hs]
  obtain ⟨_, _, p1, _, _, _, _⟩ := h.fits i s hs
  rw [hg, far_neg]
  simp only [leftE]
  omega
theorem mom_zero_left {l : List Stone} {ws : List Int} (h : OkP l) (hw : OkW l ws) : momSum l ws 0 (-1) < 0 := by
  unfold momSum
  refine (sumF_neg _ fun i _ hi => ?_).2 (by have := h.ne; omega)
  have hil : i < l.length := by omega
  obtain ⟨w, hw1⟩ := at_ex (show i < ws.length by rw [hw.len]; exact hil)
  have hg2 : ws.getD i 0 = w := by simp [hw1]
  obtain ⟨w1, _⟩ := hw.ok i w hw1
  unfold momTerm
  rw [hg2]
  exact Int.mul_neg_of_pos_of_neg (by omega) (far_zero_neg h hil)
theorem may_zero_left {l : List Stone} (h : OkP l) : mayTip l 0 (-1) = false := by
  unfold mayTip
  rw [decide_eq_false_iff_not]
  have : worstSum l 0 (-1) < 0 := by
    unfold worstSum
    refine (sumF_neg _ fun i _ hi => ?_).2 (by have := h.ne; omega)
    have hil : i < l.length := by omega
    obtain ⟨s, hs⟩ := at_ex hil
    have hg : l.getD i default = s := by simp [hs]
    have hf := far_zero_neg h hil
    obtain ⟨_, _, _, _, l1, lm, _⟩ := h.fits i s hs
    rw [hg] at hf ⊢
    unfold term
    exact Int.mul_neg_of_pos_of_neg (by unfold wt; split <;> omega) hf
  omega

/-- A level tips in one of the two worst truths just if it may tip. -/
theorem tips_may {l : List Stone} (h : OkP l) {k : Nat} (hk : k ≤ l.length) : (rtips l (rworstI l k 1 l.length) k = true ∨ rtips l (rworstI l k (-1) l.length) k = true) ↔ (mayTip l k 1 = true ∨ mayTip l k (-1) = true) := by
  have b1 := rworst_between h k 1
  have b2 := rworst_between h k (-1)
  have m1 := mom_le_worst h b2 k hk 1
  have m2 := mom_le_worst h b1 k hk (-1)
  have e1 := worst_right hk
  unfold rtips
  simp only [rmom_right]
  by_cases h0 : k = 0
  · subst h0
    rw [may_zero_left h]
    simp only [mayTip, decide_eq_true_eq, Int.natCast_zero, Int.lt_irrefl, gt_iff_lt, if_false, Bool.false_eq_true, or_false]
    rw [e1]
    constructor
    · rintro (h1 | h1)
      · split at h1
        · assumption
        · exact absurd h1 (by simp)
      · split at h1
        · omega
        · exact absurd h1 (by simp)
    · intro h1; left; rw [if_pos h1]
  · have hp : 0 < k := by omega
    have e2 := worst_left hp hk
    simp only [rmom_left hp]
    have hpi : (k : Int) > 0 := by omega
    simp only [mayTip, decide_eq_true_eq, hpi, if_true]
    rw [e1, e2]
    constructor
    · rintro (h1 | h1)
      · split at h1
        · left; assumption
        · right; have := of_decide_eq_true h1; omega
      · split at h1
        · left; omega
        · right; exact of_decide_eq_true h1
    · rintro (h1 | h1)
      · left; rw [if_pos h1]
      · right
        split
        · rfl
        · exact decide_eq_true h1
end Go.AM.Yteellnlcligpfaa
