/- A part of the proof of propReach_holds: ReD, ReE, SyD, CorA, CorB, TruA, ReF, ReG. Own work of this project; texts printed by own programs among it. -/
import Derived.KernelRfl
import Derived.Test.YtmhbnflnlglljaaReK
section
namespace Go.AM.Ytmhbnflnlglljaa
open Go Go.AM
set_option maxRecDepth 100000
theorem fadd_rd' {a b c d : Int} (hb : 0 < b) (hd : 0 < d) : fadd (rd a b) c d = rd (a * d + c * b) (b * d) := by
  have h1 := rd_cross (num := a) (den := b)
  obtain ⟨p1, _⟩ := rd_den (num := a) hb
  unfold fadd
  generalize rd a b = f at *
  refine rd_eq (Int.mul_pos p1 hd) (Int.mul_pos hb hd) ?_
  calc (f.num * d + c * f.den) * (b * d) = (f.num * b) * (d * d) + c * f.den * b * d := by rw [Int.add_mul]; congr 1 <;> ac_rfl
    _ = (a * f.den) * (d * d) + c * f.den * b * d := by rw [h1]
    _ = (a * d + c * b) * (f.den * d) := by rw [Int.add_mul]; congr 1 <;> ac_rfl
/-- Numerators and denominators of the centres. -/
def DN (ws : List Int) : Nat → Int
  | 0 => 1
  | i + 1 => DN ws i * allW ws i
def NN (hs ws : List Int) : Nat → Int
  | 0 => 0
  | i + 1 => NN hs ws i * allW ws i + hs.getD i 0 * ws.getD i 0 * DN ws i
theorem DN_pos {hs ws : List Int} (h : OkL hs ws) : ∀ i, i ≤ ws.length → 0 < DN ws i
  | 0, _ => by show (0 : Int) < 1; decide
  | i + 1, hi => by
    have := allW_b h.le h.w (k := i) (by omega)
    exact Int.mul_pos (DN_pos h i (by omega)) (by omega)
theorem ctr_rd {hs ws : List Int} (h : OkL hs ws) : ∀ i, i ≤ ws.length → ctr hs ws i = rd (NN hs ws i) (DN ws i)
  | 0, _ => by simp [ctr, NN, DN, rd, rdN, rdD, gcdI]
  | i + 1, hi => by
    have := allW_b h.le h.w (k := i) (by omega)
    rw [ctr, ctr_rd h i (by omega), fadd_rd' (DN_pos h i (by omega)) (by omega)]
    rfl
theorem cen_rd {hs ws : List Int} (h : OkL hs ws) {i : Nat} (hi : i < ws.length) : cenF hs ws i = rd (NN hs ws (i + 1) - hs.getD i 0 * DN ws (i + 1)) (DN ws (i + 1)) := by
  rw [cenF, ctr_rd h (i + 1) (by omega), fadd_rd' (DN_pos h _ (by omega)) (by decide), Int.mul_one, Int.mul_one, Int.neg_mul]
  rfl
theorem rc_eq {hs ws : List Int} {s : Nat} : ∀ i, i ≤ s → rcP hs ws s i = (NN hs ws i + hs.getD s 0 * DN ws i, DN ws i)
  | 0, _ => by simp [rcP, NN, DN]
  | i + 1, hi => by
    have e : rcW ws s i = ws.getD i 0 := by unfold rcW; rw [if_neg (by omega)]
    rw [rcP, rc_eq i (by omega), e]
    simp only [NN, DN, Prod.mk.injEq, and_true]
    rw [Int.add_mul, Int.mul_assoc (hs.getD s 0)]
    omega
theorem rc_top {hs ws : List Int} (s : Nat) : rcP hs ws s (s + 1) = ((NN hs ws s + hs.getD s 0 * DN ws s) * allW ws s + hs.getD s 0 * allW ws (s + 1) * DN ws s, DN ws (s + 1)) := by
  rw [rcP, rc_eq s (Nat.le_refl _)]
  simp [rcW, DN]
theorem far_rc {hs ws : List Int} (h : OkL hs ws) {s : Nat} (hs' : s < ws.length) : farF hs ws s = rd (rcP hs ws s (s + 1)).1 (rcP hs ws s (s + 1)).2 := by
  have d0 := DN_pos h s (by omega)
  have t := allW_b h.le h.w hs'
  have a := allW_succ h hs'
  rw [farF, ctr_rd h s (by omega), fadd_rd' d0 (by omega), fadd_rd' (Int.mul_pos d0 (by omega)) (by decide), rc_top]
  simp only [DN, Int.mul_one]
  congr 1
  rw [show allW ws s - ws.getD s 0 = allW ws (s + 1) by omega, Int.add_mul]
  have e1 : hs.getD s 0 * (DN ws s * allW ws s) = hs.getD s 0 * DN ws s * allW ws s := by ac_rfl
  have e2 : allW ws (s + 1) * hs.getD s 0 * DN ws s = hs.getD s 0 * allW ws (s + 1) * DN ws s := by ac_rfl
  rw [e1, e2]
  omega
/-- At the last stone the reach is the last centre. -/
theorem rc_last {hs ws : List Int} (h : OkL hs ws) : rcP hs ws (ws.length - 1) ws.length = (NN hs ws ws.length, DN ws ws.length) := by
  have h0 := h.ne
  obtain ⟨n, hn⟩ : ∃ n, ws.length = n + 1 := ⟨ws.length - 1, by omega⟩
  have z : allW ws (n + 1) = 0 := by unfold allW; rw [hn, Nat.sub_self]; rfl
  have a := allW_succ h (i := n) (by omega)
  have e : ws.getD n 0 = allW ws n := by omega
  rw [hn, show n + 1 - 1 = n by omega, rc_top, z]
  simp only [NN, DN, e, Int.mul_zero, Int.zero_mul, Int.add_zero, Prod.mk.injEq, and_true]
  rw [Int.add_mul]
  congr 1
  ac_rfl
structure KnW (l : List Stone) (ws : List Int) : Prop where
  len : l.length = ws.length
  w : ∀ i, i < ws.length → (l.getD i default).least = ws.getD i 0 ∧ (l.getD i default).most = ws.getD i 0
def PS (l : List Stone) (ws : List Int) (k : Nat) : Int := sumF (fun i => ws.getD i 0 * (l.getD i default).pos) k (ws.length - k)
theorem PS_succ {l : List Stone} {ws : List Int} {k : Nat} (hk : k < ws.length) : PS l ws k = ws.getD k 0 * (l.getD k default).pos + PS l ws (k + 1) := by
  unfold PS
  rw [show ws.length - k = (ws.length - (k + 1)) + 1 by omega, sumF_head]
theorem PS_last (l : List Stone) (ws : List Int) : PS l ws ws.length = 0 := by unfold PS; rw [Nat.sub_self]; rfl
theorem worst_kn {l : List Stone} {ws : List Int} (h : KnW l ws) {k : Nat} (hk : k ≤ ws.length) : worstSum l k 1 = PS l ws k - rightE l k * allW ws k ∧ worstSum l k (-1) = leftE l k * allW ws k - PS l ws k := by
  unfold worstSum PS allW
  rw [h.len]
  generalize rightE l k = r
  generalize leftE l k = lf
  have key : ∀ m, k + m ≤ ws.length → sumF (fun i => term 1 r lf (l.getD i default)) k m = sumF (fun i => ws.getD i 0 * (l.getD i default).pos) k m - r * sumF (fun i => ws.getD i 0) k m ∧ sumF (fun i => term (-1) r lf (l.getD i default)) k m = lf * sumF (fun i => ws.getD i 0) k m - sumF (fun i => ws.getD i 0 * (l.getD i default).pos) k m := by
    intro m
    induction m with
    | zero => intro _; simp [sumF]
    | succ m ih =>
      intro hm
      obtain ⟨a, b⟩ := ih (by omega)
      obtain ⟨c, d⟩ := h.w (k + m) (by omega)
      have e : ∀ x, wt (l.getD (k + m) default) x = ws.getD (k + m) 0 := fun x => by unfold wt; split <;> assumption
      have f1 : far 1 r lf (l.getD (k + m) default) = (l.getD (k + m) default).pos - r := by simp [far]
      have f2 : far (-1) r lf (l.getD (k + m) default) = lf - (l.getD (k + m) default).pos := by simp [far]
      simp only [sumF]
      rw [a, b]
      simp only [term, e, f1, f2]
      rw [Int.mul_sub, Int.mul_sub, Int.mul_add, Int.mul_add, Int.mul_comm r (ws.getD (k + m) 0), Int.mul_comm lf (ws.getD (k + m) 0)]
      constructor <;> omega
  exact key _ (by omega)
/-- No stone of a placing that stands reaches farther. -/
theorem reach_le {hs ws : List Int} (h : OkL hs ws) {l : List Stone} (kn : KnW l ws) (hh : ∀ i, i < ws.length → (l.getD i default).half = 4 * hs.getD i 0) (hw : weakL l < 0) {s : Nat} (hs' : s < ws.length) :
    ((l.getD s default).pos + (l.getD s default).half) * (rcP hs ws s (s + 1)).2 ≤ 4 * (rcP hs ws s (s + 1)).1 := by
  rw [weakL_iff] at hw
  rw [kn.len] at hw
  have st : ∀ k, k < ws.length → PS l ws (k + 1) ≤ allW ws (k + 1) * ((l.getD k default).pos + (l.getD k default).half) ∧ allW ws (k + 1) * ((l.getD k default).pos - (l.getD k default).half) ≤ PS l ws (k + 1) := by
    intro k hk
    by_cases e : k + 1 < ws.length
    · obtain ⟨a, b⟩ := hw (k + 1) e
      obtain ⟨c, d⟩ := worst_kn kn (k := k + 1) (by omega)
      rw [c] at a
      rw [d] at b
      simp only [rightE, leftE] at a b
      rw [Int.mul_comm] at a b
      omega
    · have e : k + 1 = ws.length := by omega
      have z : allW ws ws.length = 0 := by unfold allW; rw [Nat.sub_self]; rfl
      rw [e, PS_last, z]
      omega
  have cen : ∀ k, k ≤ s → DN ws k * PS l ws k ≤ 4 * NN hs ws k * allW ws k := by
    intro k
    induction k with
    | zero =>
      intro _
      obtain ⟨a, _⟩ := hw 0 h.ne
      obtain ⟨c, _⟩ := worst_kn kn (k := 0) (by omega)
      rw [c] at a
      simp only [rightE] at a
      simp only [DN, NN]
      omega
    | succ k ih =>
      intro hk
      have ih := ih (by omega)
      obtain ⟨a, _⟩ := st k (by omega)
      have p := PS_succ (l := l) (ws := ws) (k := k) (by omega)
      have t := allW_succ h (i := k) (by omega)
      have w := h.w k (by omega)
      have t1 := allW_nn h (i := k + 1) (by omega)
      have d0 := DN_pos h k (by omega)
      have hf := hh k (by omega)
      simp only [DN, NN]
      generalize ws.getD k 0 = wk at *
      generalize (l.getD k default).pos = A at *
      generalize hs.getD k 0 = x at *
      rw [hf] at a
      generalize PS l ws k = P0 at *
      generalize PS l ws (k + 1) = P1 at *
      generalize allW ws (k + 1) = T1 at *
      generalize allW ws k = T0 at *
      generalize DN ws k = D at *
      generalize NN hs ws k = M at *
      have q : T0 * P1 ≤ T1 * (P0 + wk * (4 * x)) := by
        have b := Int.mul_le_mul_of_nonneg_left a (show 0 ≤ wk by omega)
        have e1 : wk * (T1 * (A + 4 * x)) = T1 * (wk * A) + T1 * (wk * (4 * x)) := by rw [← Int.mul_add, ← Int.mul_add]; ac_rfl
        have e2 : T0 * P1 = wk * P1 + T1 * P1 := by rw [t, Int.add_mul]
        have e3 : T1 * (P0 + wk * (4 * x)) = T1 * (wk * A) + T1 * P1 + T1 * (wk * (4 * x)) := by rw [p, Int.mul_add, Int.mul_add]
        omega
      have q2 := Int.mul_le_mul_of_nonneg_left q (show 0 ≤ D by omega)
      have q3 := Int.mul_le_mul_of_nonneg_right ih t1
      have e4 : D * (T0 * P1) = D * T0 * P1 := by ac_rfl
      have e5 : D * (T1 * (P0 + wk * (4 * x))) = D * P0 * T1 + 4 * (x * wk * D) * T1 := by
        rw [Int.mul_add, Int.mul_add]
        congr 1 <;> ac_rfl
      have e6 : 4 * M * T0 * T1 + 4 * (x * wk * D) * T1 = 4 * (M * T0 + x * wk * D) * T1 := by
        rw [Int.mul_add, Int.add_mul]
        congr 1
        ac_rfl
      omega
  have c := cen s (Nat.le_refl _)
  obtain ⟨_, b⟩ := st s hs'
  have p := PS_succ (l := l) (ws := ws) (k := s) hs'
  have t := allW_succ h hs'
  have d0 := DN_pos h s (by omega)
  have hf := hh s hs'
  rw [rc_top]
  simp only [DN]
  rw [hf] at b ⊢
  generalize ws.getD s 0 = wk at *
  generalize (l.getD s default).pos = A at *
  generalize hs.getD s 0 = x at *
  generalize PS l ws s = P0 at *
  generalize PS l ws (s + 1) = P1 at *
  generalize allW ws (s + 1) = T1 at *
  generalize allW ws s = T0 at *
  generalize DN ws s = D at *
  generalize NN hs ws s = M at *
  have q : T0 * (A + 4 * x) ≤ P0 + T1 * (4 * x) + T0 * (4 * x) := by
    have e1 : T1 * (A - 4 * x) = T1 * A - T1 * (4 * x) := Int.mul_sub ..
    have e2 : T0 * (A + 4 * x) = T0 * A + T0 * (4 * x) := Int.mul_add ..
    have e3 : T0 * A = wk * A + T1 * A := by rw [t, Int.add_mul]
    omega
  have q2 := Int.mul_le_mul_of_nonneg_left q (show 0 ≤ D by omega)
  have e4 : D * (T0 * (A + 4 * x)) = (A + 4 * x) * (D * T0) := by ac_rfl
  have e5 : D * (P0 + T1 * (4 * x) + T0 * (4 * x)) = D * P0 + 4 * (x * T1 * D) + 4 * (x * D * T0) := by
    rw [Int.mul_add, Int.mul_add]
    congr 1
    · congr 1; ac_rfl
    · ac_rfl
  have e6 : 4 * ((M + x * D) * T0 + x * T1 * D) = 4 * M * T0 + 4 * (x * D * T0) + 4 * (x * T1 * D) := by
    rw [Int.mul_add, Int.add_mul, Int.mul_add]
    congr 2
    ac_rfl
  omega
end Go.AM.Ytmhbnflnlglljaa
end

section
namespace Go.AM.Ytmhbnflnlglljaa
open Go Go.AM
set_option maxRecDepth 100000
theorem DN_dvd {hs ws : List Int} (h : OkL hs ws) : ∀ (m j : Nat), j + m = ws.length → DN ws j ∣ DN ws ws.length
  | 0, j, hj => by rw [show j = ws.length by omega]; exact Int.dvd_refl _
  | m + 1, j, hj => by
    have := DN_dvd h m (j + 1) (by omega)
    exact Int.dvd_trans ⟨allW ws j, rfl⟩ this
theorem EN_mul {hs ws : List Int} (h : OkL hs ws) {j : Nat} (hj : j ≤ ws.length) : DN ws j * (DN ws ws.length / DN ws j) = DN ws ws.length :=
  Int.mul_ediv_cancel' (DN_dvd h (ws.length - j) j (by omega))
theorem EN_step {hs ws : List Int} (h : OkL hs ws) {j : Nat} (hj : j < ws.length) : DN ws ws.length / DN ws j = allW ws j * (DN ws ws.length / DN ws (j + 1)) := by
  have a := EN_mul h (j := j) (by omega)
  have b := EN_mul h (j := j + 1) (by omega)
  have p := DN_pos h j (by omega)
  have : DN ws j * (DN ws ws.length / DN ws j) = DN ws j * (allW ws j * (DN ws ws.length / DN ws (j + 1))) := by
    rw [a, ← Int.mul_assoc]; exact b.symm
  exact Int.eq_of_mul_eq_mul_left (by omega) this
/-- A level's centre, times the denominator. -/
def cC (hs ws : List Int) (j : Nat) : Int := NN hs ws j * (DN ws ws.length / DN ws j)
theorem cC_step {hs ws : List Int} (h : OkL hs ws) {j : Nat} (hj : j < ws.length) : cC hs ws (j + 1) * allW ws j = cC hs ws j * allW ws j + hs.getD j 0 * ws.getD j 0 * DN ws ws.length := by
  have b := EN_mul h (j := j + 1) (by omega)
  unfold cC
  rw [EN_step h hj]
  simp only [NN]
  generalize DN ws ws.length / DN ws (j + 1) = e at b ⊢
  rw [← b]
  simp only [DN]
  rw [Int.add_mul, Int.add_mul]
  congr 1 <;> ac_rfl
theorem cC_zero (hs ws : List Int) : cC hs ws 0 = 0 := by simp [cC, NN]
theorem cC_top {hs ws : List Int} (h : OkL hs ws) : cC hs ws ws.length = NN hs ws ws.length := by
  have := DN_pos h ws.length (Nat.le_refl _)
  unfold cC
  rw [Int.ediv_self (by omega), Int.mul_one]
theorem cC_b {hs ws : List Int} (h : OkL hs ws) (h4 : ∀ i, i < ws.length → hs.getD i 0 ≤ 4) : ∀ j, j ≤ ws.length → 0 ≤ cC hs ws j ∧ cC hs ws j ≤ (4 * j : Nat) * DN ws ws.length
  | 0, _ => by rw [cC_zero]; simp
  | j + 1, hj => by
    obtain ⟨a, b⟩ := cC_b h h4 j (by omega)
    have s := cC_step h (j := j) (by omega)
    obtain ⟨t1, t2⟩ := allW_b h.le h.w (k := j) (by omega)
    have w := w_le_all h (i := j) (by omega)
    have w1 := h.w j (by omega)
    have x := h.h j (by omega)
    have x4 := h4 j (by omega)
    have d := DN_pos h ws.length (Nat.le_refl _)
    generalize DN ws ws.length = D at *
    generalize allW ws j = T at *
    have m1 : hs.getD j 0 * ws.getD j 0 ≤ 4 * T := Int.mul_le_mul x4 w (by omega) (by omega)
    have m2 : 0 ≤ hs.getD j 0 * ws.getD j 0 := Int.mul_nonneg (by omega) (by omega)
    have m3 : hs.getD j 0 * ws.getD j 0 * D ≤ 4 * T * D := Int.mul_le_mul_of_nonneg_right m1 (by omega)
    have m4 : 0 ≤ hs.getD j 0 * ws.getD j 0 * D := Int.mul_nonneg m2 (by omega)
    constructor
    · have : 0 * T ≤ cC hs ws (j + 1) * T := by
        have := Int.mul_nonneg a (show 0 ≤ T by omega)
        omega
      exact Int.le_of_mul_le_mul_right this (by omega)
    · have e : (4 * (j + 1) : Nat) * D * T = (4 * j : Nat) * D * T + 4 * T * D := by
        rw [show ((4 * (j + 1) : Nat) : Int) = (4 * j : Nat) + 4 by omega, Int.add_mul, Int.add_mul]
        congr 1
        ac_rfl
      have : cC hs ws (j + 1) * T ≤ (4 * (j + 1) : Nat) * D * T := by
        have := Int.mul_le_mul_of_nonneg_right b (show 0 ≤ T by omega)
        omega
      exact Int.le_of_mul_le_mul_right this (by omega)
theorem DN_small {hs ws : List Int} (h : OkL hs ws) (hn : ws.length ≤ 4) (h5 : ∀ i, i < ws.length → ws.getD i 0 ≤ 5) : ∀ j, j ≤ ws.length → DN ws j ≤ (20 ^ j : Nat)
  | 0, _ => by simp [DN]
  | j + 1, hj => by
    have ih := DN_small h hn h5 j (by omega)
    have d := DN_pos h j (by omega)
    obtain ⟨t1, _⟩ := allW_b h.le h.w (k := j) (by omega)
    have t2 : allW ws j ≤ 20 := by
      have : ∀ m, j + m ≤ ws.length → sumF (fun i => ws.getD i 0) j m ≤ 5 * m := by
        intro m
        induction m with
        | zero => intro _; simp [sumF]
        | succ m ih => intro hm; have := ih (by omega); have := h5 (j + m) (by omega); simp only [sumF]; omega
      have := this (ws.length - j) (by omega)
      unfold allW; omega
    have : DN ws j * allW ws j ≤ (20 ^ j : Nat) * 20 := Int.mul_le_mul ih t2 (by omega) (by omega)
    have e : ((20 ^ (j + 1) : Nat) : Int) = (20 ^ j : Nat) * 20 := by rw [Nat.pow_succ]; simp
    rw [e]; exact this
/-- The placing that is returned, times the denominator. -/
def plS (hs ws : List Int) (i : Nat) : Stone := ⟨hs.getD i 0 * DN ws ws.length, cC hs ws (i + 1) - hs.getD i 0 * DN ws ws.length, ws.getD i 0, ws.getD i 0⟩
def plL (hs ws : List Int) (i : Nat) : List Stone := (List.range i).map (plS hs ws)
theorem plL_length (hs ws i) : (plL hs ws i).length = i := by simp [plL]
theorem plL_succ (hs ws i) : plL hs ws (i + 1) = plL hs ws i ++ [plS hs ws i] := by simp [plL, List.range_succ]
theorem plL_at {hs ws : List Int} {n i : Nat} (h : i < n) : (plL hs ws n).getD i default = plS hs ws i := by simp [plL, h]
theorem plL_kn (hs ws : List Int) : KnW (plL hs ws ws.length) ws := ⟨plL_length .., fun i hi => by rw [plL_at hi]; exact ⟨rfl, rfl⟩⟩
theorem pl_PS {hs ws : List Int} (h : OkL hs ws) : ∀ (m k : Nat), k + m = ws.length → PS (plL hs ws ws.length) ws k = allW ws k * cC hs ws k
  | 0, k, hk => by
    obtain rfl : k = ws.length := by omega
    have z : allW ws ws.length = 0 := by unfold allW; rw [Nat.sub_self]; rfl
    rw [PS_last, z, Int.zero_mul]
  | m + 1, k, hk => by
    rw [PS_succ (by omega), pl_PS h m (k + 1) (by omega), plL_at (by omega)]
    have s := cC_step h (j := k) (by omega)
    have t := allW_succ h (i := k) (by omega)
    simp only [plS]
    rw [Int.mul_comm (cC hs ws k) _] at s
    rw [Int.mul_comm (cC hs ws (k + 1)) _, t, Int.add_mul] at s
    rw [Int.mul_sub, t]
    have e : hs.getD k 0 * ws.getD k 0 * DN ws ws.length = ws.getD k 0 * (hs.getD k 0 * DN ws ws.length) := by ac_rfl
    omega
theorem pl_edge {hs ws : List Int} {k : Nat} (hk : k < ws.length) : rightE (plL hs ws ws.length) (k + 1) = cC hs ws (k + 1) ∧ leftE (plL hs ws ws.length) (k + 1) = cC hs ws (k + 1) - 2 * (hs.getD k 0 * DN ws ws.length) := by
  simp only [rightE, leftE, plL_at hk, plS]
  omega
theorem pl_right {hs ws : List Int} {k : Nat} (hk : k ≤ ws.length) : rightE (plL hs ws ws.length) k = cC hs ws k := by
  cases k with
  | zero => rw [cC_zero]; rfl
  | succ k => exact (pl_edge (by omega)).1
theorem pl_stands {hs ws : List Int} (h : OkL hs ws) : weakL (plL hs ws ws.length) < 0 := by
  rw [weakL_iff, plL_length]
  intro k hk
  obtain ⟨a, b⟩ := worst_kn (plL_kn hs ws) (k := k) (by omega)
  obtain ⟨t1, t2⟩ := allW_b h.le h.w hk
  rw [a, b, pl_PS h (ws.length - k) k (by omega), pl_right (by omega)]
  constructor
  · rw [Int.mul_comm]; omega
  · cases k with
    | zero => rw [cC_zero]; simp only [leftE]; omega
    | succ k =>
      have x := h.h k (by omega)
      have d := DN_pos h ws.length (Nat.le_refl _)
      have m := Int.mul_nonneg (show 0 ≤ hs.getD k 0 by omega) (show 0 ≤ DN ws ws.length by omega)
      rw [(pl_edge (by omega)).2, Int.sub_mul, Int.mul_comm (cC hs ws (k + 1))]
      have := Int.mul_nonneg (show 0 ≤ 2 * (hs.getD k 0 * DN ws ws.length) by omega) (show 0 ≤ allW ws (k + 1) by omega)
      omega
/-- The last stone one more to the right. -/
def plT (hs ws : List Int) : List Stone := (plL hs ws ws.length).set (ws.length - 1) { plS hs ws (ws.length - 1) with pos := (plS hs ws (ws.length - 1)).pos + 1 }
theorem plT_tips {hs ws : List Int} (h : OkL hs ws) : ¬ weakL (plT hs ws) < 0 := by
  have h0 := h.ne
  obtain ⟨n, hn⟩ : ∃ n, ws.length = n + 1 := ⟨ws.length - 1, by omega⟩
  have len : (plT hs ws).length = ws.length := by simp [plT, plL_length]
  have gl : (plT hs ws).getD n default = { plS hs ws n with pos := (plS hs ws n).pos + 1 } := by
    simp [plT, hn, plL_length]
  have go : ∀ i, i < n → (plT hs ws).getD i default = plS hs ws i := fun i hi => by
    have := plL_at (hs := hs) (ws := ws) (n := ws.length) (i := i) (by omega)
    rw [List.getD_eq_getElem?_getD] at this ⊢
    rw [plT, List.getElem?_set_ne (by omega)]
    exact this
  have kn : KnW (plT hs ws) ws := ⟨len, fun i hi => by
    by_cases e : i = n
    · subst e; rw [gl]; exact ⟨rfl, rfl⟩
    · rw [go i (by omega)]; exact ⟨rfl, rfl⟩⟩
  intro hw
  rw [weakL_iff, len] at hw
  obtain ⟨a, _⟩ := hw n (by omega)
  obtain ⟨b, _⟩ := worst_kn kn (k := n) (by omega)
  have z : allW ws (n + 1) = 0 := by unfold allW; rw [hn, Nat.sub_self]; rfl
  have t := allW_succ h (i := n) (by omega)
  have w := h.w n (by omega)
  have s := cC_step h (j := n) (by omega)
  have er : rightE (plT hs ws) n = cC hs ws n := by
    have := pl_right (hs := hs) (ws := ws) (k := n) (by omega)
    rw [← this]
    cases n with
    | zero => rfl
    | succ m =>
      have e1 := go m (by omega)
      have e2 := plL_at (hs := hs) (ws := ws) (n := ws.length) (i := m) (by omega)
      simp only [rightE, e1, e2]
  have pe : PS (plT hs ws) ws (n + 1) = 0 := by have := PS_last (plT hs ws) ws; rwa [hn] at this
  have tw : allW ws n = ws.getD n 0 := by omega
  rw [b, PS_succ (by omega), gl, er, pe, tw] at a
  simp only [plS] at a
  rw [tw] at s
  have e3 : hs.getD n 0 * ws.getD n 0 * DN ws ws.length = ws.getD n 0 * (hs.getD n 0 * DN ws ws.length) := by ac_rfl
  rw [Int.mul_add, Int.mul_sub] at a
  rw [Int.mul_comm (cC hs ws (n + 1))] at s
  omega
theorem pl_okP {hs ws : List Int} (h : OkL hs ws) (hn : ws.length ≤ 4) (h4 : ∀ i, i < ws.length → hs.getD i 0 ≤ 4) (h5 : ∀ i, i < ws.length → ws.getD i 0 ≤ 5) :
    DN ws ws.length ≤ 160000 ∧ OkP (plL hs ws ws.length) ∧ OkP (plT hs ws) := by
  have d := DN_small h hn h5 ws.length (Nat.le_refl _)
  have dp := DN_pos h ws.length (Nat.le_refl _)
  have p20 : 20 ^ ws.length ≤ 20 ^ 4 := Nat.pow_le_pow_right (by omega) hn
  have e20 : (20 : Nat) ^ 4 = 160000 := by decide
  have h0 := h.ne
  have key : ∀ i, i < ws.length → 1 ≤ (plS hs ws i).half ∧ (plS hs ws i).half ≤ 4194304 ∧ -33554000 ≤ (plS hs ws i).pos ∧ (plS hs ws i).pos ≤ 33554000 ∧ 1 ≤ ws.getD i 0 ∧ ws.getD i 0 ≤ 9 := by
    intro i hi
    have x := h.h i hi
    have x4 := h4 i hi
    have w := h.w i hi
    obtain ⟨c1, c2⟩ := cC_b h h4 (i + 1) (by omega)
    have m1 : hs.getD i 0 * DN ws ws.length ≤ 4 * 160000 := Int.mul_le_mul x4 (by omega) (by omega) (by omega)
    have m2 : 1 ≤ hs.getD i 0 * DN ws ws.length := by have := Int.mul_pos (show 0 < hs.getD i 0 by omega) dp; omega
    have m3 : ((4 * (i + 1) : Nat) : Int) * DN ws ws.length ≤ 16 * 160000 := Int.mul_le_mul (by omega) (by omega) (by omega) (by omega)
    simp only [plS]
    omega
  refine ⟨by omega, ⟨by rw [plL_length]; exact h0, by rw [plL_length]; omega, fun k s hs' => ?_⟩, ⟨by simp [plT, plL_length]; exact h0, by simp [plT, plL_length]; omega, fun k s hs' => ?_⟩⟩
  · have hk := at_lt hs'
    rw [plL_length] at hk
    have := plL_at (hs := hs) (ws := ws) hk
    simp only [List.getD_eq_getElem?_getD, hs', Option.getD_some] at this
    subst this
    obtain ⟨a, b, c, d, e, f⟩ := key k hk
    exact ⟨a, b, by omega, by omega, e, Int.le_refl _, f⟩
  · have hk := at_lt hs'
    rw [show (plT hs ws).length = ws.length by simp [plT, plL_length]] at hk
    rw [plT, List.getElem?_set, plL_length] at hs'
    by_cases e : ws.length - 1 = k
    · rw [if_pos e, if_pos (by omega)] at hs'
      obtain rfl := Option.some.inj hs'
      obtain ⟨a, b, c, d, e, f⟩ := key (ws.length - 1) (by omega)
      exact ⟨a, b, by simp only; omega, by simp only; omega, e, Int.le_refl _, f⟩
    · rw [if_neg e] at hs'
      have := plL_at (hs := hs) (ws := ws) hk
      simp only [List.getD_eq_getElem?_getD, hs', Option.getD_some] at this
      subst this
      obtain ⟨a, b, c, d, e, f⟩ := key k hk
      exact ⟨a, b, by omega, by omega, e, Int.le_refl _, f⟩
/-- A fraction's number in parts of a denominator. -/
theorem rd_scale {a b m : Int} (hb : 0 < b) (hd : b ∣ m) : (rd a b).den ∣ m ∧ (rd a b).num * (m / (rd a b).den) = a * (m / b) := by
  obtain ⟨m1, m2⟩ := rd_mul a b
  obtain ⟨p, _⟩ := rd_den (num := a) hb
  have hg := gcdI_pos (num := a) hb
  obtain ⟨q, rfl⟩ := hd
  have hd2 : (rd a b).den ∣ b * q := ⟨(gcdI a b : Int) * q, by show b * q = rdD a b * _; rw [← Int.mul_assoc, m2]⟩
  refine ⟨hd2, ?_⟩
  show rdN a b * (b * q / rdD a b) = a * (b * q / b)
  have e1 : b * q / rdD a b = (gcdI a b : Int) * q := by
    rw [show b * q = rdD a b * ((gcdI a b : Int) * q) by rw [← Int.mul_assoc, m2]]
    exact Int.mul_ediv_cancel_left _ (by have : (0 : Int) < rdD a b := p; omega)
  rw [e1, Int.mul_ediv_cancel_left _ (by omega), ← Int.mul_assoc, m1]
theorem cen_scale {hs ws : List Int} (h : OkL hs ws) {i : Nat} (hi : i < ws.length) : (cenF hs ws i).den ∣ DN ws ws.length ∧ (cenF hs ws i).num * (DN ws ws.length / (cenF hs ws i).den) = cC hs ws (i + 1) - hs.getD i 0 * DN ws ws.length := by
  have d := DN_pos h (i + 1) (by omega)
  obtain ⟨a, b⟩ := rd_scale (a := NN hs ws (i + 1) - hs.getD i 0 * DN ws (i + 1)) d (DN_dvd h (ws.length - (i + 1)) (i + 1) (by omega))
  rw [cen_rd h hi]
  refine ⟨a, ?_⟩
  rw [b, Int.sub_mul, Int.mul_assoc (hs.getD i 0), EN_mul h (by omega)]
  rfl
end Go.AM.Ytmhbnflnlglljaa
end

section
namespace Go.AM.Ytmhbnflnlglljaa
open Go Go.AM
set_option maxRecDepth 100000
variable {C : Callee} {B N : Nat} {E0 : AHeap} (φ : AFr) (H : AHeap) (s : St)
noncomputable def c37_0 : Code := kBody Proofs.Try.f37
noncomputable def c37_1 : Code := kL c37_0
noncomputable def r37_0 : Array Oper := kO c37_1
noncomputable def o37_0_0 : Oper := opN r37_0 0
noncomputable def o37_0_1 : Oper := opN r37_0 1
noncomputable def o37_0_2 : Oper := opN r37_0 2
noncomputable def o37_0_3 : Oper := opN r37_0 3
theorem x37_1 : execA E C (fg 37) B 41 E0 N c37_1 s = regX (runA E C B 41 r37_0 r37_0.toList s) (fun s => gcM E0 [8, 9] (forget s.1 [8, 9], s.2)) := x_reg (ops := r37_0) (by rfl) (by rfl) s
theorem r37_0_l : r37_0.toList = [o37_0_0, o37_0_1, o37_0_2, o37_0_3] := nrfl rfl
theorem s37_0_0 : stepA E C B 41 r37_0 o37_0_0 (φ, H) = some (fput φ 8 (fget φ 0), H) := nrfl rfl
theorem s37_0_1 : stepA E C B 41 r37_0 o37_0_1 (φ, H) = stp (some 9) φ H (aBuiltin E.T (B + 9) .len #[22] [(fget φ 8)]) := nrfl rfl
theorem s37_0_2 : stepA E C B 41 r37_0 o37_0_2 (φ, H) = stp (some 10) φ H (just (aBin E.T .shl 3 (.int .i64 1) (fget φ 9))) := nrfl rfl
theorem s37_0_3 : stepA E C B 41 r37_0 o37_0_3 (φ, H) = some (fput φ 11 (.int .i64 0), H) := nrfl rfl
noncomputable def c37_2 : Code := kR c37_0
noncomputable def c37_3 : Code := kB c37_2
noncomputable def c37_4 : Code := kB c37_3
noncomputable def c37_5 : Code := kL c37_4
noncomputable def r37_1 : Array Oper := kO c37_5
noncomputable def o37_1_0 : Oper := opN r37_1 0
theorem x37_5 : execA E C (fg 37) B 41 E0 N c37_5 s = regX (runA E C B 41 r37_1 r37_1.toList s) (fun s => gcM E0 [] (forget s.1 [], s.2)) := x_reg (ops := r37_1) (by rfl) (by rfl) s
theorem r37_1_l : r37_1.toList = [o37_1_0] := nrfl rfl
theorem s37_1_0 : stepA E C B 41 r37_1 o37_1_0 (φ, H) = stp (some 12) φ H (just (aBin E.T .lss 3 (fget φ 11) (fget φ 10))) := nrfl rfl
noncomputable def c37_6 : Code := kR c37_4
noncomputable def c37_7 : Code := kL c37_6
noncomputable def c37_8 : Code := kT c37_7
theorem x37_8 : execA E C (fg 37) B 41 E0 N c37_8 s = some (.normal, s) := x_skip (by rfl) s
noncomputable def c37_9 : Code := kE c37_7
theorem x37_9 : execA E C (fg 37) B 41 E0 N c37_9 s = some (.exit 0, s) := x_exit (by rfl) s
theorem x37_7 : execA E C (fg 37) B 41 E0 N c37_7 (φ, H) = condX (fget φ 12) (execA E C (fg 37) B 41 E0 N c37_8 (φ, H)) (execA E C (fg 37) B 41 E0 N c37_9 (φ, H)) := x_cond (by rfl) _
noncomputable def c37_10 : Code := kR c37_6
noncomputable def c37_11 : Code := kL c37_10
noncomputable def c37_12 : Code := kB c37_11
noncomputable def c37_13 : Code := kL c37_12
noncomputable def r37_2 : Array Oper := kO c37_13
noncomputable def o37_2_0 : Oper := opN r37_2 0
noncomputable def o37_2_1 : Oper := opN r37_2 1
theorem x37_13 : execA E C (fg 37) B 41 E0 N c37_13 s = regX (runA E C B 41 r37_2 r37_2.toList s) (fun s => gcM E0 [12, 13] (forget s.1 [12, 13], s.2)) := x_reg (ops := r37_2) (by rfl) (by rfl) s
theorem r37_2_l : r37_2.toList = [o37_2_0, o37_2_1] := nrfl rfl
theorem s37_2_0 : stepA E C B 41 r37_2 o37_2_0 (φ, H) = some (fput φ 13 (fget φ 11), H) := nrfl rfl
theorem s37_2_1 : stepA E C B 41 r37_2 o37_2_1 (φ, H) = some (fput φ 4 (fget φ 13), H) := nrfl rfl
noncomputable def c37_14 : Code := kR c37_12
noncomputable def c37_15 : Code := kL c37_14
noncomputable def r37_3 : Array Oper := kO c37_15
noncomputable def o37_3_0 : Oper := opN r37_3 0
theorem x37_15 : execA E C (fg 37) B 41 E0 N c37_15 s = regX (runA E C B 41 r37_3 r37_3.toList s) (fun s => gcM E0 [] (forget s.1 [], s.2)) := x_reg (ops := r37_3) (by rfl) (by rfl) s
theorem r37_3_l : r37_3.toList = [o37_3_0] := nrfl rfl
theorem s37_3_0 : stepA E C B 41 r37_3 o37_3_0 (φ, H) = some (fput φ 5 (.nilsl), H) := nrfl rfl
noncomputable def c37_16 : Code := kR c37_14
noncomputable def c37_17 : Code := kL c37_16
noncomputable def c37_18 : Code := kL c37_17
noncomputable def r37_4 : Array Oper := kO c37_18
noncomputable def o37_4_0 : Oper := opN r37_4 0
noncomputable def o37_4_1 : Oper := opN r37_4 1
noncomputable def o37_4_2 : Oper := opN r37_4 2
theorem x37_18 : execA E C (fg 37) B 41 E0 N c37_18 s = regX (runA E C B 41 r37_4 r37_4.toList s) (fun s => gcM E0 [] (forget s.1 [], s.2)) := x_reg (ops := r37_4) (by rfl) (by rfl) s
theorem r37_4_l : r37_4.toList = [o37_4_0, o37_4_1, o37_4_2] := nrfl rfl
theorem s37_4_0 : stepA E C B 41 r37_4 o37_4_0 (φ, H) = some (fput φ 14 (fget φ 0), H) := nrfl rfl
theorem s37_4_1 : stepA E C B 41 r37_4 o37_4_1 (φ, H) = stp (some 15) φ H (aBuiltin E.T (B + 15) .len #[22] [(fget φ 14)]) := nrfl rfl
theorem s37_4_2 : stepA E C B 41 r37_4 o37_4_2 (φ, H) = some (fput φ 16 (.int .i64 0), H) := nrfl rfl
noncomputable def c37_19 : Code := kR c37_17
noncomputable def c37_20 : Code := kB c37_19
noncomputable def c37_21 : Code := kB c37_20
noncomputable def c37_22 : Code := kL c37_21
noncomputable def r37_5 : Array Oper := kO c37_22
noncomputable def o37_5_0 : Oper := opN r37_5 0
theorem x37_22 : execA E C (fg 37) B 41 E0 N c37_22 s = regX (runA E C B 41 r37_5 r37_5.toList s) (fun s => gcM E0 [] (forget s.1 [], s.2)) := x_reg (ops := r37_5) (by rfl) (by rfl) s
theorem r37_5_l : r37_5.toList = [o37_5_0] := nrfl rfl
theorem s37_5_0 : stepA E C B 41 r37_5 o37_5_0 (φ, H) = stp (some 17) φ H (just (aBin E.T .lss 3 (fget φ 16) (fget φ 15))) := nrfl rfl
noncomputable def c37_23 : Code := kR c37_21
noncomputable def c37_24 : Code := kL c37_23
noncomputable def c37_25 : Code := kT c37_24
theorem x37_25 : execA E C (fg 37) B 41 E0 N c37_25 s = some (.normal, s) := x_skip (by rfl) s
noncomputable def c37_26 : Code := kE c37_24
theorem x37_26 : execA E C (fg 37) B 41 E0 N c37_26 s = some (.exit 2, s) := x_exit (by rfl) s
theorem x37_24 : execA E C (fg 37) B 41 E0 N c37_24 (φ, H) = condX (fget φ 17) (execA E C (fg 37) B 41 E0 N c37_25 (φ, H)) (execA E C (fg 37) B 41 E0 N c37_26 (φ, H)) := x_cond (by rfl) _
noncomputable def c37_27 : Code := kR c37_23
noncomputable def c37_28 : Code := kL c37_27
noncomputable def c37_29 : Code := kB c37_28
noncomputable def c37_30 : Code := kL c37_29
noncomputable def r37_6 : Array Oper := kO c37_30
noncomputable def o37_6_0 : Oper := opN r37_6 0
noncomputable def o37_6_1 : Oper := opN r37_6 1
noncomputable def o37_6_2 : Oper := opN r37_6 2
noncomputable def o37_6_3 : Oper := opN r37_6 3
noncomputable def o37_6_4 : Oper := opN r37_6 4
noncomputable def o37_6_5 : Oper := opN r37_6 5
theorem x37_30 : execA E C (fg 37) B 41 E0 N c37_30 s = regX (runA E C B 41 r37_6 r37_6.toList s) (fun s => gcM E0 [17, 18, 19, 20] (forget s.1 [17, 18, 19, 20], s.2)) := x_reg (ops := r37_6) (by rfl) (by rfl) s
theorem r37_6_l : r37_6.toList = [o37_6_0, o37_6_1, o37_6_2, o37_6_3, o37_6_4, o37_6_5] := nrfl rfl
theorem s37_6_0 : stepA E C B 41 r37_6 o37_6_0 (φ, H) = some (fput φ 18 (fget φ 16), H) := nrfl rfl
theorem s37_6_1 : stepA E C B 41 r37_6 o37_6_1 (φ, H) = stp (some 19) φ H (just (aIndexAddr E.T 22 (fget φ 14) (fget φ 16))) := nrfl rfl
theorem s37_6_2 : stepA E C B 41 r37_6 o37_6_2 (φ, H) = stp (some 20) φ H (just (aLoad E.T 45 (fget φ 19))) := nrfl rfl
theorem s37_6_3 : stepA E C B 41 r37_6 o37_6_3 (φ, H) = stp (some 7) φ H (opBox (B + 7) (zeroCells E.T 45)) := nrfl rfl
theorem s37_6_4 : stepA E C B 41 r37_6 o37_6_4 (φ, H) = some (fput φ 6 (fget φ 18), H) := nrfl rfl
theorem s37_6_5 : stepA E C B 41 r37_6 o37_6_5 (φ, H) = stp none φ H (opStore E.T 45 (fget φ 7) (fget φ 20)) := nrfl rfl
noncomputable def c37_31 : Code := kR c37_29
noncomputable def c37_32 : Code := kL c37_31
noncomputable def r37_7 : Array Oper := kO c37_32
noncomputable def o37_7_0 : Oper := opN r37_7 0
noncomputable def o37_7_1 : Oper := opN r37_7 1
noncomputable def o37_7_2 : Oper := opN r37_7 2
noncomputable def o37_7_3 : Oper := opN r37_7 3
noncomputable def o37_7_4 : Oper := opN r37_7 4
theorem x37_32 : execA E C (fg 37) B 41 E0 N c37_32 s = regX (runA E C B 41 r37_7 r37_7.toList s) (fun s => gcM E0 [6, 21, 22, 23, 24] (forget s.1 [6, 21, 22, 23, 24], s.2)) := x_reg (ops := r37_7) (by rfl) (by rfl) s
theorem r37_7_l : r37_7.toList = [o37_7_0, o37_7_1, o37_7_2, o37_7_3, o37_7_4] := nrfl rfl
theorem s37_7_0 : stepA E C B 41 r37_7 o37_7_0 (φ, H) = some (fput φ 21 (fget φ 4), H) := nrfl rfl
theorem s37_7_1 : stepA E C B 41 r37_7 o37_7_1 (φ, H) = some (fput φ 22 (fget φ 6), H) := nrfl rfl
theorem s37_7_2 : stepA E C B 41 r37_7 o37_7_2 (φ, H) = stp (some 23) φ H (just (aBin E.T .shr 3 (fget φ 21) (fget φ 22))) := nrfl rfl
theorem s37_7_3 : stepA E C B 41 r37_7 o37_7_3 (φ, H) = stp (some 24) φ H (just (aBin E.T .and 3 (fget φ 23) (.int .i64 1))) := nrfl rfl
theorem s37_7_4 : stepA E C B 41 r37_7 o37_7_4 (φ, H) = stp (some 25) φ H (just (aBin E.T .eql 3 (fget φ 24) (.int .i64 1))) := nrfl rfl
noncomputable def c37_33 : Code := kR c37_31
noncomputable def c37_34 : Code := kT c37_33
noncomputable def r37_8 : Array Oper := kO c37_34
noncomputable def o37_8_0 : Oper := opN r37_8 0
noncomputable def o37_8_1 : Oper := opN r37_8 1
noncomputable def o37_8_2 : Oper := opN r37_8 2
noncomputable def o37_8_3 : Oper := opN r37_8 3
noncomputable def o37_8_4 : Oper := opN r37_8 4
noncomputable def o37_8_5 : Oper := opN r37_8 5
theorem x37_34 : execA E C (fg 37) B 41 E0 N c37_34 s = regX (runA E C B 41 r37_8 r37_8.toList s) (fun s => gcM E0 [7, 25, 26, 27, 28, 29, 30] (forget s.1 [7, 25, 26, 27, 28, 29, 30], s.2)) := x_reg (ops := r37_8) (by rfl) (by rfl) s
theorem r37_8_l : r37_8.toList = [o37_8_0, o37_8_1, o37_8_2, o37_8_3, o37_8_4, o37_8_5] := nrfl rfl
theorem s37_8_0 : stepA E C B 41 r37_8 o37_8_0 (φ, H) = some (fput φ 26 (fget φ 5), H) := nrfl rfl
theorem s37_8_1 : stepA E C B 41 r37_8 o37_8_1 (φ, H) = stp (some 27) φ H (just (aFieldAddr E.T 45 (fget φ 7) 3)) := nrfl rfl
theorem s37_8_2 : stepA E C B 41 r37_8 o37_8_2 (φ, H) = stp (some 28) φ H (just (aLoad E.T 3 (fget φ 27))) := nrfl rfl
theorem s37_8_3 : stepA E C B 41 r37_8 o37_8_3 (φ, H) = stp (some 29) φ H (aBuildSlice E.T (B + 29) 47 1 (evO E φ) [(0, Operand.tmp 28)]) := nrfl rfl
theorem s37_8_4 : stepA E C B 41 r37_8 o37_8_4 (φ, H) = stp (some 30) φ H (aBuiltin E.T (B + 30) .append #[47, 47] [(fget φ 26), (fget φ 29)]) := nrfl rfl
theorem s37_8_5 : stepA E C B 41 r37_8 o37_8_5 (φ, H) = some (fput φ 5 (fget φ 30), H) := nrfl rfl
noncomputable def c37_35 : Code := kE c37_33
noncomputable def r37_9 : Array Oper := kO c37_35
noncomputable def o37_9_0 : Oper := opN r37_9 0
noncomputable def o37_9_1 : Oper := opN r37_9 1
noncomputable def o37_9_2 : Oper := opN r37_9 2
noncomputable def o37_9_3 : Oper := opN r37_9 3
noncomputable def o37_9_4 : Oper := opN r37_9 4
noncomputable def o37_9_5 : Oper := opN r37_9 5
theorem x37_35 : execA E C (fg 37) B 41 E0 N c37_35 s = regX (runA E C B 41 r37_9 r37_9.toList s) (fun s => gcM E0 [7, 25, 31, 32, 33, 34, 35] (forget s.1 [7, 25, 31, 32, 33, 34, 35], s.2)) := x_reg (ops := r37_9) (by rfl) (by rfl) s
theorem r37_9_l : r37_9.toList = [o37_9_0, o37_9_1, o37_9_2, o37_9_3, o37_9_4, o37_9_5] := nrfl rfl
theorem s37_9_0 : stepA E C B 41 r37_9 o37_9_0 (φ, H) = some (fput φ 31 (fget φ 5), H) := nrfl rfl
theorem s37_9_1 : stepA E C B 41 r37_9 o37_9_1 (φ, H) = stp (some 32) φ H (just (aFieldAddr E.T 45 (fget φ 7) 2)) := nrfl rfl
theorem s37_9_2 : stepA E C B 41 r37_9 o37_9_2 (φ, H) = stp (some 33) φ H (just (aLoad E.T 3 (fget φ 32))) := nrfl rfl
theorem s37_9_3 : stepA E C B 41 r37_9 o37_9_3 (φ, H) = stp (some 34) φ H (aBuildSlice E.T (B + 34) 47 1 (evO E φ) [(0, Operand.tmp 33)]) := nrfl rfl
theorem s37_9_4 : stepA E C B 41 r37_9 o37_9_4 (φ, H) = stp (some 35) φ H (aBuiltin E.T (B + 35) .append #[47, 47] [(fget φ 31), (fget φ 34)]) := nrfl rfl
theorem s37_9_5 : stepA E C B 41 r37_9 o37_9_5 (φ, H) = some (fput φ 5 (fget φ 35), H) := nrfl rfl
theorem x37_33 : execA E C (fg 37) B 41 E0 N c37_33 (φ, H) = condX (fget φ 25) (execA E C (fg 37) B 41 E0 N c37_34 (φ, H)) (execA E C (fg 37) B 41 E0 N c37_35 (φ, H)) := x_cond (by rfl) _
theorem x37_31 : execA E C (fg 37) B 41 E0 N c37_31 s = seqX (execA E C (fg 37) B 41 E0 N c37_32 s) (execA E C (fg 37) B 41 E0 N c37_33) := x_seq (by rfl) s
theorem x37_29 : execA E C (fg 37) B 41 E0 N c37_29 s = seqX (execA E C (fg 37) B 41 E0 N c37_30 s) (execA E C (fg 37) B 41 E0 N c37_31) := x_seq (by rfl) s
theorem x37_28 : execA E C (fg 37) B 41 E0 N c37_28 s = blockX 3 (fun s => (forget s.1 [], s.2)) (execA E C (fg 37) B 41 E0 N c37_29 s) := x_block (by rfl) (by rfl) s
noncomputable def c37_36 : Code := kR c37_27
noncomputable def r37_10 : Array Oper := kO c37_36
noncomputable def o37_10_0 : Oper := opN r37_10 0
noncomputable def o37_10_1 : Oper := opN r37_10 1
theorem x37_36 : execA E C (fg 37) B 41 E0 N c37_36 s = regX (runA E C B 41 r37_10 r37_10.toList s) (fun s => gcM E0 [36] (forget s.1 [36], s.2)) := x_reg (ops := r37_10) (by rfl) (by rfl) s
theorem r37_10_l : r37_10.toList = [o37_10_0, o37_10_1] := nrfl rfl
theorem s37_10_0 : stepA E C B 41 r37_10 o37_10_0 (φ, H) = stp (some 36) φ H (just (aBin E.T .add 3 (fget φ 16) (.int .i64 1))) := nrfl rfl
theorem s37_10_1 : stepA E C B 41 r37_10 o37_10_1 (φ, H) = some (fput φ 16 (fget φ 36), H) := nrfl rfl
theorem x37_27 : execA E C (fg 37) B 41 E0 N c37_27 s = seqX (execA E C (fg 37) B 41 E0 N c37_28 s) (execA E C (fg 37) B 41 E0 N c37_36) := x_seq (by rfl) s
theorem x37_23 : execA E C (fg 37) B 41 E0 N c37_23 s = seqX (execA E C (fg 37) B 41 E0 N c37_24 s) (execA E C (fg 37) B 41 E0 N c37_27) := x_seq (by rfl) s
theorem x37_21 : execA E C (fg 37) B 41 E0 N c37_21 s = seqX (execA E C (fg 37) B 41 E0 N c37_22 s) (execA E C (fg 37) B 41 E0 N c37_23) := x_seq (by rfl) s
theorem x37_20 : execA E C (fg 37) B 41 E0 N c37_20 s = iterA (execA E C (fg 37) B 41 E0 N c37_21) (headA E0) N s := x_loop (by rfl) s
theorem x37_19 : execA E C (fg 37) B 41 E0 N c37_19 s = blockX 2 (fun s => (forget s.1 [4, 14, 15, 16, 17], s.2)) (execA E C (fg 37) B 41 E0 N c37_20 s) := x_block (by rfl) (by rfl) s
theorem x37_17 : execA E C (fg 37) B 41 E0 N c37_17 s = seqX (execA E C (fg 37) B 41 E0 N c37_18 s) (execA E C (fg 37) B 41 E0 N c37_19) := x_seq (by rfl) s
noncomputable def c37_37 : Code := kR c37_16
noncomputable def r37_11 : Array Oper := kO c37_37
noncomputable def o37_11_0 : Oper := opN r37_11 0
noncomputable def o37_11_1 : Oper := opN r37_11 1
noncomputable def o37_11_2 : Oper := opN r37_11 2
theorem x37_37 : execA E C (fg 37) B 41 E0 N c37_37 s = regX (runA E C B 41 r37_11 r37_11.toList s) (fun s => gcM E0 [5, 37, 38, 39] (forget s.1 [5, 37, 38, 39], s.2)) := x_reg (ops := r37_11) (by rfl) (by rfl) s
theorem r37_11_l : r37_11.toList = [o37_11_0, o37_11_1, o37_11_2] := nrfl rfl
theorem s37_11_0 : stepA E C B 41 r37_11 o37_11_0 (φ, H) = some (fput φ 37 (fget φ 1), H) := nrfl rfl
theorem s37_11_1 : stepA E C B 41 r37_11 o37_11_1 (φ, H) = some (fput φ 38 (fget φ 5), H) := nrfl rfl
theorem s37_11_2 : stepA E C B 41 r37_11 o37_11_2 (φ, H) = callV E C (B + 41 * 8) (some 39) (fun j => B + j * 41 + 39) φ H (fget φ 37) [(fget φ 38)] true := nrfl rfl
theorem x37_16 : execA E C (fg 37) B 41 E0 N c37_16 s = seqX (execA E C (fg 37) B 41 E0 N c37_17 s) (execA E C (fg 37) B 41 E0 N c37_37) := x_seq (by rfl) s
theorem x37_14 : execA E C (fg 37) B 41 E0 N c37_14 s = seqX (execA E C (fg 37) B 41 E0 N c37_15 s) (execA E C (fg 37) B 41 E0 N c37_16) := x_seq (by rfl) s
theorem x37_12 : execA E C (fg 37) B 41 E0 N c37_12 s = seqX (execA E C (fg 37) B 41 E0 N c37_13 s) (execA E C (fg 37) B 41 E0 N c37_14) := x_seq (by rfl) s
theorem x37_11 : execA E C (fg 37) B 41 E0 N c37_11 s = blockX 1 (fun s => (forget s.1 [], s.2)) (execA E C (fg 37) B 41 E0 N c37_12 s) := x_block (by rfl) (by rfl) s
noncomputable def c37_38 : Code := kR c37_10
noncomputable def r37_12 : Array Oper := kO c37_38
noncomputable def o37_12_0 : Oper := opN r37_12 0
noncomputable def o37_12_1 : Oper := opN r37_12 1
theorem x37_38 : execA E C (fg 37) B 41 E0 N c37_38 s = regX (runA E C B 41 r37_12 r37_12.toList s) (fun s => gcM E0 [40] (forget s.1 [40], s.2)) := x_reg (ops := r37_12) (by rfl) (by rfl) s
theorem r37_12_l : r37_12.toList = [o37_12_0, o37_12_1] := nrfl rfl
theorem s37_12_0 : stepA E C B 41 r37_12 o37_12_0 (φ, H) = stp (some 40) φ H (just (aBin E.T .add 3 (fget φ 11) (.int .i64 1))) := nrfl rfl
theorem s37_12_1 : stepA E C B 41 r37_12 o37_12_1 (φ, H) = some (fput φ 11 (fget φ 40), H) := nrfl rfl
theorem x37_10 : execA E C (fg 37) B 41 E0 N c37_10 s = seqX (execA E C (fg 37) B 41 E0 N c37_11 s) (execA E C (fg 37) B 41 E0 N c37_38) := x_seq (by rfl) s
theorem x37_6 : execA E C (fg 37) B 41 E0 N c37_6 s = seqX (execA E C (fg 37) B 41 E0 N c37_7 s) (execA E C (fg 37) B 41 E0 N c37_10) := x_seq (by rfl) s
theorem x37_4 : execA E C (fg 37) B 41 E0 N c37_4 s = seqX (execA E C (fg 37) B 41 E0 N c37_5 s) (execA E C (fg 37) B 41 E0 N c37_6) := x_seq (by rfl) s
theorem x37_3 : execA E C (fg 37) B 41 E0 N c37_3 s = iterA (execA E C (fg 37) B 41 E0 N c37_4) (headA E0) N s := x_loop (by rfl) s
theorem x37_2 : execA E C (fg 37) B 41 E0 N c37_2 s = blockX 0 (fun s => (forget s.1 [0, 1, 10, 11, 12], s.2)) (execA E C (fg 37) B 41 E0 N c37_3 s) := x_block (by rfl) (by rfl) s
theorem x37_0 : execA E C (fg 37) B 41 E0 N c37_0 s = seqX (execA E C (fg 37) B 41 E0 N c37_1 s) (execA E C (fg 37) B 41 E0 N c37_2) := x_seq (by rfl) s
theorem fi_37 : fInfo E 37 = some ⟨41, #[], c37_0⟩ := nrfl rfl
theorem b_37 (args : List AV) : bodyA E C fg N 37 args H B = bodyX E [] (execA E C (fg 37) B 41 H N c37_0 (frame0 args 0 [], H)) := bodyA_eq fi_37 args H
noncomputable def c45_0 : Code := kBody Proofs.Try.f45
noncomputable def c45_1 : Code := kL c45_0
noncomputable def r45_0 : Array Oper := kO c45_1
noncomputable def o45_0_0 : Oper := opN r45_0 0
noncomputable def o45_0_1 : Oper := opN r45_0 1
theorem x45_1 : execA E C (fg 45) B 16 E0 N c45_1 s = regX (runA E C B 16 r45_0 r45_0.toList s) (fun s => gcM E0 [0, 2] (forget s.1 [0, 2], s.2)) := x_reg (ops := r45_0) (by rfl) (by rfl) s
theorem r45_0_l : r45_0.toList = [o45_0_0, o45_0_1] := nrfl rfl
theorem s45_0_0 : stepA E C B 16 r45_0 o45_0_0 (φ, H) = stp (some 1) φ H (opBox (B + 1) (acells (fget φ 0))) := nrfl rfl
theorem s45_0_1 : stepA E C B 16 r45_0 o45_0_1 (φ, H) = some (fput φ 2 (.int .i64 0), H) := nrfl rfl
noncomputable def c45_2 : Code := kR c45_0
noncomputable def c45_3 : Code := kL c45_2
noncomputable def c45_4 : Code := kL c45_3
noncomputable def r45_1 : Array Oper := kO c45_4
noncomputable def o45_1_0 : Oper := opN r45_1 0
noncomputable def o45_1_1 : Oper := opN r45_1 1
noncomputable def o45_1_2 : Oper := opN r45_1 2
theorem x45_4 : execA E C (fg 45) B 16 E0 N c45_4 s = regX (runA E C B 16 r45_1 r45_1.toList s) (fun s => gcM E0 [5] (forget s.1 [5], s.2)) := x_reg (ops := r45_1) (by rfl) (by rfl) s
theorem r45_1_l : r45_1.toList = [o45_1_0, o45_1_1, o45_1_2] := nrfl rfl
theorem s45_1_0 : stepA E C B 16 r45_1 o45_1_0 (φ, H) = stp (some 5) φ H (just (aLoad E.T 22 (fget φ 1))) := nrfl rfl
theorem s45_1_1 : stepA E C B 16 r45_1 o45_1_1 (φ, H) = stp (some 6) φ H (aBuiltin E.T (B + 6) .len #[22] [(fget φ 5)]) := nrfl rfl
theorem s45_1_2 : stepA E C B 16 r45_1 o45_1_2 (φ, H) = some (fput φ 7 (.int .i64 0), H) := nrfl rfl
noncomputable def c45_5 : Code := kR c45_3
noncomputable def c45_6 : Code := kB c45_5
noncomputable def c45_7 : Code := kB c45_6
noncomputable def c45_8 : Code := kL c45_7
noncomputable def r45_2 : Array Oper := kO c45_8
noncomputable def o45_2_0 : Oper := opN r45_2 0
theorem x45_8 : execA E C (fg 45) B 16 E0 N c45_8 s = regX (runA E C B 16 r45_2 r45_2.toList s) (fun s => gcM E0 [] (forget s.1 [], s.2)) := x_reg (ops := r45_2) (by rfl) (by rfl) s
theorem r45_2_l : r45_2.toList = [o45_2_0] := nrfl rfl
theorem s45_2_0 : stepA E C B 16 r45_2 o45_2_0 (φ, H) = stp (some 8) φ H (just (aBin E.T .lss 3 (fget φ 7) (fget φ 6))) := nrfl rfl
noncomputable def c45_9 : Code := kR c45_7
noncomputable def c45_10 : Code := kL c45_9
noncomputable def c45_11 : Code := kT c45_10
theorem x45_11 : execA E C (fg 45) B 16 E0 N c45_11 s = some (.normal, s) := x_skip (by rfl) s
noncomputable def c45_12 : Code := kE c45_10
theorem x45_12 : execA E C (fg 45) B 16 E0 N c45_12 s = some (.exit 0, s) := x_exit (by rfl) s
theorem x45_10 : execA E C (fg 45) B 16 E0 N c45_10 (φ, H) = condX (fget φ 8) (execA E C (fg 45) B 16 E0 N c45_11 (φ, H)) (execA E C (fg 45) B 16 E0 N c45_12 (φ, H)) := x_cond (by rfl) _
noncomputable def c45_13 : Code := kR c45_9
noncomputable def c45_14 : Code := kL c45_13
noncomputable def c45_15 : Code := kB c45_14
noncomputable def c45_16 : Code := kL c45_15
noncomputable def r45_3 : Array Oper := kO c45_16
noncomputable def o45_3_0 : Oper := opN r45_3 0
noncomputable def o45_3_1 : Oper := opN r45_3 1
noncomputable def o45_3_2 : Oper := opN r45_3 2
theorem x45_16 : execA E C (fg 45) B 16 E0 N c45_16 s = regX (runA E C B 16 r45_3 r45_3.toList s) (fun s => gcM E0 [8, 9] (forget s.1 [8, 9], s.2)) := x_reg (ops := r45_3) (by rfl) (by rfl) s
theorem r45_3_l : r45_3.toList = [o45_3_0, o45_3_1, o45_3_2] := nrfl rfl
theorem s45_3_0 : stepA E C B 16 r45_3 o45_3_0 (φ, H) = some (fput φ 9 (fget φ 7), H) := nrfl rfl
theorem s45_3_1 : stepA E C B 16 r45_3 o45_3_1 (φ, H) = stp (some 3) φ H (opBox (B + 3) (zeroCells E.T 3)) := nrfl rfl
theorem s45_3_2 : stepA E C B 16 r45_3 o45_3_2 (φ, H) = stp none φ H (opStore E.T 3 (fget φ 3) (fget φ 9)) := nrfl rfl
noncomputable def c45_17 : Code := kR c45_15
noncomputable def c45_18 : Code := kL c45_17
noncomputable def r45_4 : Array Oper := kO c45_18
noncomputable def o45_4_0 : Oper := opN r45_4 0
noncomputable def o45_4_1 : Oper := opN r45_4 1
theorem x45_18 : execA E C (fg 45) B 16 E0 N c45_18 s = regX (runA E C B 16 r45_4 r45_4.toList s) (fun s => gcM E0 [] (forget s.1 [], s.2)) := x_reg (ops := r45_4) (by rfl) (by rfl) s
theorem r45_4_l : r45_4.toList = [o45_4_0, o45_4_1] := nrfl rfl
theorem s45_4_0 : stepA E C B 16 r45_4 o45_4_0 (φ, H) = stp (some 4) φ H (opBox (B + 4) (zeroCells E.T 4)) := nrfl rfl
theorem s45_4_1 : stepA E C B 16 r45_4 o45_4_1 (φ, H) = stp none φ H (opStore E.T 4 (fget φ 4) (.bool false)) := nrfl rfl
noncomputable def c45_19 : Code := kR c45_17
noncomputable def c45_20 : Code := kL c45_19
noncomputable def r45_5 : Array Oper := kO c45_20
noncomputable def o45_5_0 : Oper := opN r45_5 0
noncomputable def o45_5_1 : Oper := opN r45_5 1
noncomputable def o45_5_2 : Oper := opN r45_5 2
theorem x45_20 : execA E C (fg 45) B 16 E0 N c45_20 s = regX (runA E C B 16 r45_5 r45_5.toList s) (fun s => gcM E0 [10, 11, 12] (forget s.1 [10, 11, 12], s.2)) := x_reg (ops := r45_5) (by rfl) (by rfl) s
theorem r45_5_l : r45_5.toList = [o45_5_0, o45_5_1, o45_5_2] := nrfl rfl
theorem s45_5_0 : stepA E C B 16 r45_5 o45_5_0 (φ, H) = stp (some 10) φ H (just (aLoad E.T 22 (fget φ 1))) := nrfl rfl
theorem s45_5_1 : stepA E C B 16 r45_5 o45_5_1 (φ, H) = stp (some 11) φ H (.pure (.clo 85 [(fget φ 1), (fget φ 3), (fget φ 4)], [])) := nrfl rfl
theorem s45_5_2 : stepA E C B 16 r45_5 o45_5_2 (φ, H) = mutX (some 12) φ (C 37 [(fget φ 10), (fget φ 11)] H (B + 16 * 8)) := nrfl rfl
noncomputable def c45_21 : Code := kR c45_19
noncomputable def c45_22 : Code := kL c45_21
noncomputable def r45_6 : Array Oper := kO c45_22
noncomputable def o45_6_0 : Oper := opN r45_6 0
theorem x45_22 : execA E C (fg 45) B 16 E0 N c45_22 s = regX (runA E C B 16 r45_6 r45_6.toList s) (fun s => gcM E0 [4] (forget s.1 [4], s.2)) := x_reg (ops := r45_6) (by rfl) (by rfl) s
theorem r45_6_l : r45_6.toList = [o45_6_0] := nrfl rfl
theorem s45_6_0 : stepA E C B 16 r45_6 o45_6_0 (φ, H) = stp (some 13) φ H (just (aLoad E.T 4 (fget φ 4))) := nrfl rfl
noncomputable def c45_23 : Code := kR c45_21
noncomputable def c45_24 : Code := kT c45_23
noncomputable def c45_25 : Code := kL c45_24
noncomputable def r45_7 : Array Oper := kO c45_25
noncomputable def o45_7_0 : Oper := opN r45_7 0
noncomputable def o45_7_1 : Oper := opN r45_7 1
theorem x45_25 : execA E C (fg 45) B 16 E0 N c45_25 s = regX (runA E C B 16 r45_7 r45_7.toList s) (fun s => gcM E0 [1, 3, 6, 7, 13, 14] (forget s.1 [1, 3, 6, 7, 13, 14], s.2)) := x_reg (ops := r45_7) (by rfl) (by rfl) s
theorem r45_7_l : r45_7.toList = [o45_7_0, o45_7_1] := nrfl rfl
theorem s45_7_0 : stepA E C B 16 r45_7 o45_7_0 (φ, H) = stp (some 14) φ H (just (aLoad E.T 3 (fget φ 3))) := nrfl rfl
theorem s45_7_1 : stepA E C B 16 r45_7 o45_7_1 (φ, H) = some (fput φ 2 (fget φ 14), H) := nrfl rfl
noncomputable def c45_26 : Code := kR c45_24
theorem x45_26 : execA E C (fg 45) B 16 E0 N c45_26 s = some (.ret, s) := x_ret (by rfl) s
theorem x45_24 : execA E C (fg 45) B 16 E0 N c45_24 s = seqX (execA E C (fg 45) B 16 E0 N c45_25 s) (execA E C (fg 45) B 16 E0 N c45_26) := x_seq (by rfl) s
noncomputable def c45_27 : Code := kE c45_23
theorem x45_27 : execA E C (fg 45) B 16 E0 N c45_27 s = some (.normal, s) := x_skip (by rfl) s
theorem x45_23 : execA E C (fg 45) B 16 E0 N c45_23 (φ, H) = condX (fget φ 13) (execA E C (fg 45) B 16 E0 N c45_24 (φ, H)) (execA E C (fg 45) B 16 E0 N c45_27 (φ, H)) := x_cond (by rfl) _
theorem x45_21 : execA E C (fg 45) B 16 E0 N c45_21 s = seqX (execA E C (fg 45) B 16 E0 N c45_22 s) (execA E C (fg 45) B 16 E0 N c45_23) := x_seq (by rfl) s
theorem x45_19 : execA E C (fg 45) B 16 E0 N c45_19 s = seqX (execA E C (fg 45) B 16 E0 N c45_20 s) (execA E C (fg 45) B 16 E0 N c45_21) := x_seq (by rfl) s
theorem x45_17 : execA E C (fg 45) B 16 E0 N c45_17 s = seqX (execA E C (fg 45) B 16 E0 N c45_18 s) (execA E C (fg 45) B 16 E0 N c45_19) := x_seq (by rfl) s
theorem x45_15 : execA E C (fg 45) B 16 E0 N c45_15 s = seqX (execA E C (fg 45) B 16 E0 N c45_16 s) (execA E C (fg 45) B 16 E0 N c45_17) := x_seq (by rfl) s
theorem x45_14 : execA E C (fg 45) B 16 E0 N c45_14 s = blockX 1 (fun s => (forget s.1 [3, 13], s.2)) (execA E C (fg 45) B 16 E0 N c45_15 s) := x_block (by rfl) (by rfl) s
noncomputable def c45_28 : Code := kR c45_13
noncomputable def r45_8 : Array Oper := kO c45_28
noncomputable def o45_8_0 : Oper := opN r45_8 0
noncomputable def o45_8_1 : Oper := opN r45_8 1
theorem x45_28 : execA E C (fg 45) B 16 E0 N c45_28 s = regX (runA E C B 16 r45_8 r45_8.toList s) (fun s => gcM E0 [15] (forget s.1 [15], s.2)) := x_reg (ops := r45_8) (by rfl) (by rfl) s
theorem r45_8_l : r45_8.toList = [o45_8_0, o45_8_1] := nrfl rfl
theorem s45_8_0 : stepA E C B 16 r45_8 o45_8_0 (φ, H) = stp (some 15) φ H (just (aBin E.T .add 3 (fget φ 7) (.int .i64 1))) := nrfl rfl
theorem s45_8_1 : stepA E C B 16 r45_8 o45_8_1 (φ, H) = some (fput φ 7 (fget φ 15), H) := nrfl rfl
theorem x45_13 : execA E C (fg 45) B 16 E0 N c45_13 s = seqX (execA E C (fg 45) B 16 E0 N c45_14 s) (execA E C (fg 45) B 16 E0 N c45_28) := x_seq (by rfl) s
theorem x45_9 : execA E C (fg 45) B 16 E0 N c45_9 s = seqX (execA E C (fg 45) B 16 E0 N c45_10 s) (execA E C (fg 45) B 16 E0 N c45_13) := x_seq (by rfl) s
theorem x45_7 : execA E C (fg 45) B 16 E0 N c45_7 s = seqX (execA E C (fg 45) B 16 E0 N c45_8 s) (execA E C (fg 45) B 16 E0 N c45_9) := x_seq (by rfl) s
theorem x45_6 : execA E C (fg 45) B 16 E0 N c45_6 s = iterA (execA E C (fg 45) B 16 E0 N c45_7) (headA E0) N s := x_loop (by rfl) s
theorem x45_5 : execA E C (fg 45) B 16 E0 N c45_5 s = blockX 0 (fun s => (forget s.1 [1, 6, 7, 8], s.2)) (execA E C (fg 45) B 16 E0 N c45_6 s) := x_block (by rfl) (by rfl) s
theorem x45_3 : execA E C (fg 45) B 16 E0 N c45_3 s = seqX (execA E C (fg 45) B 16 E0 N c45_4 s) (execA E C (fg 45) B 16 E0 N c45_5) := x_seq (by rfl) s
noncomputable def c45_29 : Code := kR c45_2
noncomputable def c45_30 : Code := kL c45_29
noncomputable def r45_9 : Array Oper := kO c45_30
noncomputable def o45_9_0 : Oper := opN r45_9 0
theorem x45_30 : execA E C (fg 45) B 16 E0 N c45_30 s = regX (runA E C B 16 r45_9 r45_9.toList s) (fun s => gcM E0 [] (forget s.1 [], s.2)) := x_reg (ops := r45_9) (by rfl) (by rfl) s
theorem r45_9_l : r45_9.toList = [o45_9_0] := nrfl rfl
theorem s45_9_0 : stepA E C B 16 r45_9 o45_9_0 (φ, H) = some (fput φ 2 (.int .i64 (-1)), H) := nrfl rfl
noncomputable def c45_31 : Code := kR c45_29
theorem x45_31 : execA E C (fg 45) B 16 E0 N c45_31 s = some (.ret, s) := x_ret (by rfl) s
theorem x45_29 : execA E C (fg 45) B 16 E0 N c45_29 s = seqX (execA E C (fg 45) B 16 E0 N c45_30 s) (execA E C (fg 45) B 16 E0 N c45_31) := x_seq (by rfl) s
theorem x45_2 : execA E C (fg 45) B 16 E0 N c45_2 s = seqX (execA E C (fg 45) B 16 E0 N c45_3 s) (execA E C (fg 45) B 16 E0 N c45_29) := x_seq (by rfl) s
theorem x45_0 : execA E C (fg 45) B 16 E0 N c45_0 s = seqX (execA E C (fg 45) B 16 E0 N c45_1 s) (execA E C (fg 45) B 16 E0 N c45_2) := x_seq (by rfl) s
theorem fi_45 : fInfo E 45 = some ⟨16, #[.tmp 2], c45_0⟩ := nrfl rfl
theorem b_45 (args : List AV) : bodyA E C fg N 45 args H B = bodyX E [.tmp 2] (execA E C (fg 45) B 16 H N c45_0 (frame0 args 0 [], H)) := bodyA_eq fi_45 args H
noncomputable def c85_0 : Code := kBody Proofs.Try.f85
noncomputable def c85_1 : Code := kL c85_0
noncomputable def r85_0 : Array Oper := kO c85_1
noncomputable def o85_0_0 : Oper := opN r85_0 0
noncomputable def o85_0_1 : Oper := opN r85_0 1
noncomputable def o85_0_2 : Oper := opN r85_0 2
noncomputable def o85_0_3 : Oper := opN r85_0 3
noncomputable def o85_0_4 : Oper := opN r85_0 4
noncomputable def o85_0_5 : Oper := opN r85_0 5
noncomputable def o85_0_6 : Oper := opN r85_0 6
noncomputable def o85_0_7 : Oper := opN r85_0 7
noncomputable def o85_0_8 : Oper := opN r85_0 8
theorem x85_1 : execA E C (fg 85) B 23 E0 N c85_1 s = regX (runA E C B 23 r85_0 r85_0.toList s) (fun s => gcM E0 [0, 1, 2, 7, 8, 9, 10, 11, 12, 13] (forget s.1 [0, 1, 2, 7, 8, 9, 10, 11, 12, 13], s.2)) := x_reg (ops := r85_0) (by rfl) (by rfl) s
theorem r85_0_l : r85_0.toList = [o85_0_0, o85_0_1, o85_0_2, o85_0_3, o85_0_4, o85_0_5, o85_0_6, o85_0_7, o85_0_8] := nrfl rfl
theorem s85_0_0 : stepA E C B 23 r85_0 o85_0_0 (φ, H) = stp (some 8) φ H (just (aLoad E.T 22 (fget φ 1))) := nrfl rfl
theorem s85_0_1 : stepA E C B 23 r85_0 o85_0_1 (φ, H) = some (fput φ 9 (fget φ 0), H) := nrfl rfl
theorem s85_0_2 : stepA E C B 23 r85_0 o85_0_2 (φ, H) = stp (some 10) φ H (just (aLoad E.T 3 (fget φ 2))) := nrfl rfl
theorem s85_0_3 : stepA E C B 23 r85_0 o85_0_3 (φ, H) = stp (some 11) φ H (aCall C (fun j => B + j * 23 + 11) true 86 [(fget φ 8), (fget φ 9), (fget φ 10)]) := nrfl rfl
theorem s85_0_4 : stepA E C B 23 r85_0 o85_0_4 (φ, H) = some (fput φ 7 (fget φ 11), H) := nrfl rfl
theorem s85_0_5 : stepA E C B 23 r85_0 o85_0_5 (φ, H) = stp (some 12) φ H (opExtract (fget φ 7) 0) := nrfl rfl
theorem s85_0_6 : stepA E C B 23 r85_0 o85_0_6 (φ, H) = stp (some 13) φ H (opExtract (fget φ 7) 1) := nrfl rfl
theorem s85_0_7 : stepA E C B 23 r85_0 o85_0_7 (φ, H) = some (fput φ 5 (fget φ 12), H) := nrfl rfl
theorem s85_0_8 : stepA E C B 23 r85_0 o85_0_8 (φ, H) = some (fput φ 6 (fget φ 13), H) := nrfl rfl
noncomputable def c85_2 : Code := kR c85_0
noncomputable def r85_1 : Array Oper := kO c85_2
noncomputable def o85_1_0 : Oper := opN r85_1 0
noncomputable def o85_1_1 : Oper := opN r85_1 1
noncomputable def o85_1_2 : Oper := opN r85_1 2
noncomputable def o85_1_3 : Oper := opN r85_1 3
noncomputable def o85_1_4 : Oper := opN r85_1 4
noncomputable def o85_1_5 : Oper := opN r85_1 5
noncomputable def o85_1_6 : Oper := opN r85_1 6
noncomputable def o85_1_7 : Oper := opN r85_1 7
noncomputable def o85_1_8 : Oper := opN r85_1 8
noncomputable def o85_1_9 : Oper := opN r85_1 9
theorem x85_2 : execA E C (fg 85) B 23 E0 N c85_2 s = regX (runA E C B 23 r85_1 r85_1.toList s) (fun s => gcM E0 [3, 5, 6, 14, 15, 16, 17, 18, 19, 20, 21, 22] (forget s.1 [3, 5, 6, 14, 15, 16, 17, 18, 19, 20, 21, 22], s.2)) := x_reg (ops := r85_1) (by rfl) (by rfl) s
theorem r85_1_l : r85_1.toList = [o85_1_0, o85_1_1, o85_1_2, o85_1_3, o85_1_4, o85_1_5, o85_1_6, o85_1_7, o85_1_8, o85_1_9] := nrfl rfl
theorem s85_1_0 : stepA E C B 23 r85_1 o85_1_0 (φ, H) = stp (some 14) φ H (just (aLoad E.T 4 (fget φ 3))) := nrfl rfl
theorem s85_1_1 : stepA E C B 23 r85_1 o85_1_1 (φ, H) = some (fput φ 15 (fget φ 14), H) := nrfl rfl
theorem s85_1_2 : stepA E C B 23 r85_1 o85_1_2 (φ, H) = gd φ 15 false (fun φ => some (fput φ 16 (.tup []), H)) (fun φ => some (fput φ 16 (fget φ 5), H)) := s_gd (j := 1) (oj := o85_1_1) rfl rfl rfl (fun _ => rfl) (fun _ => rfl)
theorem s85_1_3 : stepA E C B 23 r85_1 o85_1_3 (φ, H) = gd φ 15 false (fun φ => some (fput φ 17 (.tup []), H)) (fun φ => stp (some 17) φ H (just (aBin E.T .gtr 3 (fget φ 16) (.int .i64 0)))) := s_gd (j := 1) (oj := o85_1_1) rfl rfl rfl (fun _ => rfl) (fun _ => rfl)
theorem s85_1_4 : stepA E C B 23 r85_1 o85_1_4 (φ, H) = stp (some 18) φ H (opPick (fget φ 15) (.bool true) (fget φ 17)) := nrfl rfl
theorem s85_1_5 : stepA E C B 23 r85_1 o85_1_5 (φ, H) = some (fput φ 19 (fget φ 18), H) := nrfl rfl
theorem s85_1_6 : stepA E C B 23 r85_1 o85_1_6 (φ, H) = gd φ 19 false (fun φ => some (fput φ 20 (.tup []), H)) (fun φ => some (fput φ 20 (fget φ 6), H)) := s_gd (j := 5) (oj := o85_1_5) rfl rfl rfl (fun _ => rfl) (fun _ => rfl)
theorem s85_1_7 : stepA E C B 23 r85_1 o85_1_7 (φ, H) = gd φ 19 false (fun φ => some (fput φ 21 (.tup []), H)) (fun φ => stp (some 21) φ H (just (aBin E.T .gtr 3 (fget φ 20) (.int .i64 0)))) := s_gd (j := 5) (oj := o85_1_5) rfl rfl rfl (fun _ => rfl) (fun _ => rfl)
theorem s85_1_8 : stepA E C B 23 r85_1 o85_1_8 (φ, H) = stp (some 22) φ H (opPick (fget φ 19) (.bool true) (fget φ 21)) := nrfl rfl
theorem s85_1_9 : stepA E C B 23 r85_1 o85_1_9 (φ, H) = stp none φ H (opStore E.T 4 (fget φ 3) (fget φ 22)) := nrfl rfl
theorem x85_0 : execA E C (fg 85) B 23 E0 N c85_0 s = seqX (execA E C (fg 85) B 23 E0 N c85_1 s) (execA E C (fg 85) B 23 E0 N c85_2) := x_seq (by rfl) s
theorem fi_85 : fInfo E 85 = some ⟨23, #[], c85_0⟩ := nrfl rfl
theorem b_85 (args : List AV) : bodyA E C fg N 85 args H B = bodyX E [] (execA E C (fg 85) B 23 H N c85_0 (frame0 args 0 [], H)) := bodyA_eq fi_85 args H
end Go.AM.Ytmhbnflnlglljaa
end

section
namespace Go.AM.Ytmhbnflnlglljaa
open Go Go.AM
set_option maxRecDepth 100000
set_option maxHeartbeats 4000000
def bitI (set i : Nat) : Int := if set.testBit i = true then 1 else 0
theorem bit_and : ∀ set : Nat, set < 32 → ∀ i : Nat, i < 5 → bk .i64 (bt .i64 ((set : Int).fdiv (pw2 (min i 64))) &&& bt .i64 1) = .int .i64 (bitI set i) := by
  intro set hs i hi
  have key : ∀ (set : Fin 32) (i : Fin 5), bk .i64 (bt .i64 (((set : Nat) : Int).fdiv (pw2 (min (i : Nat) 64))) &&& bt .i64 1) = .int .i64 (bitI set i) := by
    intro set i
    simp only [bk, AV.int.injEq, true_and]
    revert set i
    decide +kernel
  exact key ⟨set, hs⟩ ⟨i, hi⟩
def cw (l : List Stone) (set i : Nat) : Int := if set.testBit i = true then (l.getD i default).most else (l.getD i default).least
def cwI (l : List Stone) (set i : Nat) : List Int := (List.range i).map (cw l set)
theorem cwI_length (l set i) : (cwI l set i).length = i := by simp [cwI]
theorem cwI_succ (l set i) : cwI l set (i + 1) = cwI l set i ++ [cw l set i] := by simp [cwI, List.range_succ]
theorem cwI_at {l : List Stone} {set n i : Nat} (h : i < n) : (cwI l set n)[i]? = some (cw l set i) := by simp [cwI, h]
theorem cw_weigh {l : List Stone} (h : OkP l) (set : Nat) : weighE l (cwI l set l.length) = 0 := by
  have hz : ∀ {l : List Stone} {ws : List Int}, (∀ (i : Nat) (s : Stone) (w : Int), l[i]? = some s → ws[i]? = some w → s.least ≤ w ∧ w ≤ s.most) → weighL l ws = 0 := by
    intro l
    induction l with
    | nil => intro ws _; unfold weighL; rfl
    | cons s l ih =>
      intro ws hh
      cases ws with
      | nil => unfold weighL; rfl
      | cons w ws =>
        have h0 := hh 0 s w rfl rfl
        simp only [weighL]
        rw [if_neg (by omega), if_neg (by omega)]
        exact ih fun i s w h1 h2 => hh (i + 1) s w (by simpa using h1) (by simpa using h2)
  unfold weighE
  rw [if_pos (by rw [cwI_length])]
  refine hz fun i s w h1 h2 => ?_
  have hi := at_lt h1
  rw [cwI_at hi] at h2
  obtain rfl := Option.some.inj h2
  obtain ⟨_, _, _, _, l1, lm, m9⟩ := h.fits i s h1
  simp only [cw, List.getD_eq_getElem?_getD, h1, Option.getD_some]
  split <;> omega
/-- Where the first weight's list lies. -/
def cid (set : Nat) : Nat := if set.testBit 0 = true then 158 else 163
abbrev wkH (l : List Stone) (ex : Bool) (k : Nat) (b : Bool) : AHeap := [(1, ⟨.box, [.imm (pcells l) l.length ex]⟩), (3, ⟨.box, [.int .i64 k]⟩), (4, ⟨.box, [.bool b]⟩)]
theorem wk_round {C : Callee} {l : List Stone} {ex : Bool} (h : OkP l) (k : Nat) (b b0 : Bool) (set n2 : Nat) (hset : set < 32) (i : Nat) (hi : i < l.length) (out : List Int) (ho : out.length = i) :
    ∃ s', execA E C (fg 37) 128 41 (wkH l ex k b0) 1000 c37_21 ([(16, .int .i64 i), (15, .int .i64 l.length), (14, .imm (pcells l) l.length ex), (11, .int .i64 set), (10, .int .i64 n2), (5, outV (cid set) out), (4, .int .i64 set), (1, .clo 85 [.ptr 1 0 1, .ptr 3 0 1, .ptr 4 0 1]), (0, .imm (pcells l) l.length ex)], wkH l ex k b ++ outH (cid set) out) = some (.normal, s') ∧
      headA (wkH l ex k b0) s' = ([(16, .int .i64 (i + 1 : Nat)), (15, .int .i64 l.length), (14, .imm (pcells l) l.length ex), (11, .int .i64 set), (10, .int .i64 n2), (5, outV (cid set) (out ++ [cw l set i])), (4, .int .i64 set), (1, .clo 85 [.ptr 1 0 1, .ptr 3 0 1, .ptr 4 0 1]), (0, .imm (pcells l) l.length ex)], wkH l ex k b ++ outH (cid set) (out ++ [cw l set i])) := by
  obtain ⟨s, hs⟩ := at_ex hi
  have hle := h.le
  have hs' : l.getD i default = s := by simp [hs]
  have hba := bit_and set hset i (by omega)
  have hbits : IntKind.i64.bits = 64 := rfl
  have hin : ¬ (i : Int) < 0 := by omega
  have e : cw l set i = if set.testBit i = true then s.most else s.least := by rw [cw, hs']
  rw [e]
  cases out with
  | nil =>
    have h0 : i = 0 := by simpa using ho.symm
    simp only [outV, outH, List.nil_append, List.append_nil]
    by_cases hb : set.testBit i = true
    · have hbi : bitI set i = 1 := by rw [bitI, if_pos hb]
      rw [hbi] at hba
      have hc : cid set = 158 := by rw [cid, ← h0, if_pos hb]
      rw [if_pos hb, hc]
      simp only [seqX_normal, bindR_some, regX_some, condX_bool, blockX_normal, run_nil, run_cons, fget_cons', fput_cons', forget_nil, forget_cons', hget_nil', hget_cons', hset_nil', hset_cons', gcM_n, gcM_c, stp, opBox, just, Rd.bind, Rd.run, Rd.opt, upds, acells, zeroCells, tsz, elemT, rdCells, fieldOf, aFieldAddr, aLoad, aStore, opStore, fresh, aIndexAddr, aNum, aBuiltin, aBin, aInt, putC, evO, Nat.reduceAdd, Nat.reduceLT, Nat.reduceGT, Nat.reduceBEq, Nat.reduceEqDiff, Nat.reduceLeDiff, ↓reduceIte, reduceCtorEq, liveBlk_eq, Nat.zero_add, ne_eq, List.nil_append, List.getElem?_toArray, decide_true, not_true_eq_false, or_self, aBuildSlice, partsOf, fillA, repC, frz, isSliceT, aAppend, srcOf, window, putD_some, putD_none, and_true, Int.natCast_nonneg, Int.ofNat_lt, Int.toNat_natCast, snaps, snap, List.append_nil, List.elem_cons, List.elem_nil, List.length_cons, List.length_nil, List.getElem?_cons_zero, List.getElem?_cons_succ, List.drop_zero, List.take_succ_cons, List.take_nil, List.set_cons_zero, List.set_cons_succ, T_3, T_22, T_45, T_47, x37_22, r37_5_l, s37_5_0, x37_25, x37_26, x37_24, x37_30, r37_6_l, s37_6_0, s37_6_1, s37_6_2, s37_6_3, s37_6_4, s37_6_5, x37_32, r37_7_l, s37_7_0, s37_7_1, s37_7_2, s37_7_3, s37_7_4, x37_34, r37_8_l, s37_8_0, s37_8_1, s37_8_2, s37_8_3, s37_8_4, s37_8_5, x37_35, r37_9_l, s37_9_0, s37_9_1, s37_9_2, s37_9_3, s37_9_4, s37_9_5, x37_33, x37_31, x37_29, x37_28, x37_36, r37_10_l, s37_10_0, s37_10_1, x37_27, x37_23, x37_21, wkH, hi, pcells_length, pcells_at l i s hs, sc, pcells_off l i hi, aShift, hbits, hba, hin, Nat.mul_one, wrp_succ (show i < 1000000 by omega), fillA, beq_self_eq_true, room3 (show 1 ≤ 1000000 by omega), List.cons_append]
      exact ⟨_, rfl, rfl⟩
    · have hbi : bitI set i = 0 := by rw [bitI, if_neg hb]
      rw [hbi] at hba
      have hc : cid set = 163 := by rw [cid, ← h0, if_neg hb]
      rw [if_neg hb, hc]
      simp only [seqX_normal, bindR_some, regX_some, condX_bool, blockX_normal, run_nil, run_cons, fget_cons', fput_cons', forget_nil, forget_cons', hget_nil', hget_cons', hset_nil', hset_cons', gcM_n, gcM_c, stp, opBox, just, Rd.bind, Rd.run, Rd.opt, upds, acells, zeroCells, tsz, elemT, rdCells, fieldOf, aFieldAddr, aLoad, aStore, opStore, fresh, aIndexAddr, aNum, aBuiltin, aBin, aInt, putC, evO, Nat.reduceAdd, Nat.reduceLT, Nat.reduceGT, Nat.reduceBEq, Nat.reduceEqDiff, Nat.reduceLeDiff, ↓reduceIte, reduceCtorEq, liveBlk_eq, Nat.zero_add, ne_eq, List.nil_append, List.getElem?_toArray, decide_true, not_true_eq_false, or_self, aBuildSlice, partsOf, fillA, repC, frz, isSliceT, aAppend, srcOf, window, putD_some, putD_none, and_true, Int.natCast_nonneg, Int.ofNat_lt, Int.toNat_natCast, snaps, snap, List.append_nil, List.elem_cons, List.elem_nil, List.length_cons, List.length_nil, List.getElem?_cons_zero, List.getElem?_cons_succ, List.drop_zero, List.take_succ_cons, List.take_nil, List.set_cons_zero, List.set_cons_succ, T_3, T_22, T_45, T_47, x37_22, r37_5_l, s37_5_0, x37_25, x37_26, x37_24, x37_30, r37_6_l, s37_6_0, s37_6_1, s37_6_2, s37_6_3, s37_6_4, s37_6_5, x37_32, r37_7_l, s37_7_0, s37_7_1, s37_7_2, s37_7_3, s37_7_4, x37_34, r37_8_l, s37_8_0, s37_8_1, s37_8_2, s37_8_3, s37_8_4, s37_8_5, x37_35, r37_9_l, s37_9_0, s37_9_1, s37_9_2, s37_9_3, s37_9_4, s37_9_5, x37_33, x37_31, x37_29, x37_28, x37_36, r37_10_l, s37_10_0, s37_10_1, x37_27, x37_23, x37_21, wkH, hi, pcells_length, pcells_at l i s hs, sc, pcells_off l i hi, aShift, hbits, hba, hin, Nat.mul_one, wrp_succ (show i < 1000000 by omega), fillA, beq_self_eq_true, Int.reduceBEq, room3 (show 1 ≤ 1000000 by omega), List.cons_append]
      exact ⟨_, rfl, rfl⟩
  | cons a o =>
    have hlen : (icells (a :: o)).length = o.length + 1 := by simp [icells]
    have hno : ¬ o.length + 1 + 1 ≤ o.length + 1 := by omega
    have ho2 : o.length + 1 = i := by simpa using ho
    have hl2 : ∀ z : Int, (o ++ [z]).length = o.length + 1 := fun z => by simp
    have hcid : cid set = 158 ∨ cid set = 163 := by unfold cid; split <;> simp
    simp only [outV, outH, List.cons_append, hl2]
    by_cases hb : set.testBit i = true
    · have hbi : bitI set i = 1 := by rw [bitI, if_pos hb]
      rw [hbi] at hba
      rw [if_pos hb]
      rcases hcid with hc | hc <;> rw [hc]
      · simp only [seqX_normal, bindR_some, regX_some, condX_bool, blockX_normal, run_nil, run_cons, fget_cons', fput_cons', forget_nil, forget_cons', hget_nil', hget_cons', hset_nil', hset_cons', gcM_n, gcM_c, stp, opBox, just, Rd.bind, Rd.run, Rd.opt, upds, acells, zeroCells, tsz, elemT, rdCells, fieldOf, aFieldAddr, aLoad, aStore, opStore, fresh, aIndexAddr, aNum, aBuiltin, aBin, aInt, putC, evO, Nat.reduceAdd, Nat.reduceLT, Nat.reduceGT, Nat.reduceBEq, Nat.reduceEqDiff, Nat.reduceLeDiff, ↓reduceIte, reduceCtorEq, liveBlk_eq, Nat.zero_add, ne_eq, List.nil_append, List.getElem?_toArray, decide_true, not_true_eq_false, or_self, aBuildSlice, partsOf, fillA, repC, frz, isSliceT, aAppend, srcOf, window, putD_some, putD_none, and_true, Int.natCast_nonneg, Int.ofNat_lt, Int.toNat_natCast, snaps, snap, List.append_nil, List.elem_cons, List.elem_nil, List.length_cons, List.length_nil, List.getElem?_cons_zero, List.getElem?_cons_succ, List.drop_zero, List.take_succ_cons, List.take_nil, List.set_cons_zero, List.set_cons_succ, T_3, T_22, T_45, T_47, x37_22, r37_5_l, s37_5_0, x37_25, x37_26, x37_24, x37_30, r37_6_l, s37_6_0, s37_6_1, s37_6_2, s37_6_3, s37_6_4, s37_6_5, x37_32, r37_7_l, s37_7_0, s37_7_1, s37_7_2, s37_7_3, s37_7_4, x37_34, r37_8_l, s37_8_0, s37_8_1, s37_8_2, s37_8_3, s37_8_4, s37_8_5, x37_35, r37_9_l, s37_9_0, s37_9_1, s37_9_2, s37_9_3, s37_9_4, s37_9_5, x37_33, x37_31, x37_29, x37_28, x37_36, r37_10_l, s37_10_0, s37_10_1, x37_27, x37_23, x37_21, wkH, hi, pcells_length, pcells_at l i s hs, sc, pcells_off l i hi, aShift, hbits, hba, hin, Nat.mul_one, wrp_succ (show i < 1000000 by omega), fillA, beq_self_eq_true, room3 (show o.length + 1 + 1 ≤ 1000000 by omega), hlen, hno, take_icells, icells_snoc, Nat.le_refl, List.cons_append]
        exact ⟨_, rfl, rfl⟩
      · simp only [seqX_normal, bindR_some, regX_some, condX_bool, blockX_normal, run_nil, run_cons, fget_cons', fput_cons', forget_nil, forget_cons', hget_nil', hget_cons', hset_cons', gcM_n, gcM_c, stp, opBox, just, Rd.bind, Rd.run, Rd.opt, upds, acells, zeroCells, tsz, elemT, rdCells, fieldOf, aFieldAddr, aLoad, aStore, opStore, fresh, aIndexAddr, aNum, aBuiltin, aBin, aInt, putC, evO, Nat.reduceAdd, Nat.reduceLT, Nat.reduceGT, Nat.reduceBEq, Nat.reduceEqDiff, Nat.reduceLeDiff, ↓reduceIte, reduceCtorEq, liveBlk_eq, Nat.zero_add, ne_eq, List.nil_append, List.getElem?_toArray, decide_true, not_true_eq_false, or_self, aBuildSlice, partsOf, fillA, repC, frz, isSliceT, aAppend, srcOf, window, putD_some, putD_none, and_true, Int.natCast_nonneg, Int.ofNat_lt, Int.toNat_natCast, snaps, snap, List.append_nil, List.elem_cons, List.elem_nil, List.length_cons, List.length_nil, List.getElem?_cons_zero, List.getElem?_cons_succ, List.drop_zero, List.take_succ_cons, List.take_nil, List.set_cons_zero, List.set_cons_succ, T_3, T_22, T_45, T_47, x37_22, r37_5_l, s37_5_0, x37_25, x37_26, x37_24, x37_30, r37_6_l, s37_6_0, s37_6_1, s37_6_2, s37_6_3, s37_6_4, s37_6_5, x37_32, r37_7_l, s37_7_0, s37_7_1, s37_7_2, s37_7_3, s37_7_4, x37_34, r37_8_l, s37_8_0, s37_8_1, s37_8_2, s37_8_3, s37_8_4, s37_8_5, x37_35, r37_9_l, s37_9_0, s37_9_1, s37_9_2, s37_9_3, s37_9_4, s37_9_5, x37_33, x37_31, x37_29, x37_28, x37_36, r37_10_l, s37_10_0, s37_10_1, x37_27, x37_23, x37_21, wkH, hi, pcells_length, pcells_at l i s hs, sc, pcells_off l i hi, aShift, hbits, hba, hin, Nat.mul_one, wrp_succ (show i < 1000000 by omega), fillA, beq_self_eq_true, room3 (show o.length + 1 + 1 ≤ 1000000 by omega), hlen, hno, take_icells, icells_snoc, Nat.le_refl, List.cons_append]
        exact ⟨_, rfl, rfl⟩
    · have hbi : bitI set i = 0 := by rw [bitI, if_neg hb]
      rw [hbi] at hba
      rw [if_neg hb]
      rcases hcid with hc | hc <;> rw [hc]
      · simp only [seqX_normal, bindR_some, regX_some, condX_bool, blockX_normal, run_nil, run_cons, fget_cons', fput_cons', forget_nil, forget_cons', hget_nil', hget_cons', hset_nil', hset_cons', gcM_n, gcM_c, stp, opBox, just, Rd.bind, Rd.run, Rd.opt, upds, acells, zeroCells, tsz, elemT, rdCells, fieldOf, aFieldAddr, aLoad, aStore, opStore, fresh, aIndexAddr, aNum, aBuiltin, aBin, aInt, putC, evO, Nat.reduceAdd, Nat.reduceLT, Nat.reduceGT, Nat.reduceBEq, Nat.reduceEqDiff, Nat.reduceLeDiff, ↓reduceIte, reduceCtorEq, liveBlk_eq, Nat.zero_add, ne_eq, List.nil_append, List.getElem?_toArray, decide_true, not_true_eq_false, or_self, aBuildSlice, partsOf, fillA, repC, frz, isSliceT, aAppend, srcOf, window, putD_some, putD_none, and_true, Int.natCast_nonneg, Int.ofNat_lt, Int.toNat_natCast, snaps, snap, List.append_nil, List.elem_cons, List.elem_nil, List.length_cons, List.length_nil, List.getElem?_cons_zero, List.getElem?_cons_succ, List.drop_zero, List.take_succ_cons, List.take_nil, List.set_cons_zero, List.set_cons_succ, T_3, T_22, T_45, T_47, x37_22, r37_5_l, s37_5_0, x37_25, x37_26, x37_24, x37_30, r37_6_l, s37_6_0, s37_6_1, s37_6_2, s37_6_3, s37_6_4, s37_6_5, x37_32, r37_7_l, s37_7_0, s37_7_1, s37_7_2, s37_7_3, s37_7_4, x37_34, r37_8_l, s37_8_0, s37_8_1, s37_8_2, s37_8_3, s37_8_4, s37_8_5, x37_35, r37_9_l, s37_9_0, s37_9_1, s37_9_2, s37_9_3, s37_9_4, s37_9_5, x37_33, x37_31, x37_29, x37_28, x37_36, r37_10_l, s37_10_0, s37_10_1, x37_27, x37_23, x37_21, wkH, hi, pcells_length, pcells_at l i s hs, sc, pcells_off l i hi, aShift, hbits, hba, hin, Nat.mul_one, wrp_succ (show i < 1000000 by omega), fillA, beq_self_eq_true, Int.reduceBEq, room3 (show o.length + 1 + 1 ≤ 1000000 by omega), hlen, hno, take_icells, icells_snoc, Nat.le_refl, List.cons_append]
        exact ⟨_, rfl, rfl⟩
      · simp only [seqX_normal, bindR_some, regX_some, condX_bool, blockX_normal, run_nil, run_cons, fget_cons', fput_cons', forget_nil, forget_cons', hget_nil', hget_cons', hset_cons', gcM_n, gcM_c, stp, opBox, just, Rd.bind, Rd.run, Rd.opt, upds, acells, zeroCells, tsz, elemT, rdCells, fieldOf, aFieldAddr, aLoad, aStore, opStore, fresh, aIndexAddr, aNum, aBuiltin, aBin, aInt, putC, evO, Nat.reduceAdd, Nat.reduceLT, Nat.reduceGT, Nat.reduceBEq, Nat.reduceEqDiff, Nat.reduceLeDiff, ↓reduceIte, reduceCtorEq, liveBlk_eq, Nat.zero_add, ne_eq, List.nil_append, List.getElem?_toArray, decide_true, not_true_eq_false, or_self, aBuildSlice, partsOf, fillA, repC, frz, isSliceT, aAppend, srcOf, window, putD_some, putD_none, and_true, Int.natCast_nonneg, Int.ofNat_lt, Int.toNat_natCast, snaps, snap, List.append_nil, List.elem_cons, List.elem_nil, List.length_cons, List.length_nil, List.getElem?_cons_zero, List.getElem?_cons_succ, List.drop_zero, List.take_succ_cons, List.take_nil, List.set_cons_zero, List.set_cons_succ, T_3, T_22, T_45, T_47, x37_22, r37_5_l, s37_5_0, x37_25, x37_26, x37_24, x37_30, r37_6_l, s37_6_0, s37_6_1, s37_6_2, s37_6_3, s37_6_4, s37_6_5, x37_32, r37_7_l, s37_7_0, s37_7_1, s37_7_2, s37_7_3, s37_7_4, x37_34, r37_8_l, s37_8_0, s37_8_1, s37_8_2, s37_8_3, s37_8_4, s37_8_5, x37_35, r37_9_l, s37_9_0, s37_9_1, s37_9_2, s37_9_3, s37_9_4, s37_9_5, x37_33, x37_31, x37_29, x37_28, x37_36, r37_10_l, s37_10_0, s37_10_1, x37_27, x37_23, x37_21, wkH, hi, pcells_length, pcells_at l i s hs, sc, pcells_off l i hi, aShift, hbits, hba, hin, Nat.mul_one, wrp_succ (show i < 1000000 by omega), fillA, beq_self_eq_true, Int.reduceBEq, room3 (show o.length + 1 + 1 ≤ 1000000 by omega), hlen, hno, take_icells, icells_snoc, Nat.le_refl, List.cons_append]
        exact ⟨_, rfl, rfl⟩
end Go.AM.Ytmhbnflnlglljaa
end

section
namespace Go.AM
theorem callV_mut {E : Env} {C : Callee} {f : AV} {args : List AV} {g : FuncId} {xs : List AV} (h : mutV E f args = some (g, xs)) (Bn : Nat) (d : Option Nat) (site) (φ H) (keep) : callV E C Bn d site φ H f args keep = mutX d φ (C g xs H Bn) := by
  simp only [callV, h]
end Go.AM
namespace Go.AM.Ytmhbnflnlglljaa
open Go Go.AM
set_option maxRecDepth 100000
set_option maxHeartbeats 4000000
def wkB (l : List Stone) (k : Nat) (w : List Int) : Bool := decide (momSum l w k 1 > 0) || decide (leftM l w k > 0)
def wkAcc (l : List Stone) (k : Nat) : Nat → Bool
  | 0 => false
  | s + 1 => wkAcc l k s || wkB l k (cwI l s l.length)
theorem wk_visit {d : Nat} {l : List Stone} {ex : Bool} (h : OkP l) {k : Nat} (hk : k < l.length) (b : Bool) {id : Nat} (hid : id = 158 ∨ id = 163) {w : List Int} (hw : weighE l w = 0) :
    callA E fg 1000 (d + 2) 85 [.ref id 0 l.length l.length l.length 1 false, .ptr 1 0 1, .ptr 3 0 1, .ptr 4 0 1] (wkH l ex k b ++ [(id, ⟨.row, icells w⟩)]) 456 = some (.tup [], wkH l ex k (b || wkB l k w) ++ [(id, ⟨.row, icells w⟩)]) := by
  change bodyA E (callA E fg 1000 (d + 1)) fg 1000 85 _ _ _ = _
  have hlw := weigh_len hw
  have hm := fun (site : Nat → Nat) seen => moments_call (d := d) (site := site) (seen := seen) (ex := ex) (ex' := false) h hw hk
  simp only [hlw] at hm
  have tw : List.take l.length (icells w) = icells w := List.take_of_length_le (by rw [icells_length, hlw]; exact Nat.le_refl _)
  have lw : (icells w).length = l.length := by rw [icells_length, hlw]
  by_cases hR : momSum l w k 1 > 0 <;> by_cases hL : leftM l w k > 0 <;> cases b <;> rcases hid with rfl | rfl <;>
  simp only [seqX_normal, bindR_some, regX_some, ↓gd, fset_cons, Bool.not_false, bodyX_normal, run_nil, run_cons, fget_cons', fput_cons', forget_nil, forget_cons', hget_cons', hset_cons', frame0, gcM_c, stp, opPick, justO, just, Rd.bind, Rd.run, Rd.opt, upds, acells, tsz, rdCells, aLoad, aStore, opStore, opExtract, resA, resL, aBin, aInt, putC, Nat.reduceAdd, Nat.reduceBEq, Nat.reduceEqDiff, Nat.reduceLeDiff, ↓reduceIte, reduceCtorEq, liveBlk_eq, Nat.zero_add, List.nil_append, Bool.not_false, Bool.or_true, Bool.or_false, Bool.and_true, decide_true, decide_false, frz, putD_some, putD_none, and_true, aCall, snaps, snap, List.append_nil, Option.map_some, List.elem_cons, List.elem_nil, List.length_cons, List.length_nil, List.getElem?_cons_zero, List.getElem?_cons_succ, List.drop_zero, List.set_cons_zero, T_3, T_22, T_4, x85_1, r85_0_l, s85_0_0, s85_0_1, s85_0_2, s85_0_3, s85_0_4, s85_0_5, s85_0_6, s85_0_7, s85_0_8, x85_2, r85_1_l, s85_1_0, s85_1_1, s85_1_2, s85_1_3, s85_1_4, s85_1_5, s85_1_6, s85_1_7, s85_1_8, s85_1_9, x85_0, b_85, wkH, wkB, hm, hR, hL, tw, lw, Nat.mul_one, Nat.le_refl, List.cons_append, Nat.zero_add, List.set_cons_zero]
theorem weakmut (caps args : List AV) : mutV E (.clo 85 caps) args = some (85, args ++ caps) := rfl
theorem outV_cw {l : List Stone} (h : OkP l) (set : Nat) : outV (cid set) (cwI l set l.length) = .ref (cid set) 0 l.length l.length l.length 1 false ∧ outH (cid set) (cwI l set l.length) = [(cid set, ⟨.row, icells (cwI l set l.length)⟩)] := by
  have := outV_ne (id := cid set) (l := cwI l set l.length) (by rw [cwI_length]; exact h.ne)
  rw [cwI_length] at this
  exact this
theorem wk_outer {d : Nat} {l : List Stone} {ex : Bool} (h : OkP l) {k : Nat} (hk : k < l.length) (b b0 : Bool) (n2 set : Nat) (hset : set < n2) (hn2 : n2 ≤ 32) :
    ∃ s', execA E (callA E fg 1000 (d + 2)) (fg 37) 128 41 (wkH l ex k b0) 1000 c37_4 ([(11, .int .i64 set), (10, .int .i64 n2), (1, .clo 85 [.ptr 1 0 1, .ptr 3 0 1, .ptr 4 0 1]), (0, .imm (pcells l) l.length ex)], wkH l ex k b) = some (.normal, s') ∧
      headA (wkH l ex k b0) s' = ([(11, .int .i64 (set + 1 : Nat)), (10, .int .i64 n2), (1, .clo 85 [.ptr 1 0 1, .ptr 3 0 1, .ptr 4 0 1]), (0, .imm (pcells l) l.length ex)], wkH l ex k (b || wkB l k (cwI l set l.length))) := by
  have hle := h.le
  obtain ⟨e1, e2⟩ := outV_cw h set
  have hcid : cid set = 158 ∨ cid set = 163 := by unfold cid; split <;> simp
  have hvis := wk_visit (d := d) (ex := ex) h hk b hcid (cw_weigh h set)
  have hloop := iter_all (f := execA E (callA E fg 1000 (d + 2)) (fg 37) 128 41 (wkH l ex k b0) 1000 c37_21) (hd := headA (wkH l ex k b0)) (fun i => ([(16, .int .i64 i), (15, .int .i64 l.length), (14, .imm (pcells l) l.length ex), (11, .int .i64 set), (10, .int .i64 n2), (5, outV (cid set) (cwI l set i)), (4, .int .i64 set), (1, .clo 85 [.ptr 1 0 1, .ptr 3 0 1, .ptr 4 0 1]), (0, .imm (pcells l) l.length ex)], wkH l ex k b ++ outH (cid set) (cwI l set i))) l.length 1000 0
    ([(16, .int .i64 0), (15, .int .i64 l.length), (14, .imm (pcells l) l.length ex), (11, .int .i64 set), (10, .int .i64 n2), (5, .nilsl), (4, .int .i64 set), (1, .clo 85 [.ptr 1 0 1, .ptr 3 0 1, .ptr 4 0 1]), (0, .imm (pcells l) l.length ex)], wkH l ex k b) (by rfl) (by omega) (fun i h1 h2 => by
      have := wk_round (C := callA E fg 1000 (d + 2)) (ex := ex) h k b b0 set n2 (by omega) i (by omega) (cwI l set i) (cwI_length l set i)
      rw [cwI_succ]
      exact this) (e := .exit 2) (se := ([(17, .bool false), (16, .int .i64 l.length), (15, .int .i64 l.length), (14, .imm (pcells l) l.length ex), (11, .int .i64 set), (10, .int .i64 n2), (5, .ref (cid set) 0 l.length l.length l.length 1 false), (4, .int .i64 set), (1, .clo 85 [.ptr 1 0 1, .ptr 3 0 1, .ptr 4 0 1]), (0, .imm (pcells l) l.length ex)], wkH l ex k b ++ [(cid set, ⟨.row, icells (cwI l set l.length)⟩)])) (by
      rw [Nat.zero_add]
      simp only [e1, e2]
      simp only [seqX_normal, seqX_exit, bindR_some, regX_some, condX_bool, run_nil, run_cons, fget_cons', fput_cons', forget_nil, forget_cons', gcM_n, stp, just, Rd.bind, Rd.run, Rd.opt, upds, aBin, aInt, Nat.reduceEqDiff, Nat.reduceLeDiff, ↓reduceIte, decide_false, putD_some, List.elem_nil, x37_22, r37_5_l, s37_5_0, x37_25, x37_26, x37_24, x37_23, x37_21, wkH, Int.lt_irrefl, decide_false, Bool.false_eq_true]) (by simp)
  rcases hcid with hc | hc <;> rw [hc] at hvis hloop <;> simp only [wkH, List.cons_append, List.nil_append] at hvis hloop ⊢
  · simp only [seqX_normal, bindR_some, regX_some, condX_bool, blockX_exit, blockX_normal, run_nil, run_cons, fget_cons', fput_cons', forget_nil, forget_cons', gcM_n, gcM_c, stp, just, Rd.bind, Rd.run, Rd.opt, upds, aLen, aBuiltin, aBin, aInt, Nat.reduceAdd, Nat.reduceMul, Nat.reduceBEq, Nat.reduceEqDiff, Nat.reduceLeDiff, ↓reduceIte, reduceCtorEq, List.nil_append, List.getElem?_toArray, decide_true, putD_some, Int.ofNat_lt, mutX, List.elem_cons, List.elem_nil, List.getElem?_cons_zero, T_22, x37_5, r37_1_l, s37_1_0, x37_8, x37_9, x37_7, x37_13, r37_2_l, s37_2_0, s37_2_1, x37_15, r37_3_l, s37_3_0, x37_18, r37_4_l, s37_4_0, s37_4_1, s37_4_2, x37_20, x37_19, x37_17, x37_37, r37_11_l, s37_11_0, s37_11_1, s37_11_2, x37_16, x37_14, x37_12, x37_11, x37_38, r37_12_l, s37_12_0, s37_12_1, x37_10, x37_6, x37_4, hset, hloop, callV_mut (weakmut _ _), List.cons_append, List.nil_append, hvis, wrp_succ (show set < 1000000 by omega)]
    exact ⟨_, rfl, rfl⟩
  · simp only [seqX_normal, bindR_some, regX_some, condX_bool, blockX_exit, blockX_normal, run_nil, run_cons, fget_cons', fput_cons', forget_nil, forget_cons', gcM_n, gcM_c, stp, just, Rd.bind, Rd.run, Rd.opt, upds, aLen, aBuiltin, aBin, aInt, Nat.reduceAdd, Nat.reduceMul, Nat.reduceBEq, Nat.reduceEqDiff, Nat.reduceLeDiff, ↓reduceIte, reduceCtorEq, List.nil_append, List.getElem?_toArray, decide_true, putD_some, Int.ofNat_lt, mutX, List.elem_cons, List.elem_nil, List.getElem?_cons_zero, T_22, x37_5, r37_1_l, s37_1_0, x37_8, x37_9, x37_7, x37_13, r37_2_l, s37_2_0, s37_2_1, x37_15, r37_3_l, s37_3_0, x37_18, r37_4_l, s37_4_0, s37_4_1, s37_4_2, x37_20, x37_19, x37_17, x37_37, r37_11_l, s37_11_0, s37_11_1, s37_11_2, x37_16, x37_14, x37_12, x37_11, x37_38, r37_12_l, s37_12_0, s37_12_1, x37_10, x37_6, x37_4, hset, hloop, callV_mut (weakmut _ _), List.cons_append, List.nil_append, hvis, wrp_succ (show set < 1000000 by omega)]
    exact ⟨_, rfl, rfl⟩
theorem corners_run {d : Nat} {l : List Stone} {ex : Bool} (h : OkP l) {k : Nat} (hk : k < l.length) :
    callA E fg 1000 (d + 3) 37 [.imm (pcells l) l.length ex, .clo 85 [.ptr 1 0 1, .ptr 3 0 1, .ptr 4 0 1]] (wkH l ex k false) 128 = some (.tup [], wkH l ex k (wkAcc l k (2 ^ l.length))) := by
  change bodyA E (callA E fg 1000 (d + 2)) fg 1000 37 _ _ _ = _
  have hle := h.le
  have h32 : 2 ^ l.length ≤ 32 := by
    have : 2 ^ l.length ≤ 2 ^ 5 := Nat.pow_le_pow_right (by omega) hle
    simpa using this
  have hsh : wrp .i64 (1 * pw2 (min l.length 64)) = ((2 ^ l.length : Nat) : Int) := by
    rw [show min l.length 64 = l.length by omega, pw2, Int.one_mul]
    generalize 2 ^ l.length = N at h32 ⊢
    exact wrp64 (by omega)
  have hbits : IntKind.i64.bits = 64 := rfl
  have hln : ¬ (l.length : Int) < 0 := by omega
  have hloop := iter_all (f := execA E (callA E fg 1000 (d + 2)) (fg 37) 128 41 (wkH l ex k false) 1000 c37_4) (hd := headA (wkH l ex k false)) (fun s => ([(11, .int .i64 s), (10, .int .i64 (2 ^ l.length : Nat)), (1, .clo 85 [.ptr 1 0 1, .ptr 3 0 1, .ptr 4 0 1]), (0, .imm (pcells l) l.length ex)], wkH l ex k (wkAcc l k s))) (2 ^ l.length) 1000 0
    ([(11, .int .i64 0), (10, .int .i64 (2 ^ l.length : Nat)), (1, .clo 85 [.ptr 1 0 1, .ptr 3 0 1, .ptr 4 0 1]), (0, .imm (pcells l) l.length ex)], wkH l ex k false) (by rfl) (by omega) (fun s h1 h2 => by
      exact wk_outer (d := d) (ex := ex) h hk (wkAcc l k s) false (2 ^ l.length) s (by omega) h32) (e := .exit 0) (se := ([(12, .bool false), (11, .int .i64 (2 ^ l.length : Nat)), (10, .int .i64 (2 ^ l.length : Nat)), (1, .clo 85 [.ptr 1 0 1, .ptr 3 0 1, .ptr 4 0 1]), (0, .imm (pcells l) l.length ex)], wkH l ex k (wkAcc l k (2 ^ l.length)))) (by
      rw [Nat.zero_add]
      simp only [seqX_normal, seqX_exit, bindR_some, regX_some, condX_bool, run_nil, run_cons, fget_cons', fput_cons', forget_nil, forget_cons', gcM_n, stp, just, Rd.bind, Rd.run, Rd.opt, upds, aBin, aInt, Nat.reduceEqDiff, Nat.reduceLeDiff, ↓reduceIte, decide_false, putD_some, List.elem_nil, x37_5, r37_1_l, s37_1_0, x37_8, x37_9, x37_7, x37_6, x37_4, Int.lt_irrefl, decide_false, Bool.false_eq_true]) (by simp)
  simp only [seqX_normal, bindR_some, regX_some, blockX_exit, bodyX_normal, run_nil, run_cons, fget_cons', fput_cons', forget_nil, forget_cons', frame0, gcM_c, stp, just, Rd.bind, Rd.run, Rd.opt, upds, resA, resL, aLen, aBuiltin, aBin, Nat.reduceBEq, Nat.reduceEqDiff, Nat.reduceLeDiff, ↓reduceIte, reduceCtorEq, Nat.zero_add, List.getElem?_toArray, putD_some, Int.toNat_natCast, Option.map_some, List.elem_cons, List.elem_nil, List.getElem?_cons_zero, T_22, x37_1, r37_0_l, s37_0_0, s37_0_1, s37_0_2, s37_0_3, x37_3, x37_2, x37_0, b_37, aShift, hbits, hln, hsh, hloop]
theorem momTerm_cw {l : List Stone} {k : Nat} {side : Int} {w : List Int} (h : OkP l) (hw : weighE l w = 0) {i : Nat} (hi : i < l.length) : momTerm l w k side i ≤ term side (rightE l k) (leftE l k) (l.getD i default) := by
  obtain ⟨s, hs⟩ := at_ex hi
  obtain ⟨x, hx⟩ := at_ex (l := w) (k := i) (by rw [weigh_len hw]; exact hi)
  have hb := weighE_at hw hs hx
  obtain ⟨_, _, _, _, l1, lm, m9⟩ := h.fits i s hs
  simp only [momTerm, term, List.getD_eq_getElem?_getD, hs, hx, Option.getD_some]
  generalize far side (rightE l k) (leftE l k) s = f
  unfold wt
  split
  · exact Int.mul_le_mul_of_nonneg_right hb.2 (by omega)
  · exact Int.mul_le_mul_of_nonpos_right hb.1 (by omega)
theorem sumF_le (F G : Nat → Int) (k : Nat) : ∀ m, (∀ i, k ≤ i → i < k + m → F i ≤ G i) → sumF F k m ≤ sumF G k m
  | 0, _ => by simp [sumF]
  | m + 1, h => by
    have ih := sumF_le F G k m (fun i h1 h2 => h i h1 (by omega))
    have := h (k + m) (by omega) (by omega)
    simp only [sumF]; omega
theorem sumF_eq (F G : Nat → Int) (k : Nat) : ∀ m, (∀ i, k ≤ i → i < k + m → F i = G i) → sumF F k m = sumF G k m
  | 0, _ => rfl
  | m + 1, h => by simp only [sumF, sumF_eq F G k m (fun i h1 h2 => h i h1 (by omega)), h (k + m) (by omega) (by omega)]
theorem mom_le_worst {l : List Stone} {k : Nat} {side : Int} {w : List Int} (h : OkP l) (hw : weighE l w = 0) : momSum l w k side ≤ worstSum l k side := by
  by_cases hk : k ≤ l.length
  · exact sumF_le _ _ _ _ fun i _ h2 => momTerm_cw h hw (by omega)
  · unfold momSum worstSum; rw [show l.length - k = 0 by omega]; simp [sumF]
/-- The bits of the worst truth. -/
def bitsOf (f : Nat → Bool) : Nat → Nat
  | 0 => 0
  | n + 1 => bitsOf f n + if f n = true then 2 ^ n else 0
theorem bitsOf_lt (f : Nat → Bool) : ∀ n, bitsOf f n < 2 ^ n
  | 0 => by simp [bitsOf]
  | n + 1 => by
    have := bitsOf_lt f n
    simp only [bitsOf, Nat.pow_succ]
    split <;> omega
theorem bitsOf_bit (f : Nat → Bool) : ∀ n i, i < n → (bitsOf f n).testBit i = f i
  | 0, i, h => by omega
  | n + 1, i, h => by
    have hlt := bitsOf_lt f n
    simp only [bitsOf]
    by_cases hin : i = n
    · subst hin
      cases hf : f i
      · simp only [Bool.false_eq_true, if_false, Nat.add_zero]
        exact Nat.testBit_lt_two_pow hlt
      · simp only [if_true]
        rw [Nat.add_comm, Nat.testBit_two_pow_add_eq, Nat.testBit_lt_two_pow hlt]; rfl
    · have hi : i < n := by omega
      have ih := bitsOf_bit f n i hi
      split
      · rw [Nat.add_comm, Nat.testBit_two_pow_add_gt hi, ih]
      · simpa using ih
theorem worst_corner {l : List Stone} (k : Nat) (side : Int) (h : OkP l) : ∃ set, set < 2 ^ l.length ∧ momSum l (cwI l set l.length) k side = worstSum l k side := by
  refine ⟨bitsOf (fun i => decide (far side (rightE l k) (leftE l k) (l.getD i default) > 0)) l.length, bitsOf_lt _ _, ?_⟩
  refine sumF_eq _ _ _ _ fun i h1 h2 => ?_
  have hi : i < l.length := by omega
  simp only [momTerm, List.getD_eq_getElem?_getD, cwI_at hi, Option.getD_some, cw, bitsOf_bit _ _ i hi, term, wt, decide_eq_true_eq]
theorem wkAcc_iff (l : List Stone) (k : Nat) : ∀ n, wkAcc l k n = true ↔ ∃ s, s < n ∧ wkB l k (cwI l s l.length) = true
  | 0 => by simp [wkAcc]
  | n + 1 => by
    simp only [wkAcc, Bool.or_eq_true, wkAcc_iff l k n]
    constructor
    · rintro (⟨s, h1, h2⟩ | h)
      · exact ⟨s, by omega, h2⟩
      · exact ⟨n, by omega, h⟩
    · rintro ⟨s, h1, h2⟩
      by_cases hs : s = n
      · subst hs; exact .inr h2
      · exact .inl ⟨s, by omega, h2⟩
theorem worst_left0 {l : List Stone} (h : OkP l) : worstSum l 0 (-1) ≤ 0 := by
  obtain ⟨set, _, e⟩ := worst_corner 0 (-1) h
  rw [← e]
  have hw := cw_weigh h set
  have hnp : ∀ (F : Nat → Int) (k m : Nat), (∀ i, k ≤ i → i < k + m → F i ≤ 0) → sumF F k m ≤ 0 := by
    intro F k m
    induction m with
    | zero => intro _; simp [sumF]
    | succ m ih =>
      intro hh
      have := hh (k + m) (by omega) (by omega)
      have := ih (fun i h1 h2 => hh i h1 (by omega))
      simp only [sumF]; omega
  refine hnp _ _ _ fun i h1 h2 => ?_
  have hi : i < l.length := by omega
  obtain ⟨s, hs⟩ := at_ex hi
  obtain ⟨w, hws⟩ := at_ex (l := cwI l set l.length) (k := i) (by rw [weigh_len hw]; exact hi)
  obtain ⟨_, _, p1, p2, l1, lm, m9⟩ := h.fits i s hs
  have hwt := weighE_at hw hs hws
  simp only [momTerm, far, leftE, List.getD_eq_getElem?_getD, hs, hws, Option.getD_some]
  rw [if_neg (by omega)]
  exact Int.mul_nonpos_of_nonneg_of_nonpos (by omega) (by omega)
theorem wk_may {l : List Stone} (h : OkP l) (k : Nat) : wkAcc l k (2 ^ l.length) = true ↔ mayTip l k 1 = true ∨ mayTip l k (-1) = true := by
  rw [wkAcc_iff]
  simp only [mayTip, decide_eq_true_eq]
  constructor
  · rintro ⟨s, _, hb⟩
    simp only [wkB, Bool.or_eq_true, decide_eq_true_eq] at hb
    rcases hb with hb | hb
    · have := mom_le_worst (k := k) (side := 1) h (cw_weigh h s)
      exact .inl (by omega)
    · cases k with
      | zero => simp [leftM] at hb
      | succ k =>
        have := mom_le_worst (k := k + 1) (side := -1) h (cw_weigh h s)
        exact .inr (Int.lt_of_lt_of_le hb this)
  · rintro (hb | hb)
    · obtain ⟨s, h1, h2⟩ := worst_corner k 1 h
      refine ⟨s, h1, ?_⟩
      simp only [wkB, Bool.or_eq_true, decide_eq_true_eq]
      exact .inl (by omega)
    · cases k with
      | zero => have := worst_left0 h; omega
      | succ k =>
        obtain ⟨s, h1, h2⟩ := worst_corner (k + 1) (-1) h
        refine ⟨s, h1, ?_⟩
        simp only [wkB, Bool.or_eq_true, decide_eq_true_eq, leftM]
        rw [← h2] at hb
        exact .inr (decide_eq_true hb)
theorem lweak_loop {d : Nat} {l : List Stone} {ex : Bool} (h : OkP l) : ∀ (m k F : Nat) (x : AHeap), k + m = l.length → m < F → headA [] ([(7, .int .i64 k), (6, .int .i64 l.length), (1, .ptr 1 0 1)], x) = ([(7, .int .i64 k), (6, .int .i64 l.length), (1, .ptr 1 0 1)], [(1, ⟨.box, [.imm (pcells l) l.length ex]⟩)]) →
    ∃ y, iterA (execA E (callA E fg 1000 (d + 3)) (fg 45) 0 16 [] 1000 c45_7) (headA []) F ([(7, .int .i64 k), (6, .int .i64 l.length), (1, .ptr 1 0 1)], x) =
      if weakFrom l k m = -1 then some (.exit 0, [(8, .bool false), (7, .int .i64 l.length), (6, .int .i64 l.length), (1, .ptr 1 0 1)], [(1, ⟨.box, [.imm (pcells l) l.length ex]⟩)]) else some (.ret, [(2, .int .i64 (weakFrom l k m))], y)
  | 0, k, F + 1, x, hk, _, hx => by
    obtain rfl : k = l.length := by omega
    refine ⟨[], ?_⟩
    rw [iterA_succ, hx]
    simp only [seqX_normal, seqX_exit, bindR_some, regX_some, condX_bool, run_nil, run_cons, fget_cons', fput_cons', forget_nil, forget_cons', gcM_n, stp, just, Rd.bind, Rd.run, Rd.opt, upds, aBin, aInt, Nat.reduceEqDiff, Nat.reduceLeDiff, Int.reduceNeg, ↓reduceIte, decide_false, putD_some, List.elem_nil, x45_8, r45_2_l, s45_2_0, x45_11, x45_12, x45_10, x45_9, x45_7, Int.lt_irrefl, decide_false, Bool.false_eq_true, weakFrom]
  | m + 1, k, F + 1, x, hk, hF, hx => by
    have hkl : k < l.length := by omega
    have hle := h.le
    have hne : (k : Int) ≠ -1 := by omega
    have hcr := corners_run (d := d) (ex := ex) h hkl
    have hmay := wk_may h k
    simp only [wkH] at hcr
    obtain ⟨y, ih⟩ := lweak_loop (d := d) (ex := ex) h m (k + 1) F (wkH l ex k (wkAcc l k (2 ^ l.length))) (by omega) (by omega) (by rfl)
    simp only [wkH] at ih
    by_cases hb : wkAcc l k (2 ^ l.length) = true
    · have hm := hmay.1 hb
      refine ⟨wkH l ex k true, ?_⟩
      rw [iterA_succ, hx]
      rw [hb] at hcr
      simp only [seqX_normal, seqX_ret, bindR_some, regX_some, condX_bool, blockX_ret, run_nil, run_cons, fget_cons', fput_cons', forget_nil, forget_cons', hget_nil', hget_cons', hset_nil', hset_cons', gcM_n, gcM_c, stp, opBox, just, Rd.bind, Rd.run, Rd.opt, upds, acells, zeroCells, tsz, rdCells, aLoad, aStore, opStore, fresh, aBin, aInt, putC, Nat.reduceMul, Nat.reduceBEq, Nat.reduceEqDiff, Nat.reduceLeDiff, Int.reduceNeg, ↓reduceIte, reduceCtorEq, liveBlk_eq, Nat.zero_add, List.nil_append, decide_true, frz, putD_some, putD_none, and_true, Int.ofNat_lt, mutX, snaps, snap, List.append_nil, List.elem_cons, List.elem_nil, List.length_cons, List.length_nil, List.getElem?_cons_zero, List.set_cons_zero, T_3, T_22, T_4, x45_8, r45_2_l, s45_2_0, x45_11, x45_12, x45_10, x45_16, r45_3_l, s45_3_0, s45_3_1, s45_3_2, x45_18, r45_4_l, s45_4_0, s45_4_1, x45_20, r45_5_l, s45_5_0, s45_5_1, s45_5_2, x45_22, r45_6_l, s45_6_0, x45_25, r45_7_l, s45_7_0, s45_7_1, x45_26, x45_24, x45_27, x45_23, x45_21, x45_19, x45_17, x45_15, x45_14, x45_13, x45_9, x45_7, wkH, hkl, hcr, weakFrom, hm, hne]
    · have hm : ¬ (mayTip l k 1 = true ∨ mayTip l k (-1) = true) := fun hm => hb (hmay.2 hm)
      refine ⟨y, ?_⟩
      rw [iterA_succ, hx]
      have hb' : wkAcc l k (2 ^ l.length) = false := by simpa using hb
      rw [hb'] at hcr ih
      simp only [seqX_normal, bindR_some, regX_some, condX_bool, blockX_normal, run_nil, run_cons, fget_cons', fput_cons', forget_nil, forget_cons', hget_nil', hget_cons', hset_nil', hset_cons', gcM_n, gcM_c, stp, opBox, just, Rd.bind, Rd.run, Rd.opt, upds, acells, zeroCells, tsz, rdCells, aLoad, aStore, opStore, fresh, aBin, aInt, putC, Nat.reduceMul, Nat.reduceBEq, Nat.reduceEqDiff, Nat.reduceLeDiff, Int.reduceNeg, ↓reduceIte, reduceCtorEq, liveBlk_eq, Nat.zero_add, List.nil_append, decide_true, frz, putD_some, putD_none, and_true, Int.ofNat_lt, mutX, snaps, snap, List.append_nil, List.elem_cons, List.elem_nil, List.length_cons, List.length_nil, List.getElem?_cons_zero, List.set_cons_zero, T_3, T_22, T_4, x45_8, r45_2_l, s45_2_0, x45_11, x45_12, x45_10, x45_16, r45_3_l, s45_3_0, s45_3_1, s45_3_2, x45_18, r45_4_l, s45_4_0, s45_4_1, x45_20, r45_5_l, s45_5_0, s45_5_1, s45_5_2, x45_22, r45_6_l, s45_6_0, x45_25, r45_7_l, s45_7_0, s45_7_1, x45_26, x45_24, x45_27, x45_23, x45_21, x45_19, x45_17, x45_15, x45_14, x45_28, r45_8_l, s45_8_0, s45_8_1, x45_13, x45_9, x45_7, hkl, hcr, weakFrom, hm, wrp_succ (show k < 1000000 by omega), ih]
theorem lweak_run {d : Nat} {l : List Stone} {ex : Bool} (h : OkP l) : rsOf (callA E fg 1000 (d + 4) 45 [.imm (pcells l) l.length ex] [] 0) = some (.int .i64 (weakL l)) := by
  change rsOf (bodyA E (callA E fg 1000 (d + 3)) fg 1000 45 _ _ _) = _
  obtain ⟨y, hl⟩ := lweak_loop (d := d) (ex := ex) h l.length 0 1000 [(1, ⟨.box, [.imm (pcells l) l.length ex]⟩)] (by omega) (by have := h.le; omega) (by rfl)
  simp only [Int.natCast_zero] at hl
  by_cases hw : weakFrom l 0 l.length = -1
  · simp only [hw, if_true] at hl
    simp only [seqX_normal, bindR_some, regX_some, blockX_exit, bodyX_ret, run_nil, run_cons, fget_cons', fput_nil, fput_cons', forget_nil, forget_cons', hget_nil', hget_cons', hset_nil', frame0, gcM_n, gcM_c, stp, opBox, just, Rd.bind, Rd.run, Rd.opt, upds, acells, rdCells, aLoad, resA, resL, fresh, aLen, aBuiltin, Nat.reduceBEq, Nat.reduceEqDiff, Nat.reduceLeDiff, Int.reduceNeg, ↓reduceIte, reduceCtorEq, liveBlk_eq, Nat.zero_add, List.getElem?_toArray, putD_some, Option.map_some, List.elem_cons, List.elem_nil, List.length_cons, List.length_nil, List.getElem?_cons_zero, T_22, x45_1, r45_0_l, s45_0_0, s45_0_1, x45_4, r45_1_l, s45_1_0, s45_1_1, s45_1_2, x45_6, x45_5, x45_3, x45_30, r45_9_l, s45_9_0, x45_31, x45_29, x45_2, x45_0, b_45, hl, weakL, hw]
  · simp only [hw, if_false] at hl
    simp only [seqX_normal, seqX_ret, bindR_some, regX_some, blockX_ret, bodyX_ret, run_nil, run_cons, fget_cons', fput_cons', forget_nil, forget_cons', hget_nil', hget_cons', hset_nil', frame0, gcM_c, stp, opBox, just, Rd.bind, Rd.run, Rd.opt, upds, acells, rdCells, aLoad, resA, resL, fresh, aLen, aBuiltin, Nat.reduceBEq, Nat.reduceEqDiff, Nat.reduceLeDiff, ↓reduceIte, reduceCtorEq, liveBlk_eq, Nat.zero_add, List.getElem?_toArray, putD_some, Option.map_some, List.elem_cons, List.elem_nil, List.length_cons, List.length_nil, List.getElem?_cons_zero, T_22, x45_1, r45_0_l, s45_0_0, s45_0_1, x45_4, r45_1_l, s45_1_0, s45_1_1, s45_1_2, x45_6, x45_5, x45_3, x45_2, x45_0, b_45, hl, weakL]
theorem lweak_call {d : Nat} {site : Nat → Nat} {seen : List Nat} {l : List Stone} {ex : Bool} (h : OkP l) : aBack site true seen (thaw (callA E fg 1000 (d + 4)) 45 [.imm (pcells l) l.length ex] [] 0) = .pure (.int .i64 (weakL l), []) :=
  aBack_int (rs_ex (lweak_run h))
end Go.AM.Ytmhbnflnlglljaa
end

section
namespace Go.AM.Ytmhbnflnlglljaa
open Go Go.AM
set_option maxRecDepth 100000
set_option maxHeartbeats 4000000
structure BOk (bs : List Int) : Prop where
  l : bs.length = 5
  b : ∀ (i : Nat) (b : Int), bs[i]? = some b → 0 ≤ b ∧ b ≤ 255
def bcells (bs : List Int) : List AV := bs.map (AV.int .u8)
theorem bcells_length (bs : List Int) : (bcells bs).length = bs.length := by simp [bcells]
theorem bcells_at {bs : List Int} {k : Nat} {z : Int} (h : bs[k]? = some z) : (bcells bs)[k]? = some (.int .u8 z) := by simp [bcells, h]
end Go.AM.Ytmhbnflnlglljaa
end

section
namespace Go.AM.Ytmhbnflnlglljaa
open Go Go.AM
set_option maxRecDepth 100000
set_option maxHeartbeats 8000000
theorem eqFr {a b : Int} : eqArr E.T 27 [.int .i64 a, .int .i64 b] [.int .i64 a, .int .i64 b] = some true := by
  rw [eq56]; simp
theorem NN_b {hs ws : List Int} (h : OkL hs ws) (h4 : ∀ i, i < ws.length → hs.getD i 0 ≤ 4) : ∀ j, j ≤ ws.length → 0 ≤ NN hs ws j ∧ NN hs ws j ≤ (4 * j : Nat) * DN ws j
  | 0, _ => by simp [NN]
  | j + 1, hj => by
    obtain ⟨a, b⟩ := NN_b h h4 j (by omega)
    obtain ⟨t1, t2⟩ := allW_b h.le h.w (k := j) (by omega)
    have w := w_le_all h (i := j) (by omega)
    have w1 := h.w j (by omega)
    have x := h.h j (by omega)
    have x4 := h4 j (by omega)
    have d := DN_pos h j (by omega)
    simp only [NN, DN]
    generalize DN ws j = D at *
    generalize allW ws j = T at *
    have m1 : hs.getD j 0 * ws.getD j 0 ≤ 4 * T := Int.mul_le_mul x4 w (by omega) (by omega)
    have m2 : 0 ≤ hs.getD j 0 * ws.getD j 0 := Int.mul_nonneg (by omega) (by omega)
    have m3 : hs.getD j 0 * ws.getD j 0 * D ≤ 4 * T * D := Int.mul_le_mul_of_nonneg_right m1 (by omega)
    have m4 : 0 ≤ hs.getD j 0 * ws.getD j 0 * D := Int.mul_nonneg m2 (by omega)
    have m5 := Int.mul_nonneg a (show 0 ≤ T by omega)
    have m6 := Int.mul_le_mul_of_nonneg_right b (show 0 ≤ T by omega)
    have e : (4 * (j + 1) : Nat) * (D * T) = (4 * j : Nat) * D * T + 4 * T * D := by
      rw [show ((4 * (j + 1) : Nat) : Int) = (4 * j : Nat) + 4 by omega, Int.add_mul]
      congr 1 <;> ac_rfl
    rw [e]
    omega
structure Sml (hs ws : List Int) : Prop where
  ok : OkL hs ws
  n4 : ws.length ≤ 4
  h4 : ∀ i, i < ws.length → hs.getD i 0 ≤ 4
  w5 : ∀ i, i < ws.length → ws.getD i 0 ≤ 5
theorem DN_160 {hs ws : List Int} (h : Sml hs ws) {j : Nat} (hj : j ≤ ws.length) : 1 ≤ DN ws j ∧ DN ws j ≤ 160000 := by
  have d := DN_small h.ok h.n4 h.w5 j hj
  have dp := DN_pos h.ok j hj
  have := h.n4
  have p20 : 20 ^ j ≤ 20 ^ 4 := Nat.pow_le_pow_right (by omega) (by omega)
  have e20 : (20 : Nat) ^ 4 = 160000 := by decide
  omega
theorem cen_fair {hs ws : List Int} (h : Sml hs ws) {i : Nat} (hi : i < ws.length) : Fair (cenF hs ws i) ∧ (cenF hs ws i).den ≤ 160000 ∧ -10000000 ≤ (cenF hs ws i).num ∧ (cenF hs ws i).num ≤ 10000000 := by
  have d := DN_160 h (j := i + 1) (by omega)
  obtain ⟨n1, n2⟩ := NN_b h.ok h.h4 (i + 1) (by omega)
  have x := h.ok.h i hi
  have x4 := h.h4 i hi
  have n4 := h.n4
  have m3 : ((4 * (i + 1) : Nat) : Int) * DN ws (i + 1) ≤ 16 * 160000 := Int.mul_le_mul (by omega) (by omega) (by omega) (by omega)
  have m1 : hs.getD i 0 * DN ws (i + 1) ≤ 4 * 160000 := Int.mul_le_mul x4 (by omega) (by omega) (by omega)
  have m2 : 0 ≤ hs.getD i 0 * DN ws (i + 1) := Int.mul_nonneg (by omega) (by omega)
  rw [cen_rd h.ok hi]
  have ha : -640000 ≤ NN hs ws (i + 1) - hs.getD i 0 * DN ws (i + 1) ∧ NN hs ws (i + 1) - hs.getD i 0 * DN ws (i + 1) ≤ 2560000 := by omega
  generalize NN hs ws (i + 1) - hs.getD i 0 * DN ws (i + 1) = a at *
  obtain ⟨p1, p2⟩ := rd_den (num := a) (den := DN ws (i + 1)) (by omega)
  have p3 := rdN_b (num := a) (den := DN ws (i + 1)) (by omega)
  have p4 : (rd a (DN ws (i + 1))).num = rdN a (DN ws (i + 1)) := rfl
  exact ⟨⟨p1, by omega, by omega, by omega, rd_coprime (by omega)⟩, by omega, by omega, by omega⟩
abbrev rI (ws : List Int) : AV := .ref 31 0 ws.length ws.length ws.length 1 false
abbrev rW (ws : List Int) : AV := .ref 292 0 ws.length ws.length ws.length 1 false
abbrev r1S (hs ws bs : List Int) (i : Nat) (out : List Stone) : St := ([(66, .int .i64 i), (65, .int .i64 ws.length), (64, .ref 39 0 ws.length ws.length (ws.length * 2) 2 false), (12, poutV 105 out), (11, .int .i64 (DN ws ws.length)), (7, .int .i64 ws.length), (6, rW ws), (5, rI ws), (3, .ptr 3 0 5)],
  (3, ⟨.box, bcells bs⟩) :: (31, ⟨.froz, icells hs⟩) :: (39, ⟨.row, fcells (cenI hs ws ws.length)⟩) :: (poutH 105 out ++ [(292, ⟨.froz, icells ws⟩)]))
theorem r1_go {C : Callee} {hs ws bs : List Int} (h : Sml hs ws) (hbs : BOk bs) (i : Nat) (hi : i < ws.length) (out : List Stone) (ho : out.length = i)
    (cf : ∀ (site : Nat → Nat) seen, aBack site true seen (thaw C 33 [.agg [.int .i64 (cenF hs ws i).num, .int .i64 (cenF hs ws i).den]] [] 0) = .pure (.bool true, [])) :
    ∃ s', execA E C (fg 7) 0 261 [] 1000 c7_25 (r1S hs ws bs i out) = some (.normal, s') ∧ headA [] s' = r1S hs ws bs (i + 1) (out ++ [plS hs ws i]) := by
  obtain ⟨ok, n4, h4, w5⟩ := h
  obtain ⟨x, hx⟩ := at_ex (l := hs) (k := i) (by have := ok.eq; omega)
  obtain ⟨w, hw⟩ := at_ex (l := ws) (k := i) hi
  have gx : hs.getD i 0 = x := by simp [hx]
  have gw : ws.getD i 0 = w := by simp [hw]
  have hc : (cenI hs ws ws.length)[i]? = some (cenF hs ws i) := by simp [cenI, hi]
  obtain ⟨⟨d0, _, _, _, _⟩, fd, fn1, fn2⟩ := cen_fair ⟨ok, n4, h4, w5⟩ hi
  obtain ⟨s1, s2⟩ := cen_scale ok hi
  have bx := ok.h i hi
  have bx4 := h4 i hi
  have D := DN_160 (hs := hs) ⟨ok, n4, h4, w5⟩ (j := ws.length) (Nat.le_refl _)
  have td : (DN ws ws.length).tdiv (cenF hs ws i).den = DN ws ws.length / (cenF hs ws i).den := Int.tdiv_eq_ediv_of_dvd s1
  have tm : (DN ws ws.length).tmod (cenF hs ws i).den = 0 := by rw [Int.tmod_eq_emod_of_nonneg (by omega)]; exact Int.emod_eq_zero_of_dvd s1
  have dn : ¬ (cenF hs ws i).den = 0 := by omega
  have q0 : 0 ≤ DN ws ws.length / (cenF hs ws i).den := Int.ediv_nonneg (by omega) (by omega)
  have q1 : DN ws ws.length / (cenF hs ws i).den ≤ DN ws ws.length := Int.ediv_le_self _ (by omega)
  have m1 : x * DN ws ws.length ≤ 4 * 160000 := by rw [← gx]; exact Int.mul_le_mul bx4 D.2 (by omega) (by omega)
  have m2 : 0 ≤ x * DN ws ws.length := by rw [← gx]; exact Int.mul_nonneg (by omega) (by omega)
  obtain ⟨c1, c2⟩ := cC_b ok h4 (i + 1) (by omega)
  have m3 : ((4 * (i + 1) : Nat) : Int) * DN ws ws.length ≤ 16 * 160000 := Int.mul_le_mul (by omega) D.2 (by omega) (by omega)
  rw [gx] at s2
  rw [show plS hs ws i = ⟨x * DN ws ws.length, (cenF hs ws i).num * (DN ws ws.length / (cenF hs ws i).den), w, w⟩ by rw [s2, plS, gx, gw]]
  have b1 : -1000000000 ≤ (cenF hs ws i).num * (DN ws ws.length / (cenF hs ws i).den) ∧ (cenF hs ws i).num * (DN ws ws.length / (cenF hs ws i).den) ≤ 1000000000 := by rw [s2]; omega
  have hat := fcells_at _ _ _ hc
  have hfl : (fcells (cenI hs ws ws.length)).length = ws.length * 2 := by rw [fcells_length, cenI_length]
  have hoff : i * 2 + 2 ≤ ws.length * 2 := by omega
  have il : (icells hs).length = ws.length := by rw [icells_length, ok.eq]
  have il2 : (icells ws).length = ws.length := icells_length ..
  simp only [frc] at hat
  have hb5 := hbs.l
  cases out with
  | nil =>
    simp only [r1S, poutV, poutH, List.nil_append, pcells, sc, List.append_nil]
    simp (disch := omega) only [condX_bool, blockX_normal, ↓gd, fset_cons, Bool.not_true, Bool.not_false, run_nil, run_cons, fget_cons', fput_cons', forget_nil, forget_cons', hget_nil', hget_cons', hset_cons', gcM_n, gcM_c, stp, opPick, opBox, justO, just, Rd.bind, Rd.run, Rd.opt, upds, acells, zeroCells, tsz, elemT, rdCells, fieldOf, aFieldAddr, aLoad, aStore, opStore, fresh, aIndexAddr, aNum, aBuiltin, aBin, aInt, putC, evO, Nat.reduceAdd, Nat.reduceMul, Nat.reduceLT, Nat.reduceGT, Nat.reduceBEq, Nat.reduceEqDiff, Nat.reduceLeDiff, ↓reduceIte, reduceCtorEq, liveBlk_eq, Nat.zero_add, Nat.add_zero, ne_eq, List.nil_append, List.getElem?_toArray, rtX_some, addT_some, drX_some, runT_nil, runT_cons, neat_eq, descF_nil', descF_cons', ascH_nil', ascH_cons', stpT, Rd.foot, writing, touching, Tr.empty, dynPairs, apartT, disj, List.isEmpty_nil, List.isEmpty_cons, List.map_nil, List.map_cons, Bool.not_false, Bool.not_true, Bool.true_or, Bool.or_true, Bool.or_false, Bool.and_true, Bool.true_and, Bool.and_self, decide_true, not_true_eq_false, or_self, aBuildSlice, partsOf, fillA, repC, isSliceT, aAppend, srcOf, window, aUn, putD_some, putD_none, and_true, Int.natCast_nonneg, Int.ofNat_lt, Int.toNat_natCast, aCall, snaps, List.append_nil, Option.map_some, List.elem_cons, List.elem_nil, List.length_cons, List.length_nil, List.getElem?_cons_zero, List.getElem?_cons_succ, List.drop_zero, List.take_succ_cons, List.take_nil, List.set_cons_zero, List.set_cons_succ, frz_nil, seqN, bindN, regN, snap_int, snap_agg, aBuild, placeF, List.all_cons, List.all_nil, List.cons_append, Nat.le_refl, Nat.mul_one, Nat.zero_mul, List.not_mem_nil, beq_self_eq_true, bne_self_eq_false, Nat.lt_irrefl, Bool.false_eq_true, T_3, T_22, T_45, T_47, T_27, T_52, x7_26, r7_9_l, s7_9_0, x7_29, x7_30, x7_28, x7_34, r7_10_l, s7_10_0, s7_10_1, s7_10_2, s7_10_3, s7_10_4, s7_10_5, x7_37, r7_11_l, s7_11_0, s7_11_1, s7_11_2, s7_11_3, s7_11_4, s7_11_5, s7_11_6, s7_11_7, s7_11_8, s7_11_9, x7_40, r7_12_l, s7_12_0, x7_41, x7_39, x7_42, x7_38, x7_36, x7_43, r7_13_l, r7_13_dr, r7_13_an, s7_13_0, s7_13_1, s7_13_2, s7_13_3, s7_13_4, s7_13_5, s7_13_6, s7_13_7, s7_13_8, s7_13_9, s7_13_10, s7_13_11, s7_13_12, s7_13_13, s7_13_14, s7_13_15, s7_13_16, s7_13_17, s7_13_18, s7_13_19, s7_13_20, s7_13_21, s7_13_22, s7_13_23, s7_13_24, s7_13_25, x7_35, x7_33, x7_32, x7_44, r7_14_l, s7_14_0, s7_14_1, x7_31, x7_27, x7_25, List.all_cons, List.all_nil, List.getD_cons_zero, List.getD_cons_succ, beq_self_eq_true, hi, il, il2, icells_at hx, icells_at hw, hfl, hat, hoff, cf, td, tm, dn, wrp64, room44 (show 1 ≤ 1000000 by omega), wrp_succ (show i < 1000000 by omega), List.length_nil]
    match bs, hb5 with
    | [_, _, _, _, _], _ => exact ⟨_, rfl, rfl⟩
  | cons a o =>
    have hlen : (pcells (a :: o)).length = (o.length + 1) * 4 := by rw [pcells_length]; rfl
    have hno : ¬ o.length + 1 + 1 ≤ o.length + 1 := by omega
    have ho2 : o.length + 1 = i := by simpa using ho
    have hl2 : ∀ z : Stone, (o ++ [z]).length = o.length + 1 := fun z => by simp
    have htk : List.take ((o.length + 1) * 4) (pcells (a :: o)) = pcells (a :: o) := take_pcs (a :: o)
    have hsn := pcells_snoc (a :: o) ⟨x * DN ws ws.length, (cenF hs ws i).num * (DN ws ws.length / (cenF hs ws i).den), w, w⟩
    simp only [sc, List.cons_append] at hsn
    simp only [r1S, poutV, poutH, List.cons_append, List.nil_append, hl2]
    simp (disch := omega) only [condX_bool, blockX_normal, ↓gd, fset_cons, Bool.not_true, Bool.not_false, run_nil, run_cons, fget_cons', fput_cons', forget_nil, forget_cons', hget_nil', hget_cons', hset_cons', gcM_n, gcM_c, stp, opPick, opBox, justO, just, Rd.bind, Rd.run, Rd.opt, upds, acells, zeroCells, tsz, elemT, rdCells, fieldOf, aFieldAddr, aLoad, aStore, opStore, fresh, aIndexAddr, aNum, aBuiltin, aBin, aInt, putC, evO, Nat.reduceAdd, Nat.reduceMul, Nat.reduceLT, Nat.reduceGT, Nat.reduceBEq, Nat.reduceEqDiff, Nat.reduceLeDiff, ↓reduceIte, reduceCtorEq, liveBlk_eq, Nat.zero_add, Nat.add_zero, ne_eq, List.nil_append, List.getElem?_toArray, rtX_some, addT_some, drX_some, runT_nil, runT_cons, neat_eq, descF_nil', descF_cons', ascH_nil', ascH_cons', stpT, Rd.foot, writing, touching, Tr.empty, dynPairs, apartT, disj, List.isEmpty_nil, List.isEmpty_cons, List.map_nil, List.map_cons, Bool.not_false, Bool.not_true, Bool.true_or, Bool.or_true, Bool.or_false, Bool.and_true, Bool.true_and, Bool.and_self, decide_true, not_true_eq_false, or_self, aBuildSlice, partsOf, fillA, repC, isSliceT, aAppend, srcOf, window, aUn, putD_some, putD_none, and_true, Int.natCast_nonneg, Int.ofNat_lt, Int.toNat_natCast, aCall, snaps, List.append_nil, Option.map_some, List.elem_cons, List.elem_nil, List.length_cons, List.length_nil, List.getElem?_cons_zero, List.getElem?_cons_succ, List.drop_zero, List.take_succ_cons, List.take_nil, List.set_cons_zero, List.set_cons_succ, frz_nil, seqN, bindN, regN, snap_int, snap_agg, aBuild, placeF, List.all_cons, List.all_nil, Nat.le_refl, Nat.mul_one, Nat.zero_mul, List.not_mem_nil, beq_self_eq_true, bne_self_eq_false, Nat.lt_irrefl, Bool.false_eq_true, T_3, T_22, T_45, T_47, T_27, T_52, x7_26, r7_9_l, s7_9_0, x7_29, x7_30, x7_28, x7_34, r7_10_l, s7_10_0, s7_10_1, s7_10_2, s7_10_3, s7_10_4, s7_10_5, x7_37, r7_11_l, s7_11_0, s7_11_1, s7_11_2, s7_11_3, s7_11_4, s7_11_5, s7_11_6, s7_11_7, s7_11_8, s7_11_9, x7_40, r7_12_l, s7_12_0, x7_41, x7_39, x7_42, x7_38, x7_36, x7_43, r7_13_l, r7_13_dr, r7_13_an, s7_13_0, s7_13_1, s7_13_2, s7_13_3, s7_13_4, s7_13_5, s7_13_6, s7_13_7, s7_13_8, s7_13_9, s7_13_10, s7_13_11, s7_13_12, s7_13_13, s7_13_14, s7_13_15, s7_13_16, s7_13_17, s7_13_18, s7_13_19, s7_13_20, s7_13_21, s7_13_22, s7_13_23, s7_13_24, s7_13_25, x7_35, x7_33, x7_32, x7_44, r7_14_l, s7_14_0, s7_14_1, x7_31, x7_27, x7_25, List.all_cons, List.all_nil, List.getD_cons_zero, List.getD_cons_succ, beq_self_eq_true, hi, il, il2, icells_at hx, icells_at hw, hfl, hat, hoff, cf, td, tm, dn, hlen, hno, htk, hsn, wrp64, room44 (show o.length + 1 + 1 ≤ 1000000 by omega), wrp_succ (show i < 1000000 by omega)]
    match bs, hb5 with
    | [_, _, _, _, _], _ => exact ⟨_, rfl, rfl⟩
end Go.AM.Ytmhbnflnlglljaa
end

section
namespace Go.AM.Ytmhbnflnlglljaa
open Go Go.AM
set_option maxRecDepth 100000
set_option maxHeartbeats 8000000
theorem far_none {d : Nat} {hs ws : List Int} {e1 e2 : Bool} (h : OkL hs ws) : rsOf (callA E fg 1000 (d + 4) 20 [.imm (icells hs) hs.length e1, .imm (icells ws) ws.length e2, .int .i64 ws.length] [] 0) = some (.tup [.agg [.int .i64 0, .int .i64 0], .int .i64 2]) := by
  change rsOf (bodyA E (callA E fg 1000 (d + 3)) fg 1000 20 _ _ _) = _
  have heq := h.eq
  have cl := fun (site : Nat → Nat) seen => loads_call (d := d + 2) (site := site) (seen := seen) (e1 := e1) (e2 := e2) h
  rw [heq] at cl ⊢
  have k0 : ¬ (ws.length : Int) < 0 := by omega
  have k1 : (ws.length : Int) ≥ ws.length := Int.le_refl _
  simp (disch := omega) only [seqX_ret, condX_bool, blockX_ret, ↓gd, fset_cons, bodyX_ret, run_nil, run_cons, fget_cons', fput_cons', forget_nil, forget_cons', hget_nil', hget_cons', hset_nil', hset_cons', frame0, gcM_c, stp, opPick, opBox, justO, just, Rd.bind, Rd.run, Rd.opt, upds, acells, zeroCells, tsz, rdCells, aLoad, aStore, opStore, resA, resL, fresh, aLen, aBuiltin, aBin, aInt, putC, Nat.reduceAdd, Nat.reduceBEq, Nat.reduceEqDiff, Nat.reduceLeDiff, ↓reduceIte, reduceCtorEq, liveBlk_eq, Nat.zero_add, List.nil_append, List.getElem?_toArray, decide_true, decide_false, partsOf, fillA, putD_some, putD_none, and_true, aCall, snaps, List.append_nil, Option.map_some, List.elem_cons, List.elem_nil, List.length_cons, List.length_nil, List.getElem?_cons_zero, List.drop_zero, List.take_succ_cons, List.take_nil, List.set_cons_zero, List.set_cons_succ, frz_nil, seqN, bindN, regN, snap_int, snap_imm, aBuild, Nat.le_refl, List.not_mem_nil, beq_self_eq_true, bne_self_eq_false, Bool.false_eq_true, T_47, T_27, x20_1, r20_0_l, s20_0_0, s20_0_1, x20_3, r20_1_l, s20_1_0, s20_1_1, s20_1_2, s20_1_3, x20_7, r20_2_l, s20_2_0, s20_2_1, s20_2_2, x20_10, r20_3_l, s20_3_0, s20_3_1, s20_3_2, s20_3_3, x20_11, x20_9, x20_13, r20_4_l, s20_4_0, s20_4_1, s20_4_2, s20_4_3, s20_4_4, s20_4_5, s20_4_6, s20_4_7, s20_4_8, x20_16, r20_5_l, s20_5_0, s20_5_1, s20_5_2, x20_17, x20_15, x20_18, x20_14, x20_12, x20_8, x20_6, x20_5, x20_4, x20_2, x20_0, b_20, cl, k0, k1, putC]
/-- After the law's look at the last stone. -/
abbrev r2S (hs ws bs : List Int) (l : List Stone) (i : Nat) : St := ([(124, .int .i64 i), (123, .int .i64 ws.length), (12, .ref 105 0 ws.length ws.length (ws.length * 4) 4 false), (7, .int .i64 ws.length), (6, rW ws), (5, rI ws), (3, .ptr 3 0 5)],
  [(3, ⟨.box, bcells bs⟩), (31, ⟨.froz, icells hs⟩), (105, ⟨.row, pcells l⟩), (292, ⟨.froz, icells ws⟩)])
structure R2C (C : Callee) (hs ws : List Int) (i : Nat) (R Q : Int) (f : Fr) : Prop where
  re : ∀ (site : Nat → Nat) seen e1 e2, aBack site true seen (thaw C 44 [.imm (icells hs) ws.length e1, .imm (icells ws) ws.length e2, .int .i64 i] [] 0) = .pure (.tup [.int .i64 R, .int .i64 Q], [])
  fa : ∀ (site : Nat → Nat) seen e1 e2, aBack site true seen (thaw C 20 [.imm (icells hs) ws.length e1, .imm (icells ws) ws.length e2, .int .i64 i] [] 0) = .pure (.tup [.agg [.int .i64 f.num, .int .i64 f.den], .int .i64 0], [])
  ra : ∀ (site : Nat → Nat) seen, aBack site true seen (thaw C 35 [.int .i64 R, .int .i64 Q] [] 0) = .pure (.agg [.int .i64 f.num, .int .i64 f.den], [])
theorem r2_go {C : Callee} {hs ws bs : List Int} (h : Sml hs ws) (hbs : BOk bs) (i : Nat) (hi : i + 1 < ws.length) {R Q : Int} {f : Fr} (k : R2C C hs ws i R Q f) :
    ∃ s', execA E C (fg 7) 0 261 [] 1000 c7_60 (r2S hs ws bs (plL hs ws ws.length) i) = some (.normal, s') ∧ headA [] s' = r2S hs ws bs (plL hs ws ws.length) (i + 1) := by
  obtain ⟨re, fa, ra⟩ := k
  have n4 := h.n4
  have il : (icells hs).length = ws.length := by rw [icells_length, h.ok.eq]
  have il2 : (icells ws).length = ws.length := icells_length ..
  have t1 : List.take ws.length (icells hs) = icells hs := List.take_of_length_le (by omega)
  have t2 : List.take ws.length (icells ws) = icells ws := List.take_of_length_le (by omega)
  have g1 : (i : Int) < ws.length := by omega
  have g2 : ¬ (i : Int) = (ws.length : Int) - 1 := by omega
  have w1 : wrp .i64 ((ws.length : Int) - 1) = (ws.length : Int) - 1 := wrp64 (by omega)
  have hb5 := hbs.l
  simp (disch := omega) only [condX_bool, blockX_normal, fset_cons, Bool.not_true, Bool.not_false, run_nil, run_cons, fget_cons', fput_cons', forget_nil, forget_cons', hget_nil', hget_cons', hset_cons', gcM_n, gcM_c, stp, opPick, opBox, justO, just, Rd.bind, Rd.run, Rd.opt, upds, acells, zeroCells, tsz, rdCells, aLoad, aStore, opStore, opExtract, fresh, aIndexAddr, aNum, aBin, aInt, putC, Nat.reduceAdd, Nat.reduceLT, Nat.reduceBEq, Nat.reduceEqDiff, Nat.reduceLeDiff, ↓reduceIte, liveBlk_eq, Nat.zero_add, beq_iff_eq, List.nil_append, rtX_some, addT_some, drX_some, runT_nil, runT_cons, neat_eq, descF_nil', descF_cons', ascH_nil', ascH_cons', stpT, ↓gdT, Rd.foot, writing, touching, Tr.empty, dynPairs, apartT, disj, List.isEmpty_nil, List.isEmpty_cons, List.map_nil, Bool.not_false, Bool.not_true, Bool.true_or, Bool.or_true, Bool.or_false, Bool.and_true, Bool.true_and, Bool.and_self, decide_true, putD_some, putD_none, and_true, Int.natCast_nonneg, Int.toNat_natCast, aCall, snaps, List.append_nil, Option.map_some, List.elem_cons, List.elem_nil, List.length_cons, List.length_nil, List.getElem?_cons_zero, List.getElem?_cons_succ, List.drop_zero, List.take_succ_cons, List.take_nil, List.set_cons_zero, List.set_cons_succ, frz_nil, seqN, bindN, regN, snap_int, snap_ref, List.all_nil, List.cons_append, Nat.le_refl, Nat.mul_one, List.not_mem_nil, beq_self_eq_true, bne_self_eq_false, Bool.false_eq_true, T_22, T_45, T_27, x7_61, r7_19_l, s7_19_0, x7_64, x7_65, x7_63, x7_69, r7_20_l, s7_20_0, s7_20_1, x7_71, r7_21_l, s7_21_0, s7_21_1, s7_21_2, s7_21_3, s7_21_4, s7_21_5, s7_21_6, s7_21_7, s7_21_8, x7_73, r7_22_l, s7_22_0, s7_22_1, s7_22_2, s7_22_3, s7_22_4, s7_22_5, s7_22_6, s7_22_7, s7_22_8, s7_22_9, x7_76, r7_23_l, r7_23_dr, r7_23_an, s7_23_0, s7_23_1, s7_23_2, s7_23_3, s7_23_4, s7_23_5, s7_23_6, s7_23_7, s7_23_8, x7_79, r7_24_l, s7_24_0, x7_80, x7_78, x7_81, x7_77, x7_75, x7_83, r7_25_l, s7_25_0, s7_25_1, s7_25_2, s7_25_3, x7_87, r7_26_l, r7_26_dr, s7_26_0, s7_26_1, s7_26_2, x7_86, x7_85, x7_102, x7_84, x7_82, x7_74, x7_72, x7_70, x7_68, x7_67, x7_103, r7_31_l, s7_31_0, s7_31_1, x7_66, x7_62, x7_60, List.all_nil, beq_self_eq_true, r2S, g1, g2, w1, re, fa, ra, il, il2, t1, t2, eqFr, wrp_succ (show i < 1000000 by omega), putC]
  match bs, hb5 with
  | [_, _, _, _, _], _ => exact ⟨_, rfl, rfl⟩
theorem r2_last {C : Callee} {hs ws bs : List Int} (h : Sml hs ws) (hbs : BOk bs) {Q : Int} {f : Fr} (k : R2C C hs ws (ws.length - 1) (NN hs ws ws.length) Q f)
    {q : Int} (cw : ∀ (site : Nat → Nat) seen ex, aBack site true seen (thaw C 45 [.imm (pcells (plT hs ws)) ws.length ex] [] 0) = .pure (.int .i64 q, [])) (hq : ¬ q < 0) :
    ∃ s', execA E C (fg 7) 0 261 [] 1000 c7_60 (r2S hs ws bs (plL hs ws ws.length) (ws.length - 1)) = some (.normal, s') ∧ headA [] s' = r2S hs ws bs (plT hs ws) ws.length := by
  obtain ⟨re, fa, ra⟩ := k
  have n4 := h.n4
  have n0 := h.ok.ne
  obtain ⟨n, hn⟩ : ∃ n, ws.length = n + 1 := ⟨ws.length - 1, by omega⟩
  have il : (icells hs).length = ws.length := by rw [icells_length, h.ok.eq]
  have il2 : (icells ws).length = ws.length := icells_length ..
  have t1 : List.take ws.length (icells hs) = icells hs := List.take_of_length_le (by omega)
  have t2 : List.take ws.length (icells ws) = icells ws := List.take_of_length_le (by omega)
  have hs1 : (plL hs ws ws.length)[n]? = some (plS hs ws n) := by simp [plL, hn]
  have f0 : (pcells (plL hs ws ws.length))[n * 4]? = some (.int .i64 (plS hs ws n).half) := pcells_field _ n _ 0 hs1 (by omega)
  have f1 : (pcells (plL hs ws ws.length))[n * 4 + 1]? = some (.int .i64 (plS hs ws n).pos) := pcells_field _ n _ 1 hs1 (by omega)
  have lp : (pcells (plL hs ws ws.length)).length = ws.length * 4 := by rw [pcells_length, plL_length]
  have hb5 := hbs.l
  have hle := cC_top h.ok
  have esum : (plS hs ws n).pos + (plS hs ws n).half = NN hs ws ws.length := by simp only [plS]; rw [← hle, hn]; omega
  have D := DN_160 h (j := ws.length) (Nat.le_refl _)
  have bx := h.ok.h n (by omega)
  have bx4 := h.h4 n (by omega)
  have m1 : hs.getD n 0 * DN ws ws.length ≤ 4 * 160000 := Int.mul_le_mul bx4 D.2 (by omega) (by omega)
  have m2 : 0 ≤ hs.getD n 0 * DN ws ws.length := Int.mul_nonneg (by omega) (by omega)
  obtain ⟨c1, c2⟩ := cC_b h.ok h.h4 (n + 1) (by omega)
  have m3 : ((4 * (n + 1) : Nat) : Int) * DN ws ws.length ≤ 16 * 160000 := Int.mul_le_mul (by omega) D.2 (by omega) (by omega)
  have wa : wrp .i64 ((plS hs ws n).pos + (plS hs ws n).half) = NN hs ws ws.length := by rw [esum, wrp64]; rw [← hle, hn]; rw [hn] at m3 c2; omega
  have wb : wrp .i64 ((plS hs ws n).pos + 1) = (plS hs ws n).pos + 1 := wrp64 (by simp only [plS]; omega)
  have pT : ∀ (l : List Stone) (k : Nat) (s : Stone) (z : Int), l[k]? = some s → (pcells l).set (k * 4 + 1) (.int .i64 z) = pcells (l.set k { s with pos := z }) := by
    intro l
    induction l with
    | nil => intro k s z h; simp at h
    | cons a l ih =>
      intro k s z h
      cases k with
      | zero => simp at h; subst h; simp [pcells, sc]
      | succ k =>
        simp at h
        rw [show (k + 1) * 4 + 1 = k * 4 + 1 + 4 by omega, pcells, List.set_cons_succ, pcells, ← ih k s z h]
        simp [sc]
  have eT : (pcells (plL hs ws ws.length)).set (n * 4 + 1) (.int .i64 ((plS hs ws n).pos + 1)) = pcells (plT hs ws) := by
    rw [pT _ n _ _ hs1, plT, show ws.length - 1 = n by omega]
  have lT : (pcells (plT hs ws)).length = ws.length * 4 := by rw [pcells_length]; simp [plT, plL_length]
  have tT : List.take (ws.length * 4) (pcells (plT hs ws)) = pcells (plT hs ws) := List.take_of_length_le (by omega)
  have e1 : ws.length - 1 = n := by omega
  have g1 : (n : Int) < ws.length := by omega
  have g2 : (ws.length : Int) - 1 = n := by omega
  have w1 : wrp .i64 ((ws.length : Int) - 1) = (n : Int) := by rw [wrp64 (by omega)]; omega
  have nl : n < ws.length := by omega
  have w2 : wrp .i64 ((n : Int) + 1) = (ws.length : Int) := by rw [wrp64 (by omega)]; omega
  rw [e1] at re fa ⊢
  simp (disch := omega) only [condX_bool, blockX_normal, fset_cons, Bool.not_true, Bool.not_false, run_nil, run_cons, fget_cons', fput_cons', forget_nil, forget_cons', hget_nil', hget_cons', hset_cons', gcM_n, gcM_c, stp, opPick, opBox, justO, just, Rd.bind, Rd.run, Rd.opt, upds, acells, zeroCells, tsz, rdCells, fieldOf, aFieldAddr, aLoad, aStore, opStore, opExtract, fresh, aIndexAddr, aNum, aBin, aInt, putC, Nat.reduceAdd, Nat.reduceLT, Nat.reduceBEq, Nat.reduceEqDiff, Nat.reduceLeDiff, ↓reduceIte, liveBlk_eq, Nat.zero_add, Nat.add_zero, List.nil_append, rtX_some, addT_some, drX_some, runT_nil, runT_cons, neat_eq, descF_nil', descF_cons', ascH_nil', ascH_cons', stpT, ↓gdT, Rd.foot, writing, touching, Tr.empty, dynPairs, apartT, disj, List.isEmpty_nil, List.isEmpty_cons, List.map_nil, Bool.not_false, Bool.not_true, Bool.true_or, Bool.or_true, Bool.or_false, Bool.and_true, Bool.true_and, Bool.and_self, decide_true, decide_false, putD_some, putD_none, and_true, true_and, Int.natCast_nonneg, Int.toNat_natCast, aCall, snaps, List.append_nil, Option.map_some, List.elem_cons, List.elem_nil, List.length_cons, List.length_nil, List.getElem?_cons_zero, List.getElem?_cons_succ, List.drop_zero, List.take_succ_cons, List.take_nil, List.set_cons_zero, List.set_cons_succ, frz_nil, seqN, bindN, regN, snap_int, snap_ref, List.all_cons, List.all_nil, List.cons_append, Nat.le_refl, Nat.mul_one, List.not_mem_nil, beq_self_eq_true, bne_self_eq_false, Bool.false_eq_true, T_3, T_22, T_45, T_27, x7_61, r7_19_l, s7_19_0, x7_64, x7_65, x7_63, x7_69, r7_20_l, s7_20_0, s7_20_1, x7_71, r7_21_l, s7_21_0, s7_21_1, s7_21_2, s7_21_3, s7_21_4, s7_21_5, s7_21_6, s7_21_7, s7_21_8, x7_73, r7_22_l, s7_22_0, s7_22_1, s7_22_2, s7_22_3, s7_22_4, s7_22_5, s7_22_6, s7_22_7, s7_22_8, s7_22_9, x7_76, r7_23_l, r7_23_dr, r7_23_an, s7_23_0, s7_23_1, s7_23_2, s7_23_3, s7_23_4, s7_23_5, s7_23_6, s7_23_7, s7_23_8, x7_79, r7_24_l, s7_24_0, x7_80, x7_78, x7_81, x7_77, x7_75, x7_83, r7_25_l, s7_25_0, s7_25_1, s7_25_2, s7_25_3, x7_87, r7_26_l, r7_26_dr, r7_26_an, s7_26_0, s7_26_1, s7_26_2, s7_26_3, s7_26_4, s7_26_5, s7_26_6, s7_26_7, s7_26_8, s7_26_9, s7_26_10, s7_26_11, s7_26_12, x7_90, r7_27_l, s7_27_0, x7_91, x7_89, x7_92, x7_88, x7_86, x7_94, r7_28_l, s7_28_0, s7_28_1, s7_28_2, s7_28_3, s7_28_4, s7_28_5, s7_28_6, s7_28_7, s7_28_8, x7_96, r7_29_l, s7_29_0, s7_29_1, s7_29_2, x7_99, r7_30_l, s7_30_0, x7_100, x7_98, x7_101, x7_97, x7_95, x7_93, x7_85, x7_102, x7_84, x7_82, x7_74, x7_72, x7_70, x7_68, x7_67, x7_103, r7_31_l, s7_31_0, s7_31_1, x7_66, x7_62, x7_60, List.all_cons, List.all_nil, List.getD_cons_zero, List.getD_cons_succ, beq_self_eq_true, r2S, g1, w1, w2, re, fa, ra, il, il2, t1, t2, eqFr, f0, f1, lp, wa, wb, eT, lT, tT, cw, hq, if_pos, putC, Nat.zero_add]
  match bs, hb5 with
  | [_, _, _, _, _], _ => exact ⟨_, rfl, rfl⟩
def othE (hs bs : List Int) : Nat → Int
  | 0 => 0
  | i + 1 => othE hs bs i + 1 - (bs.getD i 0).tmod (8 * hs.getD i 0 + 2) + 4 * hs.getD i 0
def othS (hs ws bs : List Int) (i : Nat) : Stone := ⟨4 * hs.getD i 0, othE hs bs i + 1 - (bs.getD i 0).tmod (8 * hs.getD i 0 + 2), ws.getD i 0, ws.getD i 0⟩
def othL (hs ws bs : List Int) (i : Nat) : List Stone := (List.range i).map (othS hs ws bs)
theorem othL_length (hs ws bs i) : (othL hs ws bs i).length = i := by simp [othL]
theorem othL_succ (hs ws bs i) : othL hs ws bs (i + 1) = othL hs ws bs i ++ [othS hs ws bs i] := by simp [othL, List.range_succ]
theorem othL_at {hs ws bs : List Int} {n i : Nat} (h : i < n) : (othL hs ws bs n)[i]? = some (othS hs ws bs i) := by simp [othL, h]
theorem othE_b {hs ws bs : List Int} (h : Sml hs ws) (hbs : BOk bs) : ∀ i, i ≤ ws.length → -(40 * (i : Int)) ≤ othE hs bs i ∧ othE hs bs i ≤ 40 * i
  | 0, _ => by simp [othE]
  | i + 1, hi => by
    have ih := othE_b h hbs i (by omega)
    have x := h.ok.h i (by omega)
    have x4 := h.h4 i (by omega)
    have n4 := h.n4
    obtain ⟨b, hb⟩ := at_ex (l := bs) (k := i) (by have := hbs.l; omega)
    obtain ⟨b0, b1⟩ := hbs.b i b hb
    have hb' : bs.getD i 0 = b := by simp [hb]
    obtain ⟨t1, t2⟩ := tmod_b b0 (8 * hs.getD i 0 + 2) (by omega)
    simp only [othE, hb']
    omega
abbrev r3S (hs ws bs : List Int) (i : Nat) (out : List Stone) : St := ([(180, .int .i64 i), (179, .int .i64 ws.length), (22, poutV 214 out), (21, .int .i64 (othE hs bs i)), (7, .int .i64 ws.length), (6, rW ws), (5, rI ws), (3, .ptr 3 0 5)],
  (3, ⟨.box, bcells bs⟩) :: (31, ⟨.froz, icells hs⟩) :: (poutH 214 out ++ [(292, ⟨.froz, icells ws⟩)]))
theorem r3_go {C : Callee} {hs ws bs : List Int} (h : Sml hs ws) (hbs : BOk bs) (i : Nat) (hi : i < ws.length) (out : List Stone) (ho : out.length = i) :
    ∃ s', execA E C (fg 7) 0 261 [] 1000 c7_113 (r3S hs ws bs i out) = some (.normal, s') ∧ headA [] s' = r3S hs ws bs (i + 1) (out ++ [othS hs ws bs i]) := by
  have be := othE_b h hbs i (by omega)
  obtain ⟨ok, n4, h4, w5⟩ := h
  obtain ⟨x, hx⟩ := at_ex (l := hs) (k := i) (by have := ok.eq; omega)
  obtain ⟨w, hw⟩ := at_ex (l := ws) (k := i) hi
  obtain ⟨b, hb⟩ := at_ex (l := bs) (k := i) (by have := hbs.l; omega)
  have gx : hs.getD i 0 = x := by simp [hx]
  have gw : ws.getD i 0 = w := by simp [hw]
  have gb : bs.getD i 0 = b := by simp [hb]
  have bx := ok.h i hi
  have bx4 := h4 i hi
  rw [gx] at bx bx4
  obtain ⟨b0, b1⟩ := hbs.b i b hb
  obtain ⟨t1, t2⟩ := tmod_b b0 (8 * x + 2) (by omega)
  have il : (icells hs).length = ws.length := by rw [icells_length, ok.eq]
  have il2 : (icells ws).length = ws.length := icells_length ..
  have hb5 := hbs.l
  have hbl : (bcells bs).length = 5 := by rw [bcells_length, hb5]
  have hbi : (i : Int) < 5 := by omega
  have hbi2 : i < 5 := by omega
  have nz : ¬ 8 * x + 2 = 0 := by omega
  have g1 : (i : Int) < ws.length := by omega
  have eS : othS hs ws bs i = ⟨4 * x, othE hs bs i + 1 - b.tmod (8 * x + 2), w, w⟩ := by rw [othS, gx, gw, gb]
  have eE : othE hs bs (i + 1) = othE hs bs i + 1 - b.tmod (8 * x + 2) + 4 * x := by rw [othE, gx, gb]
  rw [eS]
  simp only [r3S, eE]
  generalize othE hs bs i = e at *
  cases out with
  | nil =>
    simp only [poutV, poutH, List.nil_append, pcells, sc, List.append_nil]
    simp (disch := omega) only [condX_bool, blockX_normal, Bool.not_true, Bool.not_false, run_nil, run_cons, fget_cons', fput_cons', forget_nil, forget_cons', hget_nil', hget_cons', hset_cons', gcM_n, gcM_c, stp, opBox, justO, just, Rd.bind, Rd.run, Rd.opt, upds, acells, zeroCells, tsz, elemT, rdCells, fieldOf, aFieldAddr, aLoad, aStore, opStore, fresh, aIndexAddr, aNum, aBuiltin, aBin, aInt, putC, evO, Nat.reduceAdd, Nat.reduceMul, Nat.reduceLT, Nat.reduceGT, Nat.reduceBEq, Nat.reduceEqDiff, Nat.reduceLeDiff, ↓reduceIte, reduceCtorEq, liveBlk_eq, Nat.zero_add, Nat.add_zero, ne_eq, List.nil_append, List.getElem?_toArray, rtX_some, addT_some, drX_some, runT_nil, runT_cons, neat_eq, descF_nil', descF_cons', ascH_nil', ascH_cons', stpT, Rd.foot, writing, touching, Tr.empty, dynPairs, apartT, disj, List.isEmpty_nil, List.isEmpty_cons, List.map_nil, List.map_cons, Bool.not_false, Bool.not_true, Bool.true_or, Bool.or_true, Bool.or_false, Bool.and_true, Bool.true_and, Bool.and_self, decide_true, not_true_eq_false, or_self, aBuildSlice, partsOf, fillA, repC, isSliceT, aAppend, srcOf, window, putD_some, putD_none, and_true, Int.natCast_nonneg, Int.ofNat_lt, Int.toNat_natCast, snaps, List.append_nil, Option.map_some, List.elem_cons, List.elem_nil, List.length_cons, List.length_nil, List.getElem?_cons_zero, List.getElem?_cons_succ, List.drop_zero, List.take_succ_cons, List.take_nil, List.set_cons_zero, List.set_cons_succ, frz_nil, seqN, bindN, regN, snap_int, aConv, aBuild, placeF, List.all_cons, List.all_nil, List.cons_append, Nat.le_refl, Nat.mul_one, Nat.zero_mul, List.not_mem_nil, beq_self_eq_true, Nat.lt_irrefl, Bool.false_eq_true, T_3, T_22, T_45, T_47, T_5, T_71, x7_114, r7_35_l, s7_35_0, x7_117, x7_118, x7_116, x7_122, r7_36_l, s7_36_0, s7_36_1, x7_124, r7_37_l, r7_37_dr, r7_37_an, s7_37_0, s7_37_1, s7_37_2, s7_37_3, s7_37_4, s7_37_5, s7_37_6, s7_37_7, s7_37_8, s7_37_9, s7_37_10, s7_37_11, s7_37_12, s7_37_13, s7_37_14, s7_37_15, s7_37_16, s7_37_17, s7_37_18, s7_37_19, s7_37_20, s7_37_21, s7_37_22, s7_37_23, s7_37_24, s7_37_25, s7_37_26, s7_37_27, s7_37_28, s7_37_29, x7_126, r7_38_l, s7_38_0, s7_38_1, s7_38_2, s7_38_3, s7_38_4, x7_127, r7_39_l, s7_39_0, s7_39_1, s7_39_2, s7_39_3, s7_39_4, s7_39_5, x7_125, x7_123, x7_121, x7_120, x7_128, r7_40_l, s7_40_0, s7_40_1, x7_119, x7_115, x7_113, List.all_cons, List.all_nil, List.getD_cons_zero, List.getD_cons_succ, beq_self_eq_true, g1, il, il2, icells_at hx, icells_at hw, bcells_at hb, hbl, hbi2, nz, wrp64, room44 (show 1 ≤ 1000000 by omega), wrp_succ (show i < 1000000 by omega), List.length_nil, putC]
    match bs, hb5 with
    | [_, _, _, _, _], _ => exact ⟨_, rfl, rfl⟩
  | cons a o =>
    have hlen : (pcells (a :: o)).length = (o.length + 1) * 4 := by rw [pcells_length]; rfl
    have hno : ¬ o.length + 1 + 1 ≤ o.length + 1 := by omega
    have ho2 : o.length + 1 = i := by simpa using ho
    have hl2 : ∀ z : Stone, (o ++ [z]).length = o.length + 1 := fun z => by simp
    have htk : List.take ((o.length + 1) * 4) (pcells (a :: o)) = pcells (a :: o) := take_pcs (a :: o)
    have hsn := pcells_snoc (a :: o) ⟨4 * x, e + 1 - b.tmod (8 * x + 2), w, w⟩
    simp only [sc, List.cons_append] at hsn
    simp only [poutV, poutH, List.cons_append, List.nil_append, hl2]
    simp (disch := omega) only [condX_bool, blockX_normal, Bool.not_true, Bool.not_false, run_nil, run_cons, fget_cons', fput_cons', forget_nil, forget_cons', hget_nil', hget_cons', hset_cons', gcM_n, gcM_c, stp, opBox, justO, just, Rd.bind, Rd.run, Rd.opt, upds, acells, zeroCells, tsz, elemT, rdCells, fieldOf, aFieldAddr, aLoad, aStore, opStore, fresh, aIndexAddr, aNum, aBuiltin, aBin, aInt, putC, evO, Nat.reduceAdd, Nat.reduceMul, Nat.reduceLT, Nat.reduceGT, Nat.reduceBEq, Nat.reduceEqDiff, Nat.reduceLeDiff, ↓reduceIte, reduceCtorEq, liveBlk_eq, Nat.zero_add, Nat.add_zero, ne_eq, List.nil_append, List.getElem?_toArray, rtX_some, addT_some, drX_some, runT_nil, runT_cons, neat_eq, descF_nil', descF_cons', ascH_nil', ascH_cons', stpT, Rd.foot, writing, touching, Tr.empty, dynPairs, apartT, disj, List.isEmpty_nil, List.isEmpty_cons, List.map_nil, List.map_cons, Bool.not_false, Bool.not_true, Bool.true_or, Bool.or_true, Bool.or_false, Bool.and_true, Bool.true_and, Bool.and_self, decide_true, not_true_eq_false, or_self, aBuildSlice, partsOf, fillA, repC, isSliceT, aAppend, srcOf, window, putD_some, putD_none, and_true, Int.natCast_nonneg, Int.ofNat_lt, Int.toNat_natCast, snaps, List.append_nil, Option.map_some, List.elem_cons, List.elem_nil, List.length_cons, List.length_nil, List.getElem?_cons_zero, List.getElem?_cons_succ, List.drop_zero, List.take_succ_cons, List.take_nil, List.set_cons_zero, List.set_cons_succ, frz_nil, seqN, bindN, regN, snap_int, aConv, aBuild, placeF, List.all_cons, List.all_nil, Nat.le_refl, Nat.mul_one, Nat.zero_mul, List.not_mem_nil, beq_self_eq_true, Nat.lt_irrefl, Bool.false_eq_true, T_3, T_22, T_45, T_47, T_5, T_71, x7_114, r7_35_l, s7_35_0, x7_117, x7_118, x7_116, x7_122, r7_36_l, s7_36_0, s7_36_1, x7_124, r7_37_l, r7_37_dr, r7_37_an, s7_37_0, s7_37_1, s7_37_2, s7_37_3, s7_37_4, s7_37_5, s7_37_6, s7_37_7, s7_37_8, s7_37_9, s7_37_10, s7_37_11, s7_37_12, s7_37_13, s7_37_14, s7_37_15, s7_37_16, s7_37_17, s7_37_18, s7_37_19, s7_37_20, s7_37_21, s7_37_22, s7_37_23, s7_37_24, s7_37_25, s7_37_26, s7_37_27, s7_37_28, s7_37_29, x7_126, r7_38_l, s7_38_0, s7_38_1, s7_38_2, s7_38_3, s7_38_4, x7_127, r7_39_l, s7_39_0, s7_39_1, s7_39_2, s7_39_3, s7_39_4, s7_39_5, x7_125, x7_123, x7_121, x7_120, x7_128, r7_40_l, s7_40_0, s7_40_1, x7_119, x7_115, x7_113, List.all_cons, List.all_nil, List.getD_cons_zero, List.getD_cons_succ, beq_self_eq_true, g1, il, il2, icells_at hx, icells_at hw, bcells_at hb, hbl, hbi2, nz, hlen, hno, htk, hsn, wrp64, room44 (show o.length + 1 + 1 ≤ 1000000 by omega), wrp_succ (show i < 1000000 by omega), putC]
    match bs, hb5 with
    | [_, _, _, _, _], _ => exact ⟨_, rfl, rfl⟩
abbrev r4S (hs ws : List Int) (l : List Stone) (i : Nat) : St := ([(226, .int .i64 i), (225, .int .i64 ws.length), (224, .ref 214 0 ws.length ws.length (ws.length * 4) 4 false), (7, .int .i64 ws.length), (6, rW ws), (5, rI ws)], [(31, ⟨.froz, icells hs⟩), (214, ⟨.row, pcells l⟩), (292, ⟨.froz, icells ws⟩)])
theorem r4_go {C : Callee} {hs ws : List Int} (h : Sml hs ws) {l : List Stone} (hl : l.length = ws.length) (i : Nat) (hi : i < ws.length) {R Q : Int} {s : Stone} (hs' : l[i]? = some s) (hb1 : -1000 ≤ s.pos + s.half ∧ s.pos + s.half ≤ 1000 ∧ -1000 ≤ s.pos ∧ s.pos ≤ 1000) (hQ : 0 ≤ Q ∧ Q ≤ 184528125) (hR : 0 ≤ R ∧ R ≤ 4643840409600000) (hle : (s.pos + s.half) * Q ≤ 4 * R)
    (re : ∀ (site : Nat → Nat) seen e1 e2, aBack site true seen (thaw C 44 [.imm (icells hs) ws.length e1, .imm (icells ws) ws.length e2, .int .i64 i] [] 0) = .pure (.tup [.int .i64 R, .int .i64 Q], [])) :
    ∃ s', execA E C (fg 7) 0 261 [] 1000 c7_137 (r4S hs ws l i) = some (.normal, s') ∧ headA [] s' = r4S hs ws l (i + 1) := by
  have n4 := h.n4
  have il : (icells hs).length = ws.length := by rw [icells_length, h.ok.eq]
  have il2 : (icells ws).length = ws.length := icells_length ..
  have t1 : List.take ws.length (icells hs) = icells hs := List.take_of_length_le (by omega)
  have t2 : List.take ws.length (icells ws) = icells ws := List.take_of_length_le (by omega)
  have a3 := pcells_at l i s hs'
  have lp : (pcells l).length = ws.length * 4 := by rw [pcells_length, hl]
  have g1 : (i : Int) < ws.length := by omega
  have m1 : (s.pos + s.half) * Q ≤ 1000 * 184528125 := by
    have a := Int.mul_le_mul_of_nonneg_right (show s.pos + s.half ≤ 1000 by omega) hQ.1
    omega
  have m2 : -1000 * 184528125 ≤ (s.pos + s.half) * Q := by
    have a := Int.mul_le_mul_of_nonneg_right (show -1000 ≤ s.pos + s.half by omega) hQ.1
    omega
  have w1 : wrp .i64 (s.pos + s.half) = s.pos + s.half := wrp64 (by omega)
  have g2 : ¬ (s.pos + s.half) * Q > 4 * R := by omega
  simp only [sc] at a3
  simp (disch := omega) only [condX_bool, blockX_normal, run_nil, run_cons, fget_cons', fput_nil, fput_cons', forget_nil, forget_cons', hget_nil', hget_cons', hset_cons', gcM_n, gcM_c, stp, opBox, justO, just, Rd.bind, Rd.run, Rd.opt, upds, acells, zeroCells, tsz, rdCells, fieldOf, aFieldAddr, aLoad, aStore, opStore, opExtract, fresh, aIndexAddr, aNum, aBin, aInt, putC, Nat.reduceAdd, Nat.reduceLT, Nat.reduceBEq, Nat.reduceEqDiff, Nat.reduceLeDiff, ↓reduceIte, liveBlk_eq, Nat.zero_add, Nat.add_zero, List.nil_append, Bool.and_true, decide_true, decide_false, putD_some, putD_none, and_true, Int.natCast_nonneg, Int.toNat_natCast, aCall, snaps, List.append_nil, List.elem_cons, List.elem_nil, List.length_cons, List.length_nil, List.getElem?_cons_zero, List.getElem?_cons_succ, List.drop_zero, List.set_cons_zero, List.set_cons_succ, frz_nil, seqN, bindN, regN, snap_int, snap_ref, List.cons_append, Nat.le_refl, Nat.mul_one, List.not_mem_nil, beq_self_eq_true, Bool.false_eq_true, T_3, T_22, T_45, x7_138, r7_43_l, s7_43_0, x7_141, x7_142, x7_140, x7_146, r7_44_l, s7_44_0, s7_44_1, s7_44_2, s7_44_3, s7_44_4, s7_44_5, x7_148, r7_45_l, s7_45_0, s7_45_1, s7_45_2, s7_45_3, s7_45_4, s7_45_5, s7_45_6, s7_45_7, s7_45_8, x7_150, r7_46_l, s7_46_0, s7_46_1, s7_46_2, s7_46_3, s7_46_4, s7_46_5, s7_46_6, s7_46_7, s7_46_8, s7_46_9, x7_153, r7_47_l, s7_47_0, x7_154, x7_152, x7_155, x7_151, x7_149, x7_147, x7_145, x7_144, x7_156, r7_48_l, s7_48_0, s7_48_1, x7_143, x7_139, x7_137, beq_self_eq_true, r4S, g1, il, il2, t1, t2, a3, lp, re, w1, g2, wrp64, if_pos, wrp_succ (show i < 1000000 by omega), putC]
  exact ⟨_, rfl, rfl⟩
end Go.AM.Ytmhbnflnlglljaa
end
