/- PropSeries: equal stones, in plain numbers. Own work of this project. -/
import Derived.Test.YtikchlfbjdfioaaSerD
namespace Go.AM.Ytikchlfbjdfioaa
open Go Go.AM
set_option maxRecDepth 100000
set_option maxHeartbeats 4000000

/-! The sum of parts of 1, as the law adds it up -/
def hND : Nat → Int × Int
  | 0 => (0, 1)
  | i + 1 => ((hND i).1 * ((i + 1 : Nat) : Int) + (hND i).2, (hND i).2 * ((i + 1 : Nat) : Int))
theorem hND_b : ∀ i, i ≤ 12 → 0 ≤ (hND i).1 ∧ (hND i).1 ≤ 1500000000 ∧ 0 < (hND i).2 ∧ (hND i).2 ≤ 500000000 := by decide
/-! .. and as placings do -/
def pq (n : Nat) : Nat → Int × Int
  | 0 => (0, 1)
  | i + 1 => ((pq n i).1 * ((n - i : Nat) : Int) + (pq n i).2, (pq n i).2 * ((n - i : Nat) : Int))
theorem pq_hND : ∀ n, n ≤ 5 → pq n n = hND n := by decide
theorem pq_pos (n : Nat) : ∀ i, i ≤ n → 0 < (pq n i).2
  | 0, _ => by simp [pq]
  | i + 1, h => by
    have := pq_pos n i (by omega)
    simp only [pq]
    exact Int.mul_pos this (by omega)

theorem fadd_rd {a b c d : Int} (hb : 0 < b) (hd : 0 < d) : fadd (rd a b) c d = rd (a * d + c * b) (b * d) := by
  have hc := rd_cross (num := a) (den := b)
  obtain ⟨p, _⟩ := rd_den (num := a) hb
  unfold fadd
  refine rd_eq (Int.mul_pos p hd) (Int.mul_pos hb hd) ?_
  generalize (rd a b).num = x at *
  generalize (rd a b).den = y at *
  rw [Int.add_mul, Int.add_mul]
  have e1 : x * d * (b * d) = a * d * (y * d) := by
    calc x * d * (b * d) = (x * b) * (d * d) := by ac_rfl
      _ = a * d * (y * d) := by rw [hc]; ac_rfl
  have e2 : c * y * (b * d) = c * b * (y * d) := by ac_rfl
  rw [e1, e2]
theorem fadd_step {a b L w m : Int} (hb : 0 < b) (hw : 0 < w) (hm : 0 < m) : fadd (rd a b) (L * w) (m * w) = rd (a * m + L * b) (b * m) := by
  rw [fadd_rd hb (Int.mul_pos hm hw)]
  refine rd_eq (Int.mul_pos hb (Int.mul_pos hm hw)) (Int.mul_pos hb hm) ?_
  rw [Int.add_mul, Int.add_mul]
  have e1 : a * (m * w) * (b * m) = a * m * (b * (m * w)) := by ac_rfl
  have e2 : L * w * b * (b * m) = L * b * (b * (m * w)) := by ac_rfl
  rw [e1, e2]
theorem allW_rep {n : Nat} {w : Int} : ∀ m k, k + m ≤ n → sumF (fun i => (List.replicate n w).getD i 0) k m = (m : Int) * w
  | 0, k, _ => by simp [sumF]
  | m + 1, k, h => by
    have ih := allW_rep (n := n) (w := w) m k (by omega)
    have e : (List.replicate n w).getD (k + m) 0 = w := by simp [List.getD_eq_getElem?_getD, List.getElem?_replicate, show k + m < n by omega]
    rw [sumF, ih, e, Int.natCast_add, Int.add_mul]
    simp
theorem rep_at {n i : Nat} (h : i < n) (w : Int) : (List.replicate n w).getD i 0 = w := by
  simp [List.getD_eq_getElem?_getD, List.getElem?_replicate, h]
theorem ctr_rep {n : Nat} {L w : Int} (hw : 0 < w) : ∀ i, i ≤ n → ctr (List.replicate n L) (List.replicate n w) i = rd (L * (pq n i).1) (pq n i).2
  | 0, _ => by
    simp only [ctr, pq, Int.mul_zero]
    rfl
  | i + 1, h => by
    have ih := ctr_rep (n := n) (L := L) hw i (by omega)
    have ha : allW (List.replicate n w) i = ((n - i : Nat) : Int) * w := by
      rw [allW, List.length_replicate]; exact allW_rep _ _ (by omega)
    rw [ctr, ih, rep_at (by omega), rep_at (by omega), ha, fadd_step (pq_pos n i (by omega)) hw (by omega)]
    simp only [pq]
    rw [Int.mul_add, Int.mul_assoc]
theorem far_rep {n : Nat} (h0 : 0 < n) (h5 : n ≤ 5) {L w : Int} (hw : 0 < w) : farF (List.replicate n L) (List.replicate n w) (n - 1) = rd ((hND n).1 * L) (hND n).2 := by
  obtain ⟨m, rfl⟩ : ∃ m, n = m + 1 := ⟨n - 1, by omega⟩
  have ha : allW (List.replicate (m + 1) w) m = w := by
    rw [allW, List.length_replicate, allW_rep _ _ (by omega), show m + 1 - m = 1 by omega]; simp
  have hp := pq_pos (m + 1) m (by omega)
  rw [farF, show m + 1 - 1 = m by omega, ha, rep_at (by omega), rep_at (by omega), ctr_rep hw m (by omega), fadd_rd hp hw, Int.sub_self, Int.zero_mul, Int.zero_mul, Int.add_zero]
  rw [show rd (L * (pq (m + 1) m).1 * w) ((pq (m + 1) m).2 * w) = rd (L * (pq (m + 1) m).1) (pq (m + 1) m).2 from rd_eq (Int.mul_pos hp hw) hp (by ac_rfl), fadd_rd hp (by omega)]
  rw [← pq_hND (m + 1) h5, pq, show m + 1 - m = 1 by omega]
  simp only [cl1, Int.mul_one]
  congr 1
  rw [Int.add_mul, Int.mul_comm L, Int.mul_comm L]
end Go.AM.Ytikchlfbjdfioaa
