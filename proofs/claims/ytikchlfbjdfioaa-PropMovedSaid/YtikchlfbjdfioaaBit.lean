/- Snapshots by equations; what is known where no level may tip. Own work of this project. -/
import Derived.Test.YtikchlfbjdfioaaCorA
import Derived.Test.YtikchlfbjdfioaaAmD
namespace Go.AM
/-! Steps that the kernel is not to find again by itself: it would run the program. -/
theorem seqN (s : St) (k) : seqX (some (.normal, s)) k = k s := nrfl rfl
theorem bindN (s : St) (k) : bindR (some s) k = k s := nrfl rfl
theorem regN (s : St) (k) : regX (some s) k = some (.normal, k s) := nrfl rfl
theorem snap_int (d : Nat) (k : IntKind) (z : Int) : snap (d + 1) (.int k z) = .pure (.int k z, []) := rfl
theorem snap_nilsl (d : Nat) : snap (d + 1) .nilsl = .pure (.nilsl, []) := rfl
theorem snap_imm (d : Nat) (c : List AV) (n : Nat) (ex : Bool) : snap (d + 1) (.imm c n ex) = .pure (.imm c n ex, []) := rfl
theorem snap_ref (d id off len cap gl sz : Nat) (ex : Bool) : snap (d + 1) (.ref id off len cap gl sz ex) = (Rd.liveBlk id gl).bind fun b =>
      if off + len * sz ≤ b.cells.length then
        match b.st with
        | .box => (snaps d ((b.cells.drop off).take (len * sz))).bind fun x =>
          .pure (.imm x.1 len (ex && decide (cap = len)), id :: x.2)
        | _ => .pure (.imm ((b.cells.drop off).take (len * sz)) len (ex && decide (cap = len)), [id])
      else .fail := rfl
end Go.AM
namespace Go.AM.Ytikchlfbjdfioaa
open Go Go.AM
theorem take_pc2 (l : List Stone) : List.take (l.length * 4) (pcells l) = pcells l := List.take_of_length_le (by rw [pcells_length]; exact Nat.le_refl _)
theorem weak_none {l : List Stone} : ∀ (m k : Nat), weakFrom l k m < 0 → ∀ i, k ≤ i → i < k + m → mayTip l i 1 = false ∧ mayTip l i (-1) = false
  | 0, _, _, i, h1, h2 => by omega
  | m + 1, k, h, i, h1, h2 => by
    simp only [weakFrom] at h
    split at h
    · omega
    · rename_i hn
      by_cases hik : i = k
      · subst hik
        exact ⟨by cases hh : mayTip l i 1 <;> simp_all, by cases hh : mayTip l i (-1) <;> simp_all⟩
      · exact weak_none m (k + 1) h i (by omega) (by omega)
theorem weak_worst {l : List Stone} (h : weakL l < 0) {k : Nat} (hk : k < l.length) : worstSum l k 1 ≤ 0 ∧ worstSum l k (-1) ≤ 0 := by
  obtain ⟨h1, h2⟩ := weak_none l.length 0 h k (by omega) (by omega)
  simp only [mayTip, decide_eq_false_iff_not] at h1 h2
  omega
end Go.AM.Ytikchlfbjdfioaa
