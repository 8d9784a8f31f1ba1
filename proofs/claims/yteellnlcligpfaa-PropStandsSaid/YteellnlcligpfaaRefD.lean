/- What the reference tells, by the same functions as the given package. Own work of this project. -/
import Derived.Test.YteellnlcligpfaaPlainA
namespace Go.AM.Yteellnlcligpfaa
open Go Go.AM
set_option maxRecDepth 100000
set_option maxHeartbeats 2000000

theorem take_rw (l : List Stone) (k : Nat) (side : Int) : List.take l.length (icells (rworstI l k side l.length)) = icells (rworstI l k side l.length) := List.take_of_length_le (by rw [icells_length, rworstI_length]; exact Nat.le_refl _)
theorem len_rw (l : List Stone) (k : Nat) (side : Int) : (icells (rworstI l k side l.length)).length = l.length := by rw [icells_length, rworstI_length]
theorem rtips_rw {d : Nat} {site : Nat → Nat} {seen : List Nat} {l : List Stone} {ex ex' : Bool} (h : OkP l) (side : Int) {k : Nat} (hk : k ≤ l.length) :
    aBack site true seen (thaw (callA E fg 1000 (d + 3)) 59 [.imm (pcells l) l.length ex, .imm (icells (rworstI l k side l.length)) l.length ex', .int .i64 k] [] 0) = .pure (.bool (rtips l (rworstI l k side l.length) k), []) := by
  have := rtips_call (d := d) (site := site) (seen := seen) (ex := ex) (ex' := ex') h (between_okW h (rworst_between h k side)) hk
  rw [rworstI_length] at this
  exact this

/-- The lowest level that may tip, or the number of stones. -/
def rweakN (l : List Stone) : Int := if weakL l = -1 then l.length else weakL l
theorem weakFrom_cases (l : List Stone) : ∀ (m k : Nat), weakFrom l k m = -1 ∨ ((k : Int) ≤ weakFrom l k m ∧ weakFrom l k m < k + m)
  | 0, k => .inl rfl
  | m + 1, k => by
    simp only [weakFrom]
    split
    · right; omega
    · rcases weakFrom_cases l m (k + 1) with h | h
      · exact .inl h
      · right; omega
def rweakFrom (l : List Stone) (k : Nat) : Nat → Int
  | 0 => l.length
  | m + 1 => if mayTip l k 1 = true ∨ mayTip l k (-1) = true then k else rweakFrom l (k + 1) m
theorem rweakFrom_eq (l : List Stone) : ∀ (m k : Nat), rweakFrom l k m = if weakFrom l k m = -1 then (l.length : Int) else weakFrom l k m
  | 0, k => rfl
  | m + 1, k => by
    simp only [rweakFrom, weakFrom]
    by_cases h : mayTip l k 1 = true ∨ mayTip l k (-1) = true
    · have hne : (k : Int) ≠ -1 := by omega
      simp only [h, if_true, hne, if_false]
    · simp only [h, if_false]
      exact rweakFrom_eq l m (k + 1)
theorem rweak_loop {d : Nat} {l : List Stone} {ex : Bool} (h : OkP l) : ∀ (m k F : Nat) (H : AHeap), k + m = l.length → m < F →
    ∃ φ, iterA (execA E (callA E fg 1000 (d + 3)) (fg 45) 0 29 [] 1000 c45_7) (headA []) F ([(3, .int .i64 k), (0, .imm (pcells l) l.length ex)], H) = some (.exit 0, φ) ∧ forget φ.1 [0, 25] = [(3, .int .i64 (rweakFrom l k m))]
  | 0, k, F + 1, H, hk, _ => by
    obtain rfl : k = l.length := by omega
    rw [iterA_succ]
    simp only [seqX_normal, seqX_exit, bindR_some, regX_some, condX_bool, ↓gd, fset_cons, Bool.not_true, run_nil, run_cons, fget_cons', fput_cons', forget_nil, forget_cons', gcM, stp, opPick, just, Rd.bind, Rd.run, Rd.opt, upds, aLen, aBuiltin, aBin, aInt, Nat.reduceBEq, Nat.reduceEqDiff, Nat.reduceLeDiff, ↓reduceIte, reduceCtorEq, headA_drop, refsF, refsOf, List.getElem?_toArray, Bool.not_true, decide_false, putD_some, List.append_nil, List.elem_cons, List.elem_nil, List.getElem?_cons_zero, T_25, x45_9, r45_2_l, s45_2_0, s45_2_1, s45_2_2, s45_2_3, s45_2_4, s45_2_5, s45_2_6, s45_2_7, s45_2_8, s45_2_9, s45_2_10, s45_2_11, s45_2_12, s45_2_13, s45_2_14, s45_2_15, s45_2_16, s45_2_17, s45_2_18, s45_2_19, s45_2_20, s45_2_21, x45_11, x45_12, x45_10, x45_8, x45_7, Int.lt_irrefl, decide_false, Bool.false_eq_true, rweakFrom]
    exact ⟨_, rfl, rfl⟩
  | m + 1, k, F + 1, H, hk, hF => by
    have hkl : k < l.length := by omega
    have hle := h.le
    obtain ⟨φ, ih, ih2⟩ := rweak_loop (d := d) (ex := ex) h m (k + 1) F (if true then [(12, ⟨.row, icells (rworstI l k 1 l.length)⟩), (21, ⟨.row, icells (rworstI l k (-1) l.length)⟩)] else []) (by omega) (by omega)
    have ht := tips_may h (Nat.le_of_lt hkl)
    have hr1 := fun site => rworst_call (d := d + 1) (site := site) (ex := ex) h (Nat.le_of_lt hkl) (side := 1) (.inl rfl)
    have hr2 := fun site => rworst_call (d := d + 1) (site := site) (ex := ex) h (Nat.le_of_lt hkl) (side := -1) (.inr rfl)
    have hc := fun site seen ex' side => rtips_rw (d := d) (site := site) (seen := seen) (ex := ex) (ex' := ex') h side (Nat.le_of_lt hkl)
    rw [iterA_succ]
    simp only [if_true] at ih
    cases t1 : rtips l (rworstI l k 1 l.length) k
    · cases t2 : rtips l (rworstI l k (-1) l.length) k
      · rw [t1, t2] at ht
        have hf : ¬ (mayTip l k 1 = true ∨ mayTip l k (-1) = true) := fun h => by have := ht.2 h; simp at this
        have hw : rweakFrom l k (m + 1) = rweakFrom l (k + 1) m := if_neg hf
        rw [hw]
        simp only [seqX_normal, bindR_some, regX_some, condX_bool, blockX_normal, ↓gd, fset_cons, Bool.not_false, run_nil, run_cons, fget_cons', fput_cons', forget_nil, forget_cons', hget_nil', hget_cons', hset_nil', hset_cons', gcM, stp, opPick, justO, just, Rd.bind, Rd.run, Rd.opt, upds, fresh, aLen, aBuiltin, aBin, aInt, Nat.reduceMul, Nat.reduceBEq, Nat.reduceEqDiff, Nat.reduceLeDiff, Int.reduceNeg, ↓reduceIte, reduceCtorEq, liveBlk_eq, Nat.zero_add, headA_drop, refsF, refsOf, List.nil_append, List.getElem?_toArray, Bool.not_false, Bool.and_true, decide_true, aUn, putD_some, Int.ofNat_lt, aCall, snaps, snap, List.append_nil, List.elem_cons, List.elem_nil, List.getElem?_cons_zero, List.drop_zero, T_25, x45_9, r45_2_l, s45_2_0, s45_2_1, s45_2_2, s45_2_3, s45_2_4, s45_2_5, s45_2_6, s45_2_7, s45_2_8, s45_2_9, s45_2_10, s45_2_11, s45_2_12, s45_2_13, s45_2_14, s45_2_15, s45_2_16, s45_2_17, s45_2_18, s45_2_19, s45_2_20, s45_2_21, x45_11, x45_12, x45_10, x45_8, x45_14, r45_3_l, s45_3_0, s45_3_1, s45_3_2, x45_13, x45_7, hkl, wrp_succ (show k < 1000000 by omega), hr1, hr2, hc, t1, t2, take_rw, len_rw, Nat.mul_one, Nat.le_refl, ih]
        exact ⟨_, rfl, ih2⟩
      · rw [t1, t2] at ht
        have hf : mayTip l k 1 = true ∨ mayTip l k (-1) = true := ht.1 (.inr rfl)
        have hw : rweakFrom l k (m + 1) = k := if_pos hf
        rw [hw]
        simp only [seqX_normal, seqX_exit, bindR_some, regX_some, condX_bool, ↓gd, fset_cons, Bool.not_true, Bool.not_false, run_nil, run_cons, fget_cons', fput_cons', forget_nil, forget_cons', hget_nil', hget_cons', hset_nil', hset_cons', gcM, stp, opPick, justO, just, Rd.bind, Rd.run, Rd.opt, upds, fresh, aLen, aBuiltin, aBin, aInt, Nat.reduceMul, Nat.reduceBEq, Nat.reduceEqDiff, Nat.reduceLeDiff, Int.reduceNeg, ↓reduceIte, reduceCtorEq, liveBlk_eq, Nat.zero_add, headA_drop, refsF, refsOf, List.nil_append, List.getElem?_toArray, Bool.not_false, Bool.not_true, Bool.and_true, decide_true, aUn, putD_some, Int.ofNat_lt, aCall, snaps, snap, List.append_nil, List.elem_cons, List.elem_nil, List.getElem?_cons_zero, List.drop_zero, T_25, x45_9, r45_2_l, s45_2_0, s45_2_1, s45_2_2, s45_2_3, s45_2_4, s45_2_5, s45_2_6, s45_2_7, s45_2_8, s45_2_9, s45_2_10, s45_2_11, s45_2_12, s45_2_13, s45_2_14, s45_2_15, s45_2_16, s45_2_17, s45_2_18, s45_2_19, s45_2_20, s45_2_21, x45_11, x45_12, x45_10, x45_8, x45_7, hkl, hr1, hr2, hc, t1, t2, take_rw, len_rw, Nat.mul_one, Nat.le_refl]
        exact ⟨_, rfl, rfl⟩
    · rw [t1] at ht
      have hf : mayTip l k 1 = true ∨ mayTip l k (-1) = true := ht.1 (.inl rfl)
      have hw : rweakFrom l k (m + 1) = k := if_pos hf
      rw [hw]
      simp only [seqX_normal, seqX_exit, bindR_some, regX_some, condX_bool, ↓gd, fset_cons, Bool.not_true, run_nil, run_cons, fget_cons', fput_cons', forget_nil, forget_cons', hget_nil', hget_cons', hset_nil', gcM, stp, opPick, justO, just, Rd.bind, Rd.run, Rd.opt, upds, fresh, aLen, aBuiltin, aBin, aInt, Nat.reduceMul, Nat.reduceBEq, Nat.reduceEqDiff, Nat.reduceLeDiff, ↓reduceIte, reduceCtorEq, liveBlk_eq, Nat.zero_add, headA_drop, refsF, refsOf, List.nil_append, List.getElem?_toArray, Bool.not_true, Bool.and_true, decide_true, aUn, putD_some, Int.ofNat_lt, aCall, snaps, snap, List.append_nil, List.elem_cons, List.elem_nil, List.getElem?_cons_zero, List.drop_zero, T_25, x45_9, r45_2_l, s45_2_0, s45_2_1, s45_2_2, s45_2_3, s45_2_4, s45_2_5, s45_2_6, s45_2_7, s45_2_8, s45_2_9, s45_2_10, s45_2_11, s45_2_12, s45_2_13, s45_2_14, s45_2_15, s45_2_16, s45_2_17, s45_2_18, s45_2_19, s45_2_20, s45_2_21, x45_11, x45_12, x45_10, x45_8, x45_7, hkl, hr1, hc, t1, take_rw, len_rw, Nat.mul_one, Nat.le_refl]
      exact ⟨_, rfl, rfl⟩
end Go.AM.Yteellnlcligpfaa
