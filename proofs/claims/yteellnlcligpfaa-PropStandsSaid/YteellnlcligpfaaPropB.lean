/- Sums by closures, edges, how far stones are beyond them. Own work of this project. -/
import Derived.Test.YteellnlcligpfaaPropA
namespace Go.AM.Yteellnlcligpfaa
open Go Go.AM
set_option maxRecDepth 100000
set_option maxHeartbeats 1000000

/-! ### Sums -/
def sumF (F : Nat → Int) (k : Nat) : Nat → Int
  | 0 => 0
  | m + 1 => sumF F k m + F (k + m)
theorem sumF_bound {F : Nat → Int} {M : Int} (hM : 0 ≤ M) {k n : Nat} (h : ∀ i, k ≤ i → i < n → -M ≤ F i ∧ F i ≤ M) : ∀ m, k + m ≤ n → -(M * m) ≤ sumF F k m ∧ sumF F k m ≤ M * m
  | 0, _ => by simp [sumF]
  | m + 1, hm => by
    obtain ⟨h1, h2⟩ := sumF_bound hM h m (by omega)
    obtain ⟨h3, h4⟩ := h (k + m) (by omega) (by omega)
    have e : M * ((m + 1 : Nat) : Int) = M * m + M := by rw [Int.natCast_add, Int.mul_add]; simp
    rw [e]
    simp only [sumF]
    omega

/-- A closure that is asked about the elements of a list, none of the heap's own. -/
structure Asks (C : Callee) (f : AV) (g : Nat → List AV) (F : Nat → Int) (k n : Nat) : Prop where
  pure_ : ∀ args, mutV E f args = none
  ask : ∀ (site : Nat → Nat) (i : Nat), k ≤ i → i < n → opCallV E C site true f (.int .i64 i :: g i) = .pure (.int .i64 (F i), [])

theorem sumP_run {C : Callee} {l : List Stone} {ex : Bool} {f : AV} {F : Nat → Int} {k : Nat} (hk : k ≤ l.length) (hl : l.length ≤ 5) (hf : Asks C f (fun i => [.agg (sc (l.getD i default))]) F k l.length) (hr : refsOf f = [])
    (hb : ∀ i, k ≤ i → i < l.length → -1000000000000 ≤ F i ∧ F i ≤ 1000000000000) : rsOf (bodyA E C fg 1000 83 [.imm (pcells l) l.length ex, .int .i64 k, f] [] 0) = some (.int .i64 (sumF F k (l.length - k))) := by
  have hloop := iter_all (f := execA E C (fg 83) 0 26 [] 1000 c83_9) (hd := headA []) (fun i => ([(8, .int .i64 i), (7, .int .i64 (sumF F k (i - k))), (2, f), (0, .imm (pcells l) l.length ex)], [])) (l.length - k) 1000 k
    ([(8, .int .i64 k), (7, .int .i64 0), (2, f), (0, .imm (pcells l) l.length ex)], []) (by simp [headA_nil, sumF]) (by omega) (fun i h1 h2 => by
      have hil : i < l.length := by omega
      obtain ⟨s, hs⟩ := at_ex hil
      have hg : l.getD i default = s := by simp [hs]
      have ha := fun site => hf.ask site i h1 hil
      simp only [hg, sc] at ha
      obtain ⟨b1, b2⟩ := sumF_bound (M := 1000000000000) (by omega) hb (i - k) (by omega)
      obtain ⟨b3, b4⟩ := hb i h1 hil
      have e : sumF F k (i + 1 - k) = sumF F k (i - k) + F i := by
        rw [show i + 1 - k = (i - k) + 1 by omega]; simp only [sumF, show k + (i - k) = i by omega]
      have hw : wrp .i64 (sumF F k (i - k) + F i) = sumF F k (i + 1 - k) := by rw [e]; exact wrp64 (by omega)
      simp only [seqX_normal, bindR_some, regX_some, condX_bool, blockX_normal, run_nil, run_cons, fget_cons', fput_cons', forget_nil, forget_cons', gcM, stp, just, Rd.bind, Rd.run, Rd.opt, upds, tsz, rdCells, aLoad, aIndexAddr, aNum, aLen, aBuiltin, aBin, aInt, Nat.reduceMul, Nat.reduceLT, Nat.reduceBEq, Nat.reduceEqDiff, Nat.reduceLeDiff, ↓reduceIte, reduceCtorEq, Nat.zero_add, List.getElem?_toArray, decide_true, putD_some, and_true, Int.natCast_nonneg, Int.ofNat_lt, Int.toNat_natCast, List.elem_cons, List.elem_nil, List.getElem?_cons_zero, T_56, T_121, x83_11, r83_3_l, s83_3_0, s83_3_1, s83_3_2, s83_3_3, x83_13, x83_14, x83_12, x83_10, x83_17, r83_5_l, s83_5_0, s83_5_1, s83_5_2, s83_5_3, s83_5_4, s83_5_5, s83_5_6, s83_5_7, s83_5_8, s83_5_9, x83_16, x83_18, r83_4_l, s83_4_0, s83_4_1, s83_4_2, x83_15, x83_9, callV_eq (hf.pure_ _), hil, pcells_length, pcells_at l i s hs, sc, pcells_off l i hil, ha, hw, wrp_succ (show i < 1000000 by omega)]
      exact ⟨_, rfl, by simp only [headA_nil]⟩) (e := .exit 0) (se := ([(13, .bool false), (8, .int .i64 l.length), (7, .int .i64 (sumF F k (l.length - k))), (2, f), (0, .imm (pcells l) l.length ex)], [])) (by
      rw [show k + (l.length - k) = l.length by omega]
      simp only [seqX_normal, seqX_exit, bindR_some, regX_some, condX_bool, run_nil, run_cons, fget_cons', fput_cons', forget_nil, forget_cons', gcM, stp, just, Rd.bind, Rd.run, Rd.opt, upds, aLen, aBuiltin, aBin, aInt, Nat.reduceBEq, Nat.reduceEqDiff, Nat.reduceLeDiff, ↓reduceIte, reduceCtorEq, List.getElem?_toArray, decide_false, putD_some, List.elem_cons, List.elem_nil, List.getElem?_cons_zero, T_121, x83_11, r83_3_l, s83_3_0, s83_3_1, s83_3_2, s83_3_3, x83_13, x83_14, x83_12, x83_10, x83_9, Int.lt_irrefl, decide_false, Bool.false_eq_true]) (by simp)
  simp only [seqX_normal, bindR_some, regX_some, blockX_exit, bodyX_ret, run_nil, run_cons, fget_cons', fput_nil, fput_cons', forget_nil, forget_cons', frame0, gcM, resA, resL, Nat.reduceAdd, Nat.reduceBEq, Nat.reduceEqDiff, Nat.reduceLeDiff, ↓reduceIte, reduceCtorEq, Nat.zero_add, Option.map_some, List.elem_cons, List.elem_nil, x83_1, r83_0_l, s83_0_0, x83_3, r83_1_l, s83_1_0, x83_6, r83_2_l, s83_2_0, s83_2_1, x83_8, x83_7, x83_5, x83_20, r83_6_l, s83_6_0, s83_6_1, x83_21, x83_19, x83_4, x83_2, x83_0, b_83, hloop]

theorem sumI_run {C : Callee} {l : List Int} {ex : Bool} {f : AV} {F : Nat → Int} {k : Nat} (hk : k ≤ l.length) (hl : l.length ≤ 5) (hf : Asks C f (fun i => [.int .i64 (l.getD i 0)]) F k l.length)
    (hb : ∀ i, k ≤ i → i < l.length → -1000000000000 ≤ F i ∧ F i ≤ 1000000000000) : rsOf (bodyA E C fg 1000 70 [.imm (icells l) l.length ex, .int .i64 k, f] [] 0) = some (.int .i64 (sumF F k (l.length - k))) := by
  have hloop := iter_all (f := execA E C (fg 70) 0 26 [] 1000 c70_9) (hd := headA []) (fun i => ([(8, .int .i64 i), (7, .int .i64 (sumF F k (i - k))), (2, f), (0, .imm (icells l) l.length ex)], [])) (l.length - k) 1000 k
    ([(8, .int .i64 k), (7, .int .i64 0), (2, f), (0, .imm (icells l) l.length ex)], []) (by simp [headA_nil, sumF]) (by omega) (fun i h1 h2 => by
      have hil : i < l.length := by omega
      obtain ⟨s, hs⟩ := at_ex hil
      have hg : l.getD i 0 = s := by simp [hs]
      have ha := fun site => hf.ask site i h1 hil
      simp only [hg] at ha
      obtain ⟨b1, b2⟩ := sumF_bound (M := 1000000000000) (by omega) hb (i - k) (by omega)
      obtain ⟨b3, b4⟩ := hb i h1 hil
      have e : sumF F k (i + 1 - k) = sumF F k (i - k) + F i := by
        rw [show i + 1 - k = (i - k) + 1 by omega]; simp only [sumF, show k + (i - k) = i by omega]
      have hw : wrp .i64 (sumF F k (i - k) + F i) = sumF F k (i + 1 - k) := by rw [e]; exact wrp64 (by omega)
      simp only [seqX_normal, bindR_some, regX_some, condX_bool, blockX_normal, run_nil, run_cons, fget_cons', fput_cons', forget_nil, forget_cons', gcM, stp, just, Rd.bind, Rd.run, Rd.opt, upds, tsz, rdCells, aLoad, aIndexAddr, aNum, aLen, aBuiltin, aBin, aInt, Nat.reduceMul, Nat.reduceLT, Nat.reduceBEq, Nat.reduceEqDiff, Nat.reduceLeDiff, ↓reduceIte, reduceCtorEq, Nat.zero_add, List.getElem?_toArray, decide_true, putD_some, and_true, Int.natCast_nonneg, Int.ofNat_lt, Int.toNat_natCast, List.elem_cons, List.elem_nil, List.getElem?_cons_zero, T_3, T_108, x70_11, r70_3_l, s70_3_0, s70_3_1, s70_3_2, s70_3_3, x70_13, x70_14, x70_12, x70_10, x70_17, r70_5_l, s70_5_0, s70_5_1, s70_5_2, s70_5_3, s70_5_4, s70_5_5, s70_5_6, s70_5_7, s70_5_8, s70_5_9, x70_16, x70_18, r70_4_l, s70_4_0, s70_4_1, s70_4_2, x70_15, x70_9, callV_eq (hf.pure_ _), hil, icells_length, icells_at hs, Nat.mul_one, ha, hw, wrp_succ (show i < 1000000 by omega)]
      exact ⟨_, rfl, by simp only [headA_nil]⟩) (e := .exit 0) (se := ([(13, .bool false), (8, .int .i64 l.length), (7, .int .i64 (sumF F k (l.length - k))), (2, f), (0, .imm (icells l) l.length ex)], [])) (by
      rw [show k + (l.length - k) = l.length by omega]
      simp only [seqX_normal, seqX_exit, bindR_some, regX_some, condX_bool, run_nil, run_cons, fget_cons', fput_cons', forget_nil, forget_cons', gcM, stp, just, Rd.bind, Rd.run, Rd.opt, upds, aLen, aBuiltin, aBin, aInt, Nat.reduceBEq, Nat.reduceEqDiff, Nat.reduceLeDiff, ↓reduceIte, reduceCtorEq, List.getElem?_toArray, decide_false, putD_some, List.elem_cons, List.elem_nil, List.getElem?_cons_zero, T_108, x70_11, r70_3_l, s70_3_0, s70_3_1, s70_3_2, s70_3_3, x70_13, x70_14, x70_12, x70_10, x70_9, Int.lt_irrefl, decide_false, Bool.false_eq_true]) (by simp)
  simp only [seqX_normal, bindR_some, regX_some, blockX_exit, bodyX_ret, run_nil, run_cons, fget_cons', fput_nil, fput_cons', forget_nil, forget_cons', frame0, gcM, resA, resL, Nat.reduceAdd, Nat.reduceBEq, Nat.reduceEqDiff, Nat.reduceLeDiff, ↓reduceIte, reduceCtorEq, Nat.zero_add, Option.map_some, List.elem_cons, List.elem_nil, x70_1, r70_0_l, s70_0_0, x70_3, r70_1_l, s70_1_0, x70_6, r70_2_l, s70_2_0, s70_2_1, x70_8, x70_7, x70_5, x70_20, r70_6_l, s70_6_0, s70_6_1, x70_21, x70_19, x70_4, x70_2, x70_0, b_70, hloop]

end Go.AM.Yteellnlcligpfaa
