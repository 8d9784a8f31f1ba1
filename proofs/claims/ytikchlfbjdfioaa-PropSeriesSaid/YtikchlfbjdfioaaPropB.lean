/- Sums by closures, edges, how far stones are beyond them. Own work of this project. -/
import Derived.Test.YtikchlfbjdfioaaPropA
namespace Go.AM.Ytikchlfbjdfioaa
open Go Go.AM
set_option maxRecDepth 100000
set_option maxHeartbeats 1000000

/-! ### Sums -/
def sumF (F : Nat → Int) (k : Nat) : Nat → Int
  | 0 => 0
  | m + 1 => sumF F k m + F (k + m)
theorem sumF_bound {F : Nat → Int} {M : Int} (hM : 0 ≤ M) {k n : Nat} (h : ∀ i, k ≤ i → i < n → -M ≤ F i ∧ F i ≤ M) : ∀ m, k + m ≤ n → -(M * m) ≤ sumF F k m ∧ sumF F k m ≤ M * m
  | 0, _ => by simp [sumF]
  | m + 1, hm => by
    obtain ⟨h1, h2⟩ := sumF_bound hM h m (by omega)
    obtain ⟨h3, h4⟩ := h (k + m) (by omega) (by omega)
    have e : M * ((m + 1 : Nat) : Int) = M * m + M := by rw [Int.natCast_add, Int.mul_add]; simp
    rw [e]
    simp only [sumF]
    omega

/-- A closure that is asked about the elements of a list, none of the heap's own. -/
structure Asks (C : Callee) (f : AV) (g : Nat → List AV) (F : Nat → Int) (k n : Nat) : Prop where
  pure_ : ∀ args, mutV E f args = none
  ask : ∀ (site : Nat → Nat) (i : Nat), k ≤ i → i < n → opCallV E C site true f (.int .i64 i :: g i) = .pure (.int .i64 (F i), [])

theorem sumP_run {C : Callee} {l : List Stone} {ex : Bool} {f : AV} {F : Nat → Int} {k : Nat} (hk : k ≤ l.length) (hl : l.length ≤ 5) (hf : Asks C f (fun i => [.agg (sc (l.getD i default))]) F k l.length) (hr : refsOf f = [])
    (hb : ∀ i, k ≤ i → i < l.length → -1000000000000 ≤ F i ∧ F i ≤ 1000000000000) : rsOf (bodyA E C fg 1000 73 [.imm (pcells l) l.length ex, .int .i64 k, f] [] 0) = some (.int .i64 (sumF F k (l.length - k))) := by
  have hloop := iter_all (f := execA E C (fg 73) 0 26 [] 1000 c73_9) (hd := headA []) (fun i => ([(8, .int .i64 i), (7, .int .i64 (sumF F k (i - k))), (2, f), (0, .imm (pcells l) l.length ex)], [])) (l.length - k) 1000 k
    ([(8, .int .i64 k), (7, .int .i64 0), (2, f), (0, .imm (pcells l) l.length ex)], []) (by simp [headA_nil, sumF]) (by omega) (fun i h1 h2 => by
      have hil : i < l.length := by omega
      obtain ⟨s, hs⟩ := at_ex hil
      have hg : l.getD i default = s := by simp [hs]
      have ha := fun site => hf.ask site i h1 hil
      simp only [hg, sc] at ha
      obtain ⟨b1, b2⟩ := sumF_bound (M := 1000000000000) (by omega) hb (i - k) (by omega)
      obtain ⟨b3, b4⟩ := hb i h1 hil
      have e : sumF F k (i + 1 - k) = sumF F k (i - k) + F i := by
        rw [show i + 1 - k = (i - k) + 1 by omega]; simp only [sumF, show k + (i - k) = i by omega]
      have hw : wrp .i64 (sumF F k (i - k) + F i) = sumF F k (i + 1 - k) := by rw [e]; exact wrp64 (by omega)
      simp only [seqX_normal, bindR_some, regX_some, condX_bool, blockX_normal, run_nil, run_cons, fget_cons', fput_cons', forget_nil, forget_cons', gcM, stp, just, Rd.bind, Rd.run, Rd.opt, upds, tsz, rdCells, aLoad, aIndexAddr, aNum, aLen, aBuiltin, aBin, aInt, Nat.reduceMul, Nat.reduceLT, Nat.reduceBEq, Nat.reduceEqDiff, Nat.reduceLeDiff, ↓reduceIte, reduceCtorEq, Nat.zero_add, List.getElem?_toArray, decide_true, putD_some, and_true, Int.natCast_nonneg, Int.ofNat_lt, Int.toNat_natCast, List.elem_cons, List.elem_nil, List.getElem?_cons_zero, T_44, T_111, x73_11, r73_3_l, s73_3_0, s73_3_1, s73_3_2, s73_3_3, x73_13, x73_14, x73_12, x73_10, x73_17, r73_5_l, s73_5_0, s73_5_1, s73_5_2, s73_5_3, s73_5_4, s73_5_5, s73_5_6, s73_5_7, s73_5_8, s73_5_9, x73_16, x73_18, r73_4_l, s73_4_0, s73_4_1, s73_4_2, x73_15, x73_9, callV_eq (hf.pure_ _), hil, pcells_length, pcells_at l i s hs, sc, pcells_off l i hil, ha, hw, wrp_succ (show i < 1000000 by omega)]
      exact ⟨_, rfl, by simp only [headA_nil]⟩) (e := .exit 0) (se := ([(13, .bool false), (8, .int .i64 l.length), (7, .int .i64 (sumF F k (l.length - k))), (2, f), (0, .imm (pcells l) l.length ex)], [])) (by
      rw [show k + (l.length - k) = l.length by omega]
      simp only [seqX_normal, seqX_exit, bindR_some, regX_some, condX_bool, run_nil, run_cons, fget_cons', fput_cons', forget_nil, forget_cons', gcM, stp, just, Rd.bind, Rd.run, Rd.opt, upds, aLen, aBuiltin, aBin, aInt, Nat.reduceBEq, Nat.reduceEqDiff, Nat.reduceLeDiff, ↓reduceIte, reduceCtorEq, List.getElem?_toArray, decide_false, putD_some, List.elem_cons, List.elem_nil, List.getElem?_cons_zero, T_111, x73_11, r73_3_l, s73_3_0, s73_3_1, s73_3_2, s73_3_3, x73_13, x73_14, x73_12, x73_10, x73_9, Int.lt_irrefl, decide_false, Bool.false_eq_true]) (by simp)
  simp only [seqX_normal, bindR_some, regX_some, blockX_exit, bodyX_ret, run_nil, run_cons, fget_cons', fput_nil, fput_cons', forget_nil, forget_cons', frame0, gcM, resA, resL, Nat.reduceAdd, Nat.reduceBEq, Nat.reduceEqDiff, Nat.reduceLeDiff, ↓reduceIte, reduceCtorEq, Nat.zero_add, Option.map_some, List.elem_cons, List.elem_nil, x73_1, r73_0_l, s73_0_0, x73_3, r73_1_l, s73_1_0, x73_6, r73_2_l, s73_2_0, s73_2_1, x73_8, x73_7, x73_5, x73_20, r73_6_l, s73_6_0, s73_6_1, x73_21, x73_19, x73_4, x73_2, x73_0, b_73, hloop]

theorem sumI_run {C : Callee} {l : List Int} {ex : Bool} {f : AV} {F : Nat → Int} {k : Nat} (hk : k ≤ l.length) (hl : l.length ≤ 5) (hf : Asks C f (fun i => [.int .i64 (l.getD i 0)]) F k l.length)
    (hb : ∀ i, k ≤ i → i < l.length → -1000000000000 ≤ F i ∧ F i ≤ 1000000000000) : rsOf (bodyA E C fg 1000 56 [.imm (icells l) l.length ex, .int .i64 k, f] [] 0) = some (.int .i64 (sumF F k (l.length - k))) := by
  have hloop := iter_all (f := execA E C (fg 56) 0 26 [] 1000 c56_9) (hd := headA []) (fun i => ([(8, .int .i64 i), (7, .int .i64 (sumF F k (i - k))), (2, f), (0, .imm (icells l) l.length ex)], [])) (l.length - k) 1000 k
    ([(8, .int .i64 k), (7, .int .i64 0), (2, f), (0, .imm (icells l) l.length ex)], []) (by simp [headA_nil, sumF]) (by omega) (fun i h1 h2 => by
      have hil : i < l.length := by omega
      obtain ⟨s, hs⟩ := at_ex hil
      have hg : l.getD i 0 = s := by simp [hs]
      have ha := fun site => hf.ask site i h1 hil
      simp only [hg] at ha
      obtain ⟨b1, b2⟩ := sumF_bound (M := 1000000000000) (by omega) hb (i - k) (by omega)
      obtain ⟨b3, b4⟩ := hb i h1 hil
      have e : sumF F k (i + 1 - k) = sumF F k (i - k) + F i := by
        rw [show i + 1 - k = (i - k) + 1 by omega]; simp only [sumF, show k + (i - k) = i by omega]
      have hw : wrp .i64 (sumF F k (i - k) + F i) = sumF F k (i + 1 - k) := by rw [e]; exact wrp64 (by omega)
      simp only [seqX_normal, bindR_some, regX_some, condX_bool, blockX_normal, run_nil, run_cons, fget_cons', fput_cons', forget_nil, forget_cons', gcM, stp, just, Rd.bind, Rd.run, Rd.opt, upds, tsz, rdCells, aLoad, aIndexAddr, aNum, aLen, aBuiltin, aBin, aInt, Nat.reduceMul, Nat.reduceLT, Nat.reduceBEq, Nat.reduceEqDiff, Nat.reduceLeDiff, ↓reduceIte, reduceCtorEq, Nat.zero_add, List.getElem?_toArray, decide_true, putD_some, and_true, Int.natCast_nonneg, Int.ofNat_lt, Int.toNat_natCast, List.elem_cons, List.elem_nil, List.getElem?_cons_zero, T_3, T_90, x56_11, r56_3_l, s56_3_0, s56_3_1, s56_3_2, s56_3_3, x56_13, x56_14, x56_12, x56_10, x56_17, r56_5_l, s56_5_0, s56_5_1, s56_5_2, s56_5_3, s56_5_4, s56_5_5, s56_5_6, s56_5_7, s56_5_8, s56_5_9, x56_16, x56_18, r56_4_l, s56_4_0, s56_4_1, s56_4_2, x56_15, x56_9, callV_eq (hf.pure_ _), hil, icells_length, icells_at hs, Nat.mul_one, ha, hw, wrp_succ (show i < 1000000 by omega)]
      exact ⟨_, rfl, by simp only [headA_nil]⟩) (e := .exit 0) (se := ([(13, .bool false), (8, .int .i64 l.length), (7, .int .i64 (sumF F k (l.length - k))), (2, f), (0, .imm (icells l) l.length ex)], [])) (by
      rw [show k + (l.length - k) = l.length by omega]
      simp only [seqX_normal, seqX_exit, bindR_some, regX_some, condX_bool, run_nil, run_cons, fget_cons', fput_cons', forget_nil, forget_cons', gcM, stp, just, Rd.bind, Rd.run, Rd.opt, upds, aLen, aBuiltin, aBin, aInt, Nat.reduceBEq, Nat.reduceEqDiff, Nat.reduceLeDiff, ↓reduceIte, reduceCtorEq, List.getElem?_toArray, decide_false, putD_some, List.elem_cons, List.elem_nil, List.getElem?_cons_zero, T_90, x56_11, r56_3_l, s56_3_0, s56_3_1, s56_3_2, s56_3_3, x56_13, x56_14, x56_12, x56_10, x56_9, Int.lt_irrefl, decide_false, Bool.false_eq_true]) (by simp)
  simp only [seqX_normal, bindR_some, regX_some, blockX_exit, bodyX_ret, run_nil, run_cons, fget_cons', fput_nil, fput_cons', forget_nil, forget_cons', frame0, gcM, resA, resL, Nat.reduceAdd, Nat.reduceBEq, Nat.reduceEqDiff, Nat.reduceLeDiff, ↓reduceIte, reduceCtorEq, Nat.zero_add, Option.map_some, List.elem_cons, List.elem_nil, x56_1, r56_0_l, s56_0_0, x56_3, r56_1_l, s56_1_0, x56_6, r56_2_l, s56_2_0, s56_2_1, x56_8, x56_7, x56_5, x56_20, r56_6_l, s56_6_0, s56_6_1, x56_21, x56_19, x56_4, x56_2, x56_0, b_56, hloop]

end Go.AM.Ytikchlfbjdfioaa
