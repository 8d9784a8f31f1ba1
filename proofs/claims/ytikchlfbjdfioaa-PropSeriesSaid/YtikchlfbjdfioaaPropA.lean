/- Piles: what the given package's first functions compute (the walks). Own work of this project. -/
import Derived.Test.YtikchlfbjdfioaaSyA
namespace Go.AM.Ytikchlfbjdfioaa
open Go Go.AM
set_option maxRecDepth 100000
set_option maxHeartbeats 1000000

structure Stone where
  half : Int
  pos : Int
  least : Int
  most : Int
deriving Inhabited
def sc (s : Stone) : List AV := [.int .i64 s.half, .int .i64 s.pos, .int .i64 s.least, .int .i64 s.most]
def pcells : List Stone → List AV
  | [] => []
  | s :: l => sc s ++ pcells l
theorem pcells_length : ∀ (l : List Stone), (pcells l).length = l.length * 4
  | [] => rfl
  | s :: l => by simp [pcells, sc, pcells_length l]; omega
theorem pcells_at : ∀ (l : List Stone) (k : Nat) (s : Stone), l[k]? = some s → ((pcells l).drop (k * 4)).take 4 = sc s
  | [], k, s, h => by simp at h
  | a :: l, 0, s, h => by simp at h; subst h; simp [pcells, sc]
  | a :: l, k + 1, s, h => by
    simp at h
    have := pcells_at l k s h
    have e : (k + 1) * 4 = k * 4 + 4 := by omega
    rw [e, pcells, show k * 4 + 4 = 4 + k * 4 by omega, ← List.drop_drop]
    simpa [sc] using this
theorem pcells_off (l : List Stone) (k : Nat) (h : k < l.length) : k * 4 + 4 ≤ l.length * 4 := by omega
theorem pcells_field : ∀ (l : List Stone) (k : Nat) (s : Stone) (j : Nat), l[k]? = some s → j < 4 → (pcells l)[k * 4 + j]? = (sc s)[j]? := by
  intro l k s j h hj
  have := pcells_at l k s h
  have h2 := congrArg (fun x => x[j]?) this
  simp only [List.getElem?_take, hj, if_true, List.getElem?_drop] at h2
  exact h2
theorem at_lt {α : Type} {l : List α} {k : Nat} {s : α} (h : l[k]? = some s) : k < l.length := (List.getElem?_eq_some_iff.1 h).1
theorem at_ex {α : Type} {l : List α} {k : Nat} (h : k < l.length) : ∃ s, l[k]? = some s := ⟨l[k], List.getElem?_eq_getElem h⟩

def icells (l : List Int) : List AV := l.map (AV.int .i64)
theorem icells_length (l : List Int) : (icells l).length = l.length := by simp [icells]
theorem icells_at {l : List Int} {k : Nat} {z : Int} (h : l[k]? = some z) : (icells l)[k]? = some (.int .i64 z) := by simp [icells, h]

/-! ### within, Check -/
def within (s : Stone) : Int :=
  if ¬s.half < 1 then if s.half > 4194304 then 1 else if ¬s.pos < -33554432 then if s.pos > 33554432 then 1 else if ¬(if s.most < s.least then s.most else s.least) < 1 then if (if s.most > s.least then s.most else s.least) > 9 then 1 else if s.least > s.most then 7 else 0 else 1 else 1 else 1
structure Fits (s : Stone) : Prop where
  h1 : 1 ≤ s.half
  h2 : s.half ≤ 4194304
  p1 : -33554432 ≤ s.pos
  p2 : s.pos ≤ 33554432
  l1 : 1 ≤ s.least
  lm : s.least ≤ s.most
  m9 : s.most ≤ 9
theorem within_zero {s : Stone} : within s = 0 ↔ Fits s := by
  constructor
  · intro h
    unfold within at h
    repeat' split at h
    all_goals first | (simp at h; done) | constructor
    all_goals omega
  · rintro ⟨h1, h2, p1, p2, l1, lm, m9⟩
    unfold within
    repeat' split
    all_goals first | rfl | omega

theorem within_run {C : Callee} (s : Stone) : rsOf (bodyA E C fg 1000 34 [.agg (sc s)] [] 0) = some (.int .i64 (within s)) := by
  simp only [sc, seqX_normal, seqX_ret, seqX_exit, seqX_ite, bindR_some, bindR_ite, regX_some, regX_ite, condX_bool, blockX_exit, blockX_normal, blockX_ret, blockX_ite, ↓gd, fset_cons, Bool.not_false, bodyX_ite, bodyX_ret, run_nil, run_cons, fget_cons', fput_nil, fput_cons', forget_nil, forget_cons', hget_nil', hget_cons', hset_nil', frame0, gcM, stp, opPick, opBox, justO, just, Rd.bind, Rd.run, Rd.opt, upds, acells, rdCells, fieldOf, aFieldAddr, aLoad, resA, resL, fresh, aBuiltin, aMin, aMax, aBin, aInt, Nat.reduceAdd, Nat.reduceBEq, Nat.reduceEqDiff, Nat.reduceLeDiff, Int.reduceNeg, ↓reduceIte, reduceCtorEq, liveBlk_eq, decide_eq_true_eq, decide_eq_false_iff_not, Nat.zero_add, Nat.add_zero, rs_ite, m_int, ite_not, Bool.not_false, putD_some, Option.map_some, List.elem_cons, List.elem_nil, List.length_cons, List.length_nil, List.getElem?_cons_zero, List.getElem?_cons_succ, T_3, T_44, x34_1, r34_0_l, s34_0_0, s34_0_1, x34_13, r34_1_l, s34_1_0, s34_1_1, s34_1_2, s34_1_3, s34_1_4, s34_1_5, s34_1_6, s34_1_7, s34_1_8, x34_15, x34_16, x34_14, x34_12, x34_19, r34_2_l, s34_2_0, s34_2_1, s34_2_2, s34_2_3, s34_2_4, s34_2_5, s34_2_6, s34_2_7, s34_2_8, x34_21, x34_22, x34_20, x34_18, x34_25, r34_3_l, s34_3_0, s34_3_1, s34_3_2, s34_3_3, s34_3_4, s34_3_5, s34_3_6, s34_3_7, s34_3_8, s34_3_9, s34_3_10, s34_3_11, s34_3_12, s34_3_13, s34_3_14, x34_27, x34_28, x34_26, x34_24, x34_30, r34_4_l, s34_4_0, s34_4_1, s34_4_2, s34_4_3, s34_4_4, s34_4_5, x34_32, x34_33, x34_31, x34_29, x34_23, x34_17, x34_11, x34_34, x34_10, x34_9, x34_8, x34_7, x34_37, r34_5_l, s34_5_0, x34_38, x34_36, x34_35, x34_6, x34_5, x34_42, r34_6_l, s34_6_0, x34_43, x34_41, x34_40, x34_4, x34_3, x34_46, r34_7_l, s34_7_0, x34_47, x34_45, x34_2, x34_0, b_34, within]
theorem within_call {d : Nat} {site : Nat → Nat} {seen : List Nat} (s : Stone) : aBack site true seen (thaw (callA E fg 1000 (d + 1)) 34 [.agg [.int .i64 s.half, .int .i64 s.pos, .int .i64 s.least, .int .i64 s.most]] [] 0) = .pure (.int .i64 (within s), []) :=
  aBack_int (rs_ex (within_run s))

def checkL : List Stone → Int
  | [] => 0
  | s :: l => if within s = 0 then checkL l else within s
def check (l : List Stone) : Int := if (l.length : Int) = 0 then 4 else if (l.length : Int) > 5 then 3 else checkL l

theorem check_loop {d : Nat} (l : List Stone) (ex : Bool) (hl : l.length < 1000000) : ∀ (m k F : Nat) (H : AHeap), k + m = l.length → m < F →
    ∃ H', iterA (execA E (callA E fg 1000 (d + 1)) (fg 11) 0 26 [] 1000 c11_22) (headA []) F ([(16, .int .i64 k), (15, .int .i64 l.length), (14, .imm (pcells l) l.length ex)], H) =
      if checkL (l.drop k) = 0 then some (.exit 1, [(17, .bool false), (16, .int .i64 l.length), (15, .int .i64 l.length), (14, .imm (pcells l) l.length ex)], []) else some (.ret, [(2, .int .i64 (checkL (l.drop k)))], H')
  | 0, k, F + 1, H, hk, _ => by
    obtain rfl : k = l.length := by omega
    rw [iterA_succ]
    simp only [seqX_normal, seqX_exit, bindR_some, regX_some, condX_bool, run_nil, run_cons, fget_cons', fput_cons', forget_nil, forget_cons', gcM, stp, just, Rd.bind, Rd.run, Rd.opt, upds, aBin, aInt, Nat.reduceEqDiff, Nat.reduceLeDiff, ↓reduceIte, headA_drop, refsF, refsOf, decide_false, putD_some, List.append_nil, List.elem_nil, x11_23, r11_6_l, s11_6_0, x11_26, x11_27, x11_25, x11_24, x11_22, Int.lt_irrefl, decide_false, Bool.false_eq_true, List.drop_length, checkL]
    exact ⟨[], trivial⟩
  | m + 1, k, F + 1, H, hk, hF => by
    have hkl : k < l.length := by omega
    obtain ⟨s, hs⟩ := at_ex hkl
    have hd : l.drop k = s :: l.drop (k + 1) := by
      rw [List.drop_eq_getElem_cons hkl]
      rw [List.getElem?_eq_getElem hkl] at hs
      rw [Option.some.inj hs]
    obtain ⟨H', ih⟩ := check_loop l ex hl m (k + 1) F [(4, ⟨.box, sc s⟩)] (by omega) (by omega)
    simp only [sc] at ih
    rw [iterA_succ]
    simp only [seqX_normal, seqX_ret, seqX_ite, bindR_some, regX_some, condX_bool, blockX_normal, blockX_ret, blockX_ite, run_nil, run_cons, fget_cons', fput_nil, fput_cons', forget_nil, forget_cons', hget_nil', hget_cons', hset_nil', hset_cons', gcM, stp, opBox, just, Rd.bind, Rd.run, Rd.opt, upds, acells, zeroCells, tsz, rdCells, aLoad, aStore, opStore, fresh, aIndexAddr, aNum, aBin, aInt, putC, Nat.reduceAdd, Nat.reduceLT, Nat.reduceBEq, Nat.reduceEqDiff, Nat.reduceLeDiff, ↓reduceIte, reduceCtorEq, liveBlk_eq, Nat.zero_add, bne_iff_ne, ne_eq, ite_not, headA_drop, refsF, refsOf, List.nil_append, decide_true, frz, putD_some, putD_none, and_true, Int.natCast_nonneg, Int.ofNat_lt, Int.toNat_natCast, aCall, snaps, snap, List.append_nil, List.elem_cons, List.elem_nil, List.length_cons, List.length_nil, List.drop_zero, List.take_succ_cons, List.take_nil, List.set_cons_zero, List.set_cons_succ, T_27, T_44, x11_23, r11_6_l, s11_6_0, x11_26, x11_27, x11_25, x11_31, r11_7_l, s11_7_0, s11_7_1, s11_7_2, s11_7_3, x11_33, r11_8_l, s11_8_0, s11_8_1, s11_8_2, x11_35, r11_9_l, s11_9_0, s11_9_1, x11_38, r11_10_l, s11_10_0, s11_10_1, x11_39, x11_37, x11_40, x11_36, x11_34, x11_32, x11_30, x11_29, x11_41, r11_11_l, s11_11_0, s11_11_1, x11_28, x11_24, x11_22, hkl, pcells_length, pcells_at l k s hs, sc, pcells_off l k hkl, within_call, wrp_succ (Nat.lt_trans hkl hl), hd, checkL]
    by_cases hw : within s = 0
    · simp only [hw, if_true]
      exact ⟨H', ih⟩
    · simp only [hw, if_false]
      exact ⟨_, rfl⟩

theorem check_run {d : Nat} (l : List Stone) (ex : Bool) : rsOf (callA E fg 1000 (d + 2) 11 [.imm (pcells l) l.length ex] [] 0) = some (.int .i64 (check l)) := by
  change rsOf (bodyA E (callA E fg 1000 (d + 1)) fg 1000 11 _ _ _) = _
  by_cases h5 : (l.length : Int) > 5
  · by_cases h0 : (l.length : Int) = 0
    · omega
    · simp only [seqX_normal, seqX_ret, bindR_some, regX_some, condX_bool, blockX_ret, bodyX_ret, run_nil, run_cons, fget_cons', fput_cons', forget_nil, forget_cons', frame0, gcM, stp, just, Rd.bind, Rd.run, Rd.opt, upds, resA, resL, aLen, aBuiltin, aBin, aInt, Nat.reduceBEq, Nat.reduceEqDiff, Nat.reduceLeDiff, ↓reduceIte, reduceCtorEq, beq_iff_eq, List.getElem?_toArray, decide_true, putD_some, Option.map_some, List.elem_cons, List.elem_nil, List.getElem?_cons_zero, T_27, x11_1, r11_0_l, s11_0_0, x11_5, r11_1_l, s11_1_0, s11_1_1, s11_1_2, s11_1_3, x11_8, r11_2_l, s11_2_0, x11_9, x11_7, x11_11, r11_3_l, s11_3_0, s11_3_1, s11_3_2, s11_3_3, x11_14, r11_4_l, s11_4_0, x11_15, x11_13, x11_16, x11_12, x11_10, x11_6, x11_4, x11_3, x11_2, x11_0, b_11, check, h5, h0]
  · obtain ⟨H', h⟩ := check_loop (d := d) l ex (by omega) l.length 0 1000 [] (by omega) (by omega)
    simp only [List.drop_zero, Int.natCast_zero] at h
    by_cases h0 : (l.length : Int) = 0
    · simp only [seqX_normal, seqX_ret, bindR_some, regX_some, condX_bool, blockX_ret, bodyX_ret, run_nil, run_cons, fget_cons', fput_cons', forget_nil, forget_cons', frame0, gcM, stp, just, Rd.bind, Rd.run, Rd.opt, upds, resA, resL, aLen, aBuiltin, aBin, aInt, Nat.reduceBEq, Nat.reduceEqDiff, Nat.reduceLeDiff, ↓reduceIte, reduceCtorEq, decide_eq_true_eq, beq_iff_eq, List.getElem?_toArray, putD_some, Option.map_some, List.elem_cons, List.elem_nil, List.getElem?_cons_zero, T_27, x11_1, r11_0_l, s11_0_0, x11_5, r11_1_l, s11_1_0, s11_1_1, s11_1_2, s11_1_3, x11_8, r11_2_l, s11_2_0, x11_9, x11_7, x11_11, r11_3_l, s11_3_0, s11_3_1, s11_3_2, s11_3_3, x11_14, r11_4_l, s11_4_0, x11_15, x11_13, x11_16, x11_12, x11_10, x11_6, x11_4, x11_3, x11_2, x11_0, b_11, check, h0]
    · by_cases hc : checkL l = 0
      · simp only [hc, if_true] at h
        simp only [seqX_normal, bindR_some, regX_some, condX_bool, blockX_exit, blockX_normal, bodyX_ret, run_nil, run_cons, fget_cons', fput_nil, fput_cons', forget_nil, forget_cons', frame0, gcM, stp, just, Rd.bind, Rd.run, Rd.opt, upds, resA, resL, aLen, aBuiltin, aBin, aInt, Nat.reduceBEq, Nat.reduceEqDiff, Nat.reduceLeDiff, ↓reduceIte, reduceCtorEq, beq_iff_eq, List.getElem?_toArray, decide_false, putD_some, Option.map_some, List.elem_cons, List.elem_nil, List.getElem?_cons_zero, T_27, x11_1, r11_0_l, s11_0_0, x11_5, r11_1_l, s11_1_0, s11_1_1, s11_1_2, s11_1_3, x11_8, r11_2_l, s11_2_0, x11_9, x11_7, x11_11, r11_3_l, s11_3_0, s11_3_1, s11_3_2, s11_3_3, x11_14, r11_4_l, s11_4_0, x11_15, x11_13, x11_16, x11_12, x11_10, x11_6, x11_4, x11_3, x11_19, r11_5_l, s11_5_0, s11_5_1, s11_5_2, x11_21, x11_20, x11_18, x11_43, r11_12_l, s11_12_0, x11_44, x11_42, x11_17, x11_2, x11_0, b_11, check, h5, h0, h, hc]
      · simp only [hc, if_false] at h
        simp only [seqX_normal, seqX_ret, bindR_some, regX_some, condX_bool, blockX_normal, blockX_ret, bodyX_ret, run_nil, run_cons, fget_cons', fput_cons', forget_nil, forget_cons', frame0, gcM, stp, just, Rd.bind, Rd.run, Rd.opt, upds, resA, resL, aLen, aBuiltin, aBin, aInt, Nat.reduceBEq, Nat.reduceEqDiff, Nat.reduceLeDiff, ↓reduceIte, reduceCtorEq, beq_iff_eq, List.getElem?_toArray, decide_false, putD_some, Option.map_some, List.elem_cons, List.elem_nil, List.getElem?_cons_zero, T_27, x11_1, r11_0_l, s11_0_0, x11_5, r11_1_l, s11_1_0, s11_1_1, s11_1_2, s11_1_3, x11_8, r11_2_l, s11_2_0, x11_9, x11_7, x11_11, r11_3_l, s11_3_0, s11_3_1, s11_3_2, s11_3_3, x11_14, r11_4_l, s11_4_0, x11_15, x11_13, x11_16, x11_12, x11_10, x11_6, x11_4, x11_3, x11_19, r11_5_l, s11_5_0, s11_5_1, s11_5_2, x11_21, x11_20, x11_18, x11_17, x11_2, x11_0, b_11, check, h5, h0, h]
theorem check_nil {d : Nat} : rsOf (callA E fg 1000 (d + 2) 11 [.nilsl] [] 0) = some (.int .i64 (check [])) := by
  change rsOf (bodyA E (callA E fg 1000 (d + 1)) fg 1000 11 _ _ _) = _
  simp only [seqX_normal, seqX_ret, bindR_some, regX_some, condX_bool, blockX_ret, bodyX_ret, run_nil, run_cons, fget_cons', fput_cons', forget_nil, forget_cons', frame0, gcM, stp, just, Rd.bind, Rd.run, Rd.opt, upds, resA, resL, aLen, aBuiltin, aBin, aInt, Nat.reduceBEq, Nat.reduceEqDiff, Nat.reduceLeDiff, ↓reduceIte, reduceCtorEq, decide_eq_true_eq, beq_iff_eq, List.getElem?_toArray, putD_some, Option.map_some, List.elem_cons, List.elem_nil, List.length_nil, List.getElem?_cons_zero, T_27, x11_1, r11_0_l, s11_0_0, x11_5, r11_1_l, s11_1_0, s11_1_1, s11_1_2, s11_1_3, x11_8, r11_2_l, s11_2_0, x11_9, x11_7, x11_11, r11_3_l, s11_3_0, s11_3_1, s11_3_2, s11_3_3, x11_14, r11_4_l, s11_4_0, x11_15, x11_13, x11_16, x11_12, x11_10, x11_6, x11_4, x11_3, x11_2, x11_0, b_11, check, List.length_nil, Int.natCast_zero]

/-- A pile as it is handed on. -/
def IsP (a : AV) (l : List Stone) : Prop := (a = .nilsl ∧ l = []) ∨ ∃ ex, a = .imm (pcells l) l.length ex
theorem check_call {d : Nat} {site : Nat → Nat} {seen : List Nat} {a : AV} {l : List Stone} (h : IsP a l) : aBack site true seen (thaw (callA E fg 1000 (d + 2)) 11 [a] [] 0) = .pure (.int .i64 (check l), []) := by
  rcases h with ⟨rfl, rfl⟩ | ⟨ex, rfl⟩
  · exact aBack_int (rs_ex check_nil)
  · exact aBack_int (rs_ex (check_run l ex))

structure OkP (l : List Stone) : Prop where
  ne : 0 < l.length
  le : l.length ≤ 5
  fits : ∀ (k : Nat) (s : Stone), l[k]? = some s → Fits s
theorem checkL_zero : ∀ {l : List Stone}, checkL l = 0 ↔ ∀ (k : Nat) (s : Stone), l[k]? = some s → Fits s
  | [] => by simp [checkL]
  | a :: l => by
    simp only [checkL]
    constructor
    · intro h k s hs
      split at h
      · rename_i hw
        cases k with
        | zero => simp at hs; subst hs; exact within_zero.1 hw
        | succ k => simp at hs; exact checkL_zero.1 h k s hs
      · rename_i hw; exact absurd h hw
    · intro h
      rw [if_pos (within_zero.2 (h 0 a (by simp)))]
      exact checkL_zero.2 fun k s hs => h (k + 1) s (by simpa using hs)
theorem check_zero {l : List Stone} : check l = 0 ↔ OkP l := by
  unfold check
  constructor
  · intro h
    split at h
    · simp at h
    · split at h
      · simp at h
      · exact ⟨by omega, by omega, checkL_zero.1 h⟩
  · rintro ⟨h1, h2, h3⟩
    rw [if_neg (by omega), if_neg (by omega)]
    exact checkL_zero.2 h3
end Go.AM.Ytikchlfbjdfioaa
