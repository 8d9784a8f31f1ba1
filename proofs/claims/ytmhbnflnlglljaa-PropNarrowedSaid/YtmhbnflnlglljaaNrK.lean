/- A part of the proof of propNarrowed_holds: SpD, RatA, SpE, NarA, SyN, NarB, PWorks, NarC. Own work of this project; texts printed by own programs among it. -/
import Derived.KernelRfl
import Derived.Test.YtmhbnflnlglljaaNrJ
section
namespace Go.AM.Ytmhbnflnlglljaa
open Go Go.AM
set_option maxRecDepth 100000
set_option maxHeartbeats 4000000
theorem take_pcs (l : List Stone) : List.take (l.length * 4) (pcells l) = pcells l := List.take_of_length_le (by rw [pcells_length]; exact Nat.le_refl _)
theorem clone_run {C : Callee} {l : List Stone} {ex : Bool} (h0 : 0 < l.length) (hl : l.length ≤ 5) : bodyA E C fg 1000 41 [.imm (pcells l) l.length ex] [] 0 = some (.ref 5 0 l.length l.length (l.length * 4) 4 false, [(5, ⟨.row, pcells l⟩)]) := by
  have hn : ¬ l.length = 0 := by omega
  have hn2 : ¬ l.length ≤ 0 := by omega
  have htk := take_pcs l
  simp only [seqX_normal, bindR_some, regX_some, condX_bool, bodyX_ret, run_nil, run_cons, fget_cons', fput_cons', forget_nil, forget_cons', hget_nil', hget_cons', hset_nil', hset_cons', frame0, gcM_c, stp, just, Rd.bind, Rd.run, upds, zeroCells, tsz, elemT, resA, resL, fresh, aBuiltin, aBin, Nat.reduceAdd, Nat.reduceLT, Nat.reduceBEq, Nat.reduceEqDiff, Nat.reduceLeDiff, ↓reduceIte, reduceCtorEq, liveBlk_eq, Nat.zero_add, Nat.add_zero, List.nil_append, List.getElem?_toArray, aBuildSlice, partsOf, fillA, repC, frz, isSliceT, aAppend, srcOf, window, putD_some, and_true, snaps, Option.map_some, List.elem_cons, List.elem_nil, List.length_cons, List.length_nil, List.getElem?_cons_zero, List.getElem?_cons_succ, List.drop_zero, List.take_zero, T_22, T_45, x41_1, r41_0_l, s41_0_0, x41_4, r41_1_l, s41_1_0, s41_1_1, x41_7, r41_2_l, s41_2_0, x41_8, x41_6, x41_9, x41_5, x41_3, x41_11, r41_3_l, s41_3_0, s41_3_1, s41_3_2, s41_3_3, x41_12, x41_10, x41_2, x41_0, b_41, pcells_length, hn, hn2, aNil, room44 (show l.length ≤ 1000000 by omega), Nat.zero_mul, Nat.zero_add, Nat.le_refl, Nat.zero_le, List.length_nil, List.nil_append]
theorem clone_call {d : Nat} {site : Nat → Nat} {seen : List Nat} {l : List Stone} {ex : Bool} (h0 : 0 < l.length) (hl : l.length ≤ 5) :
    aBack site true seen (thaw (callA E fg 1000 (d + 1)) 41 [.imm (pcells l) l.length ex] [] 0) = back1 (site 0) seen (fun k => .ref k 0 l.length l.length (l.length * 4) 4 false) ⟨.row, pcells l⟩ := by
  have e := clone_run (C := callA E fg 1000 d) (ex := ex) h0 hl
  have := aBack_ref (site := site) (seen := seen) (n := l.length) (sz := 4) (id := 5) (cells := pcells l) (H' := [(5, ⟨.row, pcells l⟩)]) (C := callA E fg 1000 (d + 1)) (f := 41) (args := [.imm (pcells l) l.length ex]) (by rw [pcells_length]; exact e) (by rw [hget_cons']; simp)
  rw [pcells_length] at this
  exact this
theorem pcells_drop : ∀ (l : List Stone) (k : Nat), (pcells l).drop (k * 4) = pcells (l.drop k)
  | [], k => by simp [pcells]
  | a :: l, 0 => by simp
  | a :: l, k + 1 => by rw [List.drop_succ_cons, ← pcells_drop l k, pcells, show (k + 1) * 4 = 4 + k * 4 by omega, ← List.drop_drop]; simp [sc]
theorem window_pc (l : List Stone) (k : Nat) : window (pcells l) (k * 4) ((l.length - k) * 4) = pcells (l.drop k) := by
  rw [window, pcells_drop, ← List.length_drop, take_pcs]
def smS (q : List Stone) (i : Nat) : Int := sumS (fun s => s.least * s.pos) (q.take i)
def smW (q : List Stone) (i : Nat) : Int := sumS (fun s => s.least) (q.take i)
theorem take_at {l : List Stone} {i : Nat} {s : Stone} (h : l[i]? = some s) : l.take (i + 1) = l.take i ++ [s] := by
  obtain ⟨h1, h2⟩ := List.getElem?_eq_some_iff.1 h
  rw [List.take_succ_eq_append_getElem h1, h2]
theorem smS_succ {q : List Stone} {i : Nat} {s : Stone} (h : q[i]? = some s) : smS q (i + 1) = smS q i + s.least * s.pos := by
  rw [smS, take_at h, sumS_append]; simp [sumS, smS]
theorem smW_succ {q : List Stone} {i : Nat} {s : Stone} (h : q[i]? = some s) : smW q (i + 1) = smW q i + s.least := by
  rw [smW, take_at h, sumS_append]; simp [sumS, smW]
def FitsL (q : List Stone) : Prop := ∀ (k : Nat) (s : Stone), q[k]? = some s → Fits s
theorem sm_b {q : List Stone} (h : FitsL q) : ∀ i, i ≤ q.length → (i : Int) ≤ smW q i ∧ smW q i ≤ 9 * i ∧ -(33554432 * smW q i) ≤ smS q i ∧ smS q i ≤ 33554432 * smW q i
  | 0, _ => by simp [smS, smW, sumS]
  | i + 1, hi => by
    obtain ⟨h1, h2, h3, h4⟩ := sm_b h i (by omega)
    obtain ⟨s, hs⟩ := at_ex (l := q) (k := i) (by omega)
    obtain ⟨_, _, p1, p2, l1, lm, m9⟩ := h i s hs
    rw [smS_succ hs, smW_succ hs]
    have a1 : s.least * s.pos ≤ s.least * 33554432 := Int.mul_le_mul_of_nonneg_left p2 (by omega)
    have a2 : s.least * -33554432 ≤ s.least * s.pos := Int.mul_le_mul_of_nonneg_left p1 (by omega)
    omega
theorem grd_app (sg : Int) : ∀ (p r : List Stone) (S W : Int), grd sg (p ++ r) S W = grd sg r (grd sg p S W).1 (grd sg p S W).2
  | [], r, S, W => rfl
  | s :: p, r, S, W => by
    rw [List.cons_append, grd, grd]
    split <;> exact grd_app sg p r _ _
def gS (sg : Int) (q : List Stone) (i : Nat) : Int := (grd sg (q.take i) (smS q q.length) (smW q q.length)).1
def gW (sg : Int) (q : List Stone) (i : Nat) : Int := (grd sg (q.take i) (smS q q.length) (smW q q.length)).2
theorem g_succ {sg : Int} {q : List Stone} {i : Nat} {s : Stone} (h : q[i]? = some s) :
    gS sg q (i + 1) = (if sg * (s.pos * gW sg q i - gS sg q i) > 0 then gS sg q i + (s.most - s.least) * s.pos else gS sg q i) ∧ gW sg q (i + 1) = (if sg * (s.pos * gW sg q i - gS sg q i) > 0 then gW sg q i + (s.most - s.least) else gW sg q i) := by
  unfold gS gW
  rw [take_at h, grd_app]
  simp only [grd]
  constructor <;> split <;> rfl
theorem g_b {sg : Int} {q : List Stone} (h : FitsL q) (hl : 0 < q.length ∧ q.length ≤ 5) : ∀ i, i ≤ q.length → 1 ≤ gW sg q i ∧ gW sg q i ≤ 45 + 8 * i ∧ -(33554432 * gW sg q i) ≤ gS sg q i ∧ gS sg q i ≤ 33554432 * gW sg q i
  | 0, _ => by
    have := sm_b h q.length (Nat.le_refl _)
    simp only [gS, gW, List.take_zero, grd]
    omega
  | i + 1, hi => by
    obtain ⟨h1, h2, h3, h4⟩ := g_b (sg := sg) h hl i (by omega)
    obtain ⟨s, hs⟩ := at_ex (l := q) (k := i) (by omega)
    obtain ⟨_, _, p1, p2, l1, lm, m9⟩ := h i s hs
    obtain ⟨e1, e2⟩ := g_succ (sg := sg) hs
    rw [e1, e2]
    split
    · have a1 : (s.most - s.least) * s.pos ≤ (s.most - s.least) * 33554432 := Int.mul_le_mul_of_nonneg_left p2 (by omega)
      have a2 : (s.most - s.least) * -33554432 ≤ (s.most - s.least) * s.pos := Int.mul_le_mul_of_nonneg_left p1 (by omega)
      omega
    · omega
abbrev s1 (sg : Int) (q : List Stone) (i : Nat) : St := ([(21, .int .i64 i), (20, .int .i64 q.length), (19, .ref 15 0 q.length q.length (q.length * 4) 4 false), (7, .int .i64 (smW q i)), (6, .int .i64 (smS q i)), (5, .ref 15 0 q.length q.length (q.length * 4) 4 false), (4, .ptr 4 0 2), (3, .ptr 3 0 1)], sH sg q)
theorem s1_go {C : Callee} {sg : Int} {q : List Stone} (h : FitsL q) (h5 : q.length ≤ 5) {i : Nat} (hi : i < q.length) :
    ∃ s', execA E C (fg 58) 0 73 [] 1000 c58_13 (s1 sg q i) = some (.normal, s') ∧ headA [] s' = s1 sg q (i + 1) := by
  obtain ⟨s, hs⟩ := at_ex hi
  obtain ⟨_, _, p1, p2, l1, lm, m9⟩ := h i s hs
  obtain ⟨h1, h2, h3, h4⟩ := sm_b h i (by omega)
  have a1 : s.least * s.pos ≤ s.least * 33554432 := Int.mul_le_mul_of_nonneg_left p2 (by omega)
  have a2 : s.least * -33554432 ≤ s.least * s.pos := Int.mul_le_mul_of_nonneg_left p1 (by omega)
  have a3 := pcells_at q i s hs
  have a4 : i * 4 + 4 ≤ q.length * 4 := by omega
  simp only [sc] at a3
  rw [show s1 sg q (i + 1) = ([(21, .int .i64 (i + 1 : Nat)), (20, .int .i64 q.length), (19, .ref 15 0 q.length q.length (q.length * 4) 4 false), (7, .int .i64 (smW q i + s.least)), (6, .int .i64 (smS q i + s.least * s.pos)), (5, .ref 15 0 q.length q.length (q.length * 4) 4 false), (4, .ptr 4 0 2), (3, .ptr 3 0 1)], sH sg q) by simp only [s1, smS_succ hs, smW_succ hs]]
  simp (disch := omega) only [seqX_normal, bindR_some, regX_some, condX_bool, blockX_normal, run_nil, run_cons, fget_cons', fput_cons', forget_nil, forget_cons', hget_nil', hget_cons', hset_cons', gcM_n, gcM_c, stp, opBox, just, Rd.bind, Rd.run, Rd.opt, upds, acells, zeroCells, tsz, rdCells, fieldOf, aFieldAddr, aLoad, aStore, opStore, fresh, aIndexAddr, aNum, aBin, aInt, putC, Nat.reduceAdd, Nat.reduceLT, Nat.reduceBEq, Nat.reduceEqDiff, Nat.reduceLeDiff, ↓reduceIte, reduceCtorEq, liveBlk_eq, Nat.zero_add, List.nil_append, decide_true, frz, putD_some, putD_none, and_true, Int.natCast_nonneg, Int.ofNat_lt, Int.toNat_natCast, snaps, snap, List.append_nil, List.elem_cons, List.elem_nil, List.length_cons, List.length_nil, List.getElem?_cons_zero, List.getElem?_cons_succ, List.set_cons_zero, List.set_cons_succ, T_3, T_22, T_45, x58_14, r58_5_l, s58_5_0, x58_17, x58_18, x58_16, x58_22, r58_6_l, s58_6_0, s58_6_1, s58_6_2, s58_6_3, x58_24, r58_7_l, s58_7_0, s58_7_1, s58_7_2, s58_7_3, s58_7_4, s58_7_5, s58_7_6, s58_7_7, x58_25, r58_8_l, s58_8_0, s58_8_1, s58_8_2, s58_8_3, s58_8_4, x58_23, x58_21, x58_20, x58_26, r58_9_l, s58_9_0, s58_9_1, x58_19, x58_15, x58_13, s1, sH, hi, a3, a4, pcells_length, wrp64, wrp_succ (show i < 1000000 by omega)]
  exact ⟨_, rfl, rfl⟩
theorem s1_loop {C : Callee} {sg : Int} {q : List Stone} (h : FitsL q) (h5 : q.length ≤ 5) :
    iterA (execA E C (fg 58) 0 73 [] 1000 c58_13) (headA []) 1000 (s1 sg q 0) = some (.exit 0, ((22, .bool false) :: (s1 sg q q.length).1, sH sg q)) := by
  refine iter_all (f := execA E C (fg 58) 0 73 [] 1000 c58_13) (hd := headA []) (s1 sg q) q.length 1000 0 _ (by rfl) (by omega) (fun i _ hi => s1_go h h5 (by omega)) ?_ (by simp)
  rw [Nat.zero_add]
  simp only [seqX_normal, seqX_exit, bindR_some, regX_some, condX_bool, run_nil, run_cons, fget_cons', fput_cons', forget_nil, forget_cons', gcM_n, stp, just, Rd.bind, Rd.run, Rd.opt, upds, aBin, aInt, Nat.reduceEqDiff, Nat.reduceLeDiff, ↓reduceIte, decide_false, putD_some, List.elem_nil, x58_14, r58_5_l, s58_5_0, x58_17, x58_18, x58_16, x58_15, x58_13, s1, sH, Int.lt_irrefl, decide_false, Bool.false_eq_true]
abbrev s2 (sg : Int) (q : List Stone) (i : Nat) : St := ([(39, .int .i64 i), (38, .int .i64 q.length), (37, .ref 15 0 q.length q.length (q.length * 4) 4 false), (7, .int .i64 (gW sg q i)), (6, .int .i64 (gS sg q i)), (4, .ptr 4 0 2), (3, .ptr 3 0 1)], sH sg q)
theorem s2_go {C : Callee} {sg : Int} (hsg : sg = 1 ∨ sg = -1) {q : List Stone} (h : FitsL q) (h5 : q.length ≤ 5) {i : Nat} (hi : i < q.length) :
    ∃ s', execA E C (fg 58) 0 73 [] 1000 c58_32 (s2 sg q i) = some (.normal, s') ∧ headA [] s' = s2 sg q (i + 1) := by
  obtain ⟨s, hs⟩ := at_ex hi
  obtain ⟨_, _, p1, p2, l1, lm, m9⟩ := h i s hs
  obtain ⟨h1, h2, h3, h4⟩ := g_b (sg := sg) h ⟨by omega, h5⟩ i (by omega)
  have a1 : (s.most - s.least) * s.pos ≤ (s.most - s.least) * 33554432 := Int.mul_le_mul_of_nonneg_left p2 (by omega)
  have a2 : (s.most - s.least) * -33554432 ≤ (s.most - s.least) * s.pos := Int.mul_le_mul_of_nonneg_left p1 (by omega)
  have b1 : s.pos * gW sg q i ≤ 33554432 * gW sg q i := Int.mul_le_mul_of_nonneg_right p2 (by omega)
  have b2 : -33554432 * gW sg q i ≤ s.pos * gW sg q i := Int.mul_le_mul_of_nonneg_right p1 (by omega)
  have b3 := sg_mul hsg (s.pos * gW sg q i - gS sg q i)
  have a3 := pcells_at q i s hs
  have a4 : i * 4 + 4 ≤ q.length * 4 := by omega
  obtain ⟨e1, e2⟩ := g_succ (sg := sg) hs
  simp only [sc] at a3
  by_cases hc : sg * (s.pos * gW sg q i - gS sg q i) > 0
  · rw [if_pos hc] at e1 e2
    rw [show s2 sg q (i + 1) = ([(39, .int .i64 (i + 1 : Nat)), (38, .int .i64 q.length), (37, .ref 15 0 q.length q.length (q.length * 4) 4 false), (7, .int .i64 (gW sg q i + (s.most - s.least))), (6, .int .i64 (gS sg q i + (s.most - s.least) * s.pos)), (4, .ptr 4 0 2), (3, .ptr 3 0 1)], sH sg q) by simp only [s2, e1, e2]]
    simp (disch := omega) only [seqX_normal, bindR_some, regX_some, condX_bool, blockX_normal, run_nil, run_cons, fget_cons', fput_cons', forget_nil, forget_cons', hget_nil', hget_cons', hset_cons', gcM_n, gcM_c, stp, opBox, just, Rd.bind, Rd.run, Rd.opt, upds, acells, zeroCells, tsz, rdCells, fieldOf, aFieldAddr, aLoad, aStore, opStore, fresh, aIndexAddr, aNum, aBin, aInt, putC, Nat.reduceAdd, Nat.reduceLT, Nat.reduceBEq, Nat.reduceEqDiff, Nat.reduceLeDiff, ↓reduceIte, reduceCtorEq, liveBlk_eq, Nat.zero_add, List.nil_append, decide_true, frz, putD_some, putD_none, and_true, Int.natCast_nonneg, Int.ofNat_lt, Int.toNat_natCast, snaps, snap, List.append_nil, List.elem_cons, List.elem_nil, List.length_cons, List.length_nil, List.getElem?_cons_zero, List.getElem?_cons_succ, List.set_cons_zero, List.set_cons_succ, T_3, T_22, T_45, x58_33, r58_11_l, s58_11_0, x58_36, x58_37, x58_35, x58_41, r58_12_l, s58_12_0, s58_12_1, s58_12_2, s58_12_3, x58_43, r58_13_l, s58_13_0, s58_13_1, s58_13_2, s58_13_3, s58_13_4, s58_13_5, s58_13_6, s58_13_7, s58_13_8, x58_46, r58_14_l, s58_14_0, s58_14_1, s58_14_2, s58_14_3, s58_14_4, s58_14_5, s58_14_6, s58_14_7, s58_14_8, s58_14_9, s58_14_10, x58_47, r58_15_l, s58_15_0, s58_15_1, s58_15_2, s58_15_3, s58_15_4, s58_15_5, s58_15_6, s58_15_7, x58_45, x58_48, x58_44, x58_42, x58_40, x58_39, x58_49, r58_16_l, s58_16_0, s58_16_1, x58_38, x58_34, x58_32, s2, sH, hi, a3, a4, pcells_length, wrp64, hc, wrp_succ (show i < 1000000 by omega)]
    exact ⟨_, rfl, rfl⟩
  · rw [if_neg hc] at e1 e2
    rw [show s2 sg q (i + 1) = ([(39, .int .i64 (i + 1 : Nat)), (38, .int .i64 q.length), (37, .ref 15 0 q.length q.length (q.length * 4) 4 false), (7, .int .i64 (gW sg q i)), (6, .int .i64 (gS sg q i)), (4, .ptr 4 0 2), (3, .ptr 3 0 1)], sH sg q) by simp only [s2, e1, e2]]
    simp (disch := omega) only [seqX_normal, bindR_some, regX_some, condX_bool, blockX_normal, run_nil, run_cons, fget_cons', fput_cons', forget_nil, forget_cons', hget_nil', hget_cons', hset_cons', gcM_n, gcM_c, stp, opBox, just, Rd.bind, Rd.run, Rd.opt, upds, acells, zeroCells, tsz, rdCells, fieldOf, aFieldAddr, aLoad, aStore, opStore, fresh, aIndexAddr, aNum, aBin, aInt, putC, Nat.reduceAdd, Nat.reduceLT, Nat.reduceBEq, Nat.reduceEqDiff, Nat.reduceLeDiff, ↓reduceIte, reduceCtorEq, liveBlk_eq, Nat.zero_add, List.nil_append, decide_true, decide_false, frz, putD_some, putD_none, and_true, Int.natCast_nonneg, Int.ofNat_lt, Int.toNat_natCast, snaps, snap, List.append_nil, List.elem_cons, List.elem_nil, List.length_cons, List.length_nil, List.getElem?_cons_zero, List.getElem?_cons_succ, List.set_cons_zero, List.set_cons_succ, T_3, T_22, T_45, x58_33, r58_11_l, s58_11_0, x58_36, x58_37, x58_35, x58_41, r58_12_l, s58_12_0, s58_12_1, s58_12_2, s58_12_3, x58_43, r58_13_l, s58_13_0, s58_13_1, s58_13_2, s58_13_3, s58_13_4, s58_13_5, s58_13_6, s58_13_7, s58_13_8, x58_46, r58_14_l, s58_14_0, s58_14_1, s58_14_2, s58_14_3, s58_14_4, s58_14_5, s58_14_6, s58_14_7, s58_14_8, s58_14_9, s58_14_10, x58_47, r58_15_l, s58_15_0, s58_15_1, s58_15_2, s58_15_3, s58_15_4, s58_15_5, s58_15_6, s58_15_7, x58_45, x58_48, x58_44, x58_42, x58_40, x58_39, x58_49, r58_16_l, s58_16_0, s58_16_1, x58_38, x58_34, x58_32, s2, sH, hi, a3, a4, pcells_length, wrp64, hc, wrp_succ (show i < 1000000 by omega)]
    exact ⟨_, rfl, rfl⟩
theorem s2_loop {C : Callee} {sg : Int} (hsg : sg = 1 ∨ sg = -1) {q : List Stone} (h : FitsL q) (h5 : q.length ≤ 5) :
    iterA (execA E C (fg 58) 0 73 [] 1000 c58_32) (headA []) 1000 (s2 sg q 0) = some (.exit 2, ((40, .bool false) :: (s2 sg q q.length).1, sH sg q)) := by
  refine iter_all (f := execA E C (fg 58) 0 73 [] 1000 c58_32) (hd := headA []) (s2 sg q) q.length 1000 0 _ (by rfl) (by omega) (fun i _ hi => s2_go hsg h h5 (by omega)) ?_ (by simp)
  rw [Nat.zero_add]
  simp only [seqX_normal, seqX_exit, bindR_some, regX_some, condX_bool, run_nil, run_cons, fget_cons', fput_cons', forget_nil, forget_cons', gcM_n, stp, just, Rd.bind, Rd.run, Rd.opt, upds, aBin, aInt, Nat.reduceEqDiff, Nat.reduceLeDiff, ↓reduceIte, decide_false, putD_some, List.elem_nil, x58_33, r58_11_l, s58_11_0, x58_36, x58_37, x58_35, x58_34, x58_32, s2, sH, Int.lt_irrefl, decide_false, Bool.false_eq_true]
theorem fits_perm {p q : List Stone} (h : p.Perm q) (hq : FitsL q) : FitsL p := fun k s hs => by
  have := h.mem_iff.1 (List.mem_of_getElem? hs)
  obtain ⟨j, hj⟩ := List.mem_iff_getElem?.1 this
  exact hq j s hj
theorem fits_drop {l : List Stone} (h : FitsL l) (k : Nat) : FitsL (l.drop k) := fun i s hs => by
  rw [List.getElem?_drop] at hs
  exact h _ s hs
/-- A length's number of bits is known. -/
def LenOk (C : Callee) : Prop := ∀ n : Nat, 1 ≤ n → n ≤ 5 → ∃ m, ∀ (site : Nat → Nat) seen, aBack site true seen (thaw C 95 [.int .u64 n] [] 0) = .pure (.int .i64 m, [])
theorem sp_eq {sg : Int} {q : List Stone} : gS sg (srt sg q) (srt sg q).length = spS sg q ∧ gW sg (srt sg q) (srt sg q).length = spW sg q := by
  simp only [gS, gW, smS, smW, List.take_length, spS, spW, and_self]
theorem spanf_run {d : Nat} {l : List Stone} {ex : Bool} (h : OkP l) {k : Nat} (hk : k < l.length) {sg : Int} (hsg : sg = 1 ∨ sg = -1) (hL : LenOk (callA E fg 1000 (d + 3))) :
    rsOf (callA E fg 1000 (d + 5) 58 [.int .i64 sg, .iptr [.imm (pcells l) l.length ex] 0, .iptr [.int .i64 k] 0] [] 0) = some (.agg (frc (rd (spS sg (l.drop k)) (spW sg (l.drop k))))) := by
  change rsOf (bodyA E (callA E fg 1000 (d + 4)) fg 1000 58 _ _ _) = _
  have h5 := h.le
  have hq : (l.drop k).length = l.length - k := List.length_drop
  have hfd : FitsL (l.drop k) := fits_drop h.fits k
  obtain ⟨m, hm⟩ := hL (l.drop k).length (by omega) (by omega)
  have hpos : Pos (l.drop k) := fun i x hx => by obtain ⟨_, _, p1, p2, _, _, _⟩ := hfd i x hx; exact ⟨p1, p2⟩
  have hcl := fun (site : Nat → Nat) seen (ex : Bool) => clone_call (d := d + 3) (site := site) (seen := seen) (ex := ex) (l := l.drop k) (by omega) (by omega)
  have hs := fun B => sort_run (d := d) (B := B) (m := m) hsg (l := l.drop k) (by omega) (by omega) hpos hm
  obtain ⟨hp, _⟩ := srt_perm sg (l := l.drop k) (by omega)
  have hsl : (srt sg (l.drop k)).length = (l.drop k).length := srt_length ..
  have hfs := fits_perm hp hfd
  have l1 := s1_loop (C := callA E fg 1000 (d + 4)) (sg := sg) hfs (by omega)
  have l2 := s2_loop (C := callA E fg 1000 (d + 4)) hsg hfs (by omega)
  obtain ⟨b1, b2, b3, b4⟩ := g_b (sg := sg) hfs ⟨by omega, by omega⟩ (srt sg (l.drop k)).length (Nat.le_refl _)
  have z1 : smS (srt sg (l.drop k)) 0 = 0 := by simp [smS, sumS]
  have z2 : smW (srt sg (l.drop k)) 0 = 0 := by simp [smW, sumS]
  have z3 : gS sg (srt sg (l.drop k)) 0 = smS (srt sg (l.drop k)) (srt sg (l.drop k)).length := by simp [gS, grd]
  have z4 : gW sg (srt sg (l.drop k)) 0 = smW (srt sg (l.drop k)) (srt sg (l.drop k)).length := by simp [gW, grd]
  obtain ⟨e1, e2⟩ := sp_eq (sg := sg) (q := l.drop k)
  rw [e1] at b3 b4
  rw [e2] at b1 b2 b3 b4
  have hr := fun (site : Nat → Nat) seen => reduced_call (d := d + 3) (site := site) (seen := seen) (num := spS sg (l.drop k)) (den := spW sg (l.drop k)) (by omega) (by omega)
  have f1 : gS sg (srt sg (l.drop k)) (l.length - k) = spS sg (l.drop k) := by rw [← e1, hsl, hq]
  have f2 : gW sg (srt sg (l.drop k)) (l.length - k) = spW sg (l.drop k) := by rw [← e2, hsl, hq]
  have hw : List.take ((l.length - k) * 4) (List.drop (k * 4) (pcells l)) = pcells (l.drop k) := window_pc l k
  simp only [s1, s2, sH, z1, z2, z3, z4, hsl, cl0] at l1 l2 hs
  rw [hq] at *
  have hkl : k ≤ l.length := by omega
  simp (disch := omega) only [blockX_exit, bodyX_ret, run_nil, run_cons, fget_cons', fput_cons', forget_nil, forget_cons', hget_nil', hget_cons', hset_nil', hset_cons', frame0, gcM_n, gcM_c, stp, opBox, just, Rd.bind, Rd.run, Rd.opt, upds, acells, zeroCells, tsz, rdCells, aLoad, aStore, opStore, resA, resL, fresh, aNum, aLen, aBuiltin, putC, Nat.reduceAdd, Nat.reduceMul, Nat.reduceBEq, Nat.reduceEqDiff, Nat.reduceLeDiff, ↓reduceIte, reduceCtorEq, liveBlk_eq, Nat.zero_add, List.nil_append, List.getElem?_toArray, Bool.and_true, decide_true, window, putD_some, putD_none, and_true, true_and, Int.natCast_nonneg, Int.toNat_natCast, mutX, aCall, snaps, List.append_nil, Option.map_some, List.elem_cons, List.elem_nil, List.length_cons, List.length_nil, List.getElem?_cons_zero, List.drop_zero, List.take_succ_cons, List.take_nil, List.set_cons_zero, List.set_cons_succ, frz_nil, seqN, bindN, regN, snap_int, snap_imm, aSlice, aBounds, bMax, bHigh, bLow, back1_r, Nat.le_refl, Nat.zero_mul, List.not_mem_nil, beq_self_eq_true, Bool.false_eq_true, T_3, T_22, T_45, T_27, x58_1, r58_0_l, s58_0_0, s58_0_1, x58_3, r58_1_l, s58_1_0, s58_1_1, s58_1_2, s58_1_3, s58_1_4, x58_5, r58_2_l, s58_2_0, s58_2_1, s58_2_2, x58_7, r58_3_l, s58_3_0, s58_3_1, x58_10, r58_4_l, s58_4_0, s58_4_1, s58_4_2, x58_12, x58_11, x58_9, x58_29, r58_10_l, s58_10_0, s58_10_1, s58_10_2, x58_31, x58_30, x58_28, x58_51, r58_17_l, s58_17_0, s58_17_1, s58_17_2, s58_17_3, x58_52, x58_50, x58_27, x58_8, x58_6, x58_4, x58_2, x58_0, b_58, hcl, pcells_length, hw, if_pos, hs, l1, l2, hr, f1, f2, frc, rd]
theorem spanf_call {d : Nat} {site : Nat → Nat} {l : List Stone} {ex : Bool} (h : OkP l) {k : Nat} (hk : k < l.length) {sg : Int} (hsg : sg = 1 ∨ sg = -1) (hL : LenOk (callA E fg 1000 (d + 3))) (seen : List Nat) :
    aBack site true seen (thaw (callA E fg 1000 (d + 5)) 58 [.int .i64 sg, .iptr [.imm (pcells l) l.length ex] 0, .iptr [.int .i64 k] 0] [] 0) = .pure (.agg (frc (rd (spS sg (l.drop k)) (spW sg (l.drop k)))), []) :=
  aBack_frac (rs_ex (spanf_run h hk hsg hL))
theorem spanf_pure (caps args : List AV) : mutV E (.clo 58 caps) args = none := rfl
/-- An end of a span. -/
def spF (sg : Int) (l : List Stone) (z : Int) : Fr := if foundE l z = 0 then rd (spS sg (l.drop z.toNat)) (spW sg (l.drop z.toNat)) else ⟨0, 0⟩
theorem span_run {d : Nat} {a : AV} {l : List Stone} (ha : IsP a l) (z : Int) (hL : LenOk (callA E fg 1000 (d + 3))) :
    rsOf (callA E fg 1000 (d + 6) 12 [a, .int .i64 z] [] 0) = some (.tup [.agg (frc (spF (-1) l z)), .agg (frc (spF 1 l z)), .int .i64 (foundE l z)]) := by
  change rsOf (bodyA E (callA E fg 1000 (d + 5)) fg 1000 12 _ _ _) = _
  have cf := fun (site : Nat → Nat) seen => found_call (d := d + 2) (site := site) (seen := seen) ha z
  by_cases h0 : foundE l z = 0
  · obtain ⟨ok, z0, zl⟩ := found_zero.1 h0
    obtain ⟨ex, rfl⟩ := isP_imm ha ok.ne
    have hz : ((z.toNat : Nat) : Int) = z := by omega
    have s1 := fun (site : Nat → Nat) seen => spanf_call (d := d) (site := site) (ex := ex) ok (k := z.toNat) (by omega) (sg := 1) (.inl rfl) hL seen
    have s2 := fun (site : Nat → Nat) seen => spanf_call (d := d) (site := site) (ex := ex) ok (k := z.toNat) (by omega) (sg := -1) (.inr rfl) hL seen
    rw [hz] at s1 s2
    simp only [frc] at s1 s2
    simp only [spF, h0, if_true, frc]
    simp (disch := omega) only [condX_bool, bodyX_ret, run_nil, run_cons, fget_cons', fput_cons', forget_nil, forget_cons', hget_nil', hget_cons', hset_nil', hset_cons', frame0, gcM_c, stp, opBox, justO, just, Rd.bind, Rd.run, Rd.opt, upds, acells, zeroCells, tsz, rdCells, aLoad, aStore, opStore, resA, resL, fresh, aBin, aInt, putC, Nat.reduceAdd, Nat.reduceMul, Nat.reduceBEq, Nat.reduceEqDiff, Nat.reduceLeDiff, Int.reduceNeg, ↓reduceIte, reduceCtorEq, liveBlk_eq, Nat.zero_add, List.nil_append, partsOf, fillA, putD_some, putD_none, and_true, aCall, snaps, List.append_nil, Option.map_some, List.elem_cons, List.elem_nil, List.length_cons, List.length_nil, List.getElem?_cons_zero, List.drop_zero, List.take_succ_cons, List.take_nil, List.set_cons_zero, List.set_cons_succ, frz_nil, seqN, bindN, regN, snap_int, snap_imm, snap_ptr', aBuild, opCallV, List.cons_append, Nat.le_refl, List.not_mem_nil, beq_self_eq_true, bne_self_eq_false, Bool.false_eq_true, T_3, T_22, T_27, x12_1, r12_0_l, s12_0_0, s12_0_1, s12_0_2, s12_0_3, s12_0_4, x12_4, r12_1_l, s12_1_0, s12_1_1, s12_1_2, s12_1_3, x12_6, r12_2_l, s12_2_0, s12_2_1, x12_9, r12_3_l, s12_3_0, s12_3_1, s12_3_2, s12_3_3, s12_3_4, s12_3_5, x12_10, x12_8, x12_11, x12_7, x12_5, x12_3, x12_13, r12_4_l, s12_4_0, s12_4_1, x12_15, r12_5_l, s12_5_0, s12_5_1, s12_5_2, s12_5_3, s12_5_4, s12_5_5, s12_5_6, x12_16, x12_14, x12_12, x12_2, x12_0, b_12, cf, h0, callV_eq (spanf_pure _ _), fi_58, s1, s2, beq_self_eq_true, putC]
  · have e0 : frc ⟨0, 0⟩ = [.int .i64 0, .int .i64 0] := rfl
    rcases ha with ⟨rfl, rfl⟩ | ⟨ex, rfl⟩
    all_goals simp only [spF, h0, if_false, e0]
    all_goals simp (disch := omega) only [seqX_ret, condX_bool, bodyX_ret, run_nil, run_cons, fget_cons', fput_cons', forget_nil, forget_cons', hget_nil', hget_cons', hset_nil', hset_cons', frame0, gcM_c, stp, opBox, justO, just, Rd.bind, Rd.run, Rd.opt, upds, acells, zeroCells, tsz, rdCells, aLoad, aStore, opStore, resA, resL, fresh, aBin, aInt, putC, Nat.reduceAdd, Nat.reduceBEq, Nat.reduceEqDiff, Nat.reduceLeDiff, ↓reduceIte, reduceCtorEq, liveBlk_eq, Nat.zero_add, bne_iff_ne, ne_eq, List.nil_append, not_false_eq_true, partsOf, fillA, putD_some, putD_none, and_true, aCall, snaps, List.append_nil, Option.map_some, List.elem_cons, List.elem_nil, List.length_cons, List.length_nil, List.getElem?_cons_zero, List.drop_zero, List.take_succ_cons, List.take_nil, List.set_cons_zero, List.set_cons_succ, frz_nil, seqN, bindN, regN, snap_int, snap_nilsl, snap_imm, aBuild, Nat.le_refl, List.not_mem_nil, beq_self_eq_true, Bool.false_eq_true, T_3, T_22, T_27, x12_1, r12_0_l, s12_0_0, s12_0_1, s12_0_2, s12_0_3, s12_0_4, x12_4, r12_1_l, s12_1_0, s12_1_1, s12_1_2, s12_1_3, x12_6, r12_2_l, s12_2_0, s12_2_1, x12_9, r12_3_l, s12_3_0, s12_3_1, s12_3_2, s12_3_3, s12_3_4, s12_3_5, x12_10, x12_8, x12_11, x12_7, x12_5, x12_3, x12_2, x12_0, b_12, cf, h0, putC, beq_self_eq_true]
theorem aBack_span {C : Callee} {site : Nat → Nat} {seen : List Nat} {f : FuncId} {args : List AV} {a b e : Int} {a' b' : Int} (h : ∃ H', C f args [] 0 = some (.tup [.agg [.int .i64 a, .int .i64 b], .agg [.int .i64 a', .int .i64 b'], .int .i64 e], H')) :
    aBack site true seen (thaw C f args [] 0) = .pure (.tup [.agg [.int .i64 a, .int .i64 b], .agg [.int .i64 a', .int .i64 b'], .int .i64 e], []) := by
  obtain ⟨H', h⟩ := h; exact aBack_plain h rfl (fun _ => rfl) rfl
theorem span_call {d : Nat} {site : Nat → Nat} {seen : List Nat} {a : AV} {l : List Stone} (ha : IsP a l) (z : Int) (hL : LenOk (callA E fg 1000 (d + 3))) :
    aBack site true seen (thaw (callA E fg 1000 (d + 6)) 12 [a, .int .i64 z] [] 0) = .pure (.tup [.agg (frc (spF (-1) l z)), .agg (frc (spF 1 l z)), .int .i64 (foundE l z)], []) :=
  aBack_span (rs_ex (span_run ha z hL))
end Go.AM.Ytmhbnflnlglljaa
end

section
namespace Go.AM.Ytmhbnflnlglljaa
open Go Go.AM
set_option maxRecDepth 100000
set_option maxHeartbeats 4000000
abbrev coS (a b : Nat) : St := ([(1, .int .i64 b), (0, .int .i64 a)], [])
theorem co_go {C : Callee} {a b : Nat} (hb : b ≠ 0) (h2 : b < 9223372036854775808) :
    ∃ s', execA E C (fg 83) 0 20 [] 1000 c83_7 (coS a b) = some (.normal, s') ∧ headA [] s' = coS b (a % b) := by
  have hn : ¬ (b : Int) = 0 := by omega
  have ht : (a : Int).tmod b = ((a % b : Nat) : Int) := by rw [Int.tmod_eq_emod_of_nonneg (by omega)]; omega
  have hlt := Nat.mod_lt a (Nat.pos_of_ne_zero hb)
  have w : wrp .i64 ((a % b : Nat) : Int) = ((a % b : Nat) : Int) := wrp64 (by omega)
  simp only [seqX_normal, bindR_some, regX_some, condX_bool, blockX_normal, Bool.not_true, Bool.not_false, run_nil, run_cons, fget_cons', fput_cons', forget_nil, forget_cons', gcM_c, stp, just, Rd.bind, Rd.run, Rd.opt, upds, aBin, aInt, Nat.reduceAdd, Nat.reduceBEq, Nat.reduceEqDiff, Nat.reduceLeDiff, ↓reduceIte, reduceCtorEq, Nat.zero_add, bne_iff_ne, ne_eq, rtX_some, addT_some, drX_some, runT_nil, runT_cons, neat_eq, descF_nil', descF_cons', ascH_nil', stpT, Rd.foot, writing, touching, Tr.empty, dynPairs, List.isEmpty_nil, List.map_nil, Bool.not_false, Bool.not_true, Bool.or_true, Bool.or_false, Bool.and_self, decide_true, not_false_eq_true, putD_some, List.elem_cons, List.elem_nil, x83_9, r83_2_l, s83_2_0, s83_2_1, x83_11, x83_12, x83_10, x83_8, x83_14, r83_3_l, r83_3_dr, r83_3_an, s83_3_0, s83_3_1, s83_3_2, s83_3_3, s83_3_4, s83_3_5, x83_13, x83_7, coS, hn, ht]
  exact ⟨_, rfl, by simp only [headA_nil]⟩
abbrev coE (a : Nat) : St := ([(14, .bool false), (1, .int .i64 0), (0, .int .i64 a)], [])
theorem co_stop {C : Callee} {a : Nat} : execA E C (fg 83) 0 20 [] 1000 c83_7 (coS a 0) = some (.exit 0, coE a) := by
  simp only [seqX_normal, seqX_exit, bindR_some, regX_some, condX_bool, run_nil, run_cons, fget_cons', fput_cons', forget_nil, forget_cons', gcM_c, stp, just, Rd.bind, Rd.run, Rd.opt, upds, aBin, aInt, Nat.reduceBEq, Nat.reduceEqDiff, Nat.reduceLeDiff, ↓reduceIte, reduceCtorEq, putD_some, List.elem_cons, List.elem_nil, x83_9, r83_2_l, s83_2_0, s83_2_1, x83_11, x83_12, x83_10, x83_8, x83_7, coS, coE, Int.natCast_zero, bne_self_eq_false]
theorem co_loop {C : Callee} : ∀ (m a b F : Nat) (s : St), headA [] s = coS a b → b < 2 ^ m → m ≤ 62 → 2 * m < F →
    iterA (execA E C (fg 83) 0 20 [] 1000 c83_7) (headA []) F s = some (.exit 0, coE (Nat.gcd a b)) := by
  intro m
  induction m with
  | zero =>
    intro a b F s hs hb hm hF
    obtain ⟨F, rfl⟩ : ∃ G, F = G + 1 := ⟨F - 1, by omega⟩
    obtain rfl : b = 0 := by omega
    rw [iterA_succ, hs, co_stop, seqX_exit, Nat.gcd_zero_right]
  | succ m ih =>
    intro a b F s hs hb hm hF
    obtain ⟨F, rfl⟩ : ∃ G, F = G + 2 := ⟨F - 2, by omega⟩
    have hpow : 2 ^ (m + 1) ≤ 2 ^ 62 := Nat.pow_le_pow_right (by omega) hm
    have h62 : (2 : Nat) ^ 62 < 9223372036854775808 := by decide
    have hps : 2 ^ (m + 1) = 2 * 2 ^ m := by rw [Nat.pow_succ]; omega
    by_cases h0 : b = 0
    · subst h0
      rw [iterA_succ, hs, co_stop, seqX_exit, Nat.gcd_zero_right]
    · obtain ⟨s1, e1, e2⟩ := co_go (C := C) (a := a) h0 (by omega)
      have hlt := Nat.mod_lt a (Nat.pos_of_ne_zero h0)
      have hg : Nat.gcd a b = Nat.gcd b (a % b) := by rw [Nat.gcd_comm a b, Nat.gcd_rec, Nat.gcd_comm]
      rw [iterA_succ, hs, e1, seqN, iterA_succ, e2, hg]
      by_cases h1 : a % b = 0
      · rw [h1, co_stop, seqX_exit, Nat.gcd_zero_right]
      · obtain ⟨s2, f1, f2⟩ := co_go (C := C) (a := b) h1 (by omega)
        have hlt2 := Nat.mod_lt b (Nat.pos_of_ne_zero h1)
        have hg2 : Nat.gcd b (a % b) = Nat.gcd (a % b) (b % (a % b)) := by rw [Nat.gcd_comm b (a % b), Nat.gcd_rec, Nat.gcd_comm]
        have hdm := Nat.div_add_mod b (a % b)
        have hq : 1 ≤ b / (a % b) := Nat.div_pos (by omega) (by omega)
        have hmul : a % b ≤ (a % b) * (b / (a % b)) := Nat.le_mul_of_pos_right _ hq
        rw [f1, seqN, hg2]
        exact ih (a % b) (b % (a % b)) F s2 f2 (by omega) (by omega) (by omega)
theorem common_run {C : Callee} {num den : Int} (h1 : -4611686018427387903 ≤ num ∧ num ≤ 4611686018427387903) (h2 : -4611686018427387903 ≤ den ∧ den ≤ 4611686018427387903) :
    rsOf (bodyA E C fg 1000 83 [.int .i64 num, .int .i64 den] [] 0) = some (.int .i64 (gcdI num den)) := by
  have h62 : (2 : Nat) ^ 62 = 4611686018427387904 := by decide
  have hl := co_loop (C := C) 62 num.natAbs den.natAbs 1000 (coS num.natAbs den.natAbs) rfl (by omega) (by omega) (by omega)
  have hmax : (if -num > num then -num else num) = (num.natAbs : Int) := by split <;> omega
  have hmax2 : (if -den > den then -den else den) = (den.natAbs : Int) := by split <;> omega
  have w1 : wrp .i64 (0 - num) = -num := by rw [wrp64 (by omega)]; omega
  have w2 : wrp .i64 (0 - den) = -den := by rw [wrp64 (by omega)]; omega
  have hg : Nat.gcd num.natAbs den.natAbs = gcdI num den := rfl
  simp only [hg, coE, coS] at hl
  simp only [seqX_normal, bindR_some, regX_some, blockX_exit, bodyX_ret, run_nil, run_cons, fget_cons', fput_cons', forget_nil, forget_cons', frame0, gcM_c, stp, justO, Rd.run, upds, resA, resL, aBuiltin, aMax, Nat.reduceBEq, Nat.reduceEqDiff, Nat.reduceLeDiff, ↓reduceIte, reduceCtorEq, Nat.zero_add, aUn, putD_some, Option.map_some, List.elem_cons, List.elem_nil, x83_1, r83_0_l, s83_0_0, x83_3, r83_1_l, s83_1_0, s83_1_1, s83_1_2, s83_1_3, s83_1_4, s83_1_5, s83_1_6, s83_1_7, s83_1_8, s83_1_9, x83_6, x83_5, x83_16, r83_4_l, s83_4_0, s83_4_1, x83_17, x83_15, x83_4, x83_2, x83_0, b_83, w1, w2, hmax, hmax2, hl]
theorem common_call {d : Nat} {site : Nat → Nat} {seen : List Nat} {num den : Int} (h1 : -4611686018427387903 ≤ num ∧ num ≤ 4611686018427387903) (h2 : -4611686018427387903 ≤ den ∧ den ≤ 4611686018427387903) :
    aBack site true seen (thaw (callA E fg 1000 (d + 1)) 83 [.int .i64 num, .int .i64 den] [] 0) = .pure (.int .i64 (gcdI num den), []) :=
  aBack_int (rs_ex (common_run h1 h2))
theorem rdN_b {num den : Int} (hd : 0 < den) : (rdN num den).natAbs ≤ num.natAbs := by
  obtain ⟨m1, _⟩ := rd_mul num den
  have hg := gcdI_pos (num := num) hd
  have := nat_le_mul (rdN num den) (show (1 : Int) ≤ gcdI num den by omega)
  rwa [m1] at this
end Go.AM.Ytmhbnflnlglljaa
end

section
namespace Go.AM.Ytmhbnflnlglljaa
open Go Go.AM
set_option maxRecDepth 100000
set_option maxHeartbeats 4000000
structure Fair (f : Fr) : Prop where
  d0 : 0 < f.den
  d1 : f.den < 33554432
  n0 : -68719476736 < f.num
  n1 : f.num < 68719476736
  co : gcdI f.num f.den = 1
theorem fair_run {d : Nat} {f : Fr} (h : Fair f) : rsOf (callA E fg 1000 (d + 2) 33 [.agg (frc f)] [] 0) = some (.bool true) := by
  change rsOf (bodyA E (callA E fg 1000 (d + 1)) fg 1000 33 _ _ _) = _
  obtain ⟨d0, d1, n0, n1, co⟩ := h
  have hc := fun (site : Nat → Nat) seen => common_call (d := d) (site := site) (seen := seen) (num := f.num) (den := f.den) (by omega) (by omega)
  have g1 : f.den > 0 := d0
  have g2 : f.num > -68719476736 := n0
  simp only [co, cl1] at hc
  simp (disch := omega) only [↓gd, fset_cons, bodyX_ret, run_nil, run_cons, fget_cons', fput_cons', forget_nil, forget_cons', hget_nil', hget_cons', hset_nil', frame0, gcM_c, stp, opPick, opBox, just, Rd.bind, Rd.run, Rd.opt, upds, acells, rdCells, fieldOf, aFieldAddr, aLoad, resA, resL, fresh, aBin, aInt, Nat.reduceAdd, Nat.reduceBEq, Nat.reduceEqDiff, Nat.reduceLeDiff, Int.reduceNeg, ↓reduceIte, reduceCtorEq, liveBlk_eq, Nat.zero_add, Nat.add_zero, decide_true, putD_some, aCall, snaps, List.append_nil, Option.map_some, List.elem_cons, List.elem_nil, List.length_cons, List.length_nil, List.getElem?_cons_zero, List.getElem?_cons_succ, seqN, bindN, regN, snap_int, beq_self_eq_true, Bool.false_eq_true, T_3, T_27, x33_1, r33_0_l, s33_0_0, s33_0_1, x33_3, r33_1_l, s33_1_0, s33_1_1, s33_1_2, s33_1_3, s33_1_4, s33_1_5, s33_1_6, s33_1_7, s33_1_8, s33_1_9, s33_1_10, s33_1_11, s33_1_12, s33_1_13, s33_1_14, s33_1_15, s33_1_16, s33_1_17, s33_1_18, s33_1_19, s33_1_20, s33_1_21, s33_1_22, s33_1_23, s33_1_24, s33_1_25, s33_1_26, x33_4, x33_2, x33_0, b_33, frc, g1, d1, g2, n1, hc]
theorem fair_call {d : Nat} {site : Nat → Nat} {seen : List Nat} {f : Fr} (h : Fair f) : aBack site true seen (thaw (callA E fg 1000 (d + 2)) 33 [.agg [.int .i64 f.num, .int .i64 f.den]] [] 0) = .pure (.bool true, []) :=
  aBack_bool (rs_ex (fair_run h))
theorem fair_mul {f g : Fr} (hf : Fair f) (hg : Fair g) : -2305843009213693952 ≤ f.num * g.den ∧ f.num * g.den ≤ 2305843009213693952 := by
  obtain ⟨_, _, n0, n1, _⟩ := hf
  obtain ⟨d0, d1, _, _, _⟩ := hg
  have a1 : f.num * g.den ≤ 68719476736 * g.den := Int.mul_le_mul_of_nonneg_right (by omega) (by omega)
  have a2 : -68719476736 * g.den ≤ f.num * g.den := Int.mul_le_mul_of_nonneg_right (by omega) (by omega)
  omega
theorem below_run {C : Callee} {f g : Fr} (hf : Fair f) (hg : Fair g) : rsOf (bodyA E C fg 1000 39 [.agg (frc f), .agg (frc g)] [] 0) = some (.bool (decide (f.num * g.den < g.num * f.den))) := by
  have a1 := fair_mul hf hg
  have a2 := fair_mul hg hf
  simp (disch := omega) only [bodyX_ret, run_nil, run_cons, fget_cons', fput_cons', forget_nil, forget_cons', hget_nil', hget_cons', hset_nil', hset_cons', frame0, gcM_c, stp, opBox, just, Rd.bind, Rd.run, Rd.opt, upds, acells, rdCells, fieldOf, aFieldAddr, aLoad, resA, resL, fresh, aBin, aInt, Nat.reduceAdd, Nat.reduceBEq, Nat.reduceEqDiff, Nat.reduceLeDiff, ↓reduceIte, reduceCtorEq, liveBlk_eq, Nat.zero_add, Nat.add_zero, putD_some, Option.map_some, List.elem_cons, List.elem_nil, List.length_cons, List.length_nil, List.getElem?_cons_zero, List.getElem?_cons_succ, seqN, bindN, regN, beq_self_eq_true, Bool.false_eq_true, T_3, T_27, x39_1, r39_0_l, s39_0_0, s39_0_1, s39_0_2, x39_3, r39_1_l, s39_1_0, s39_1_1, s39_1_2, s39_1_3, s39_1_4, s39_1_5, s39_1_6, s39_1_7, s39_1_8, s39_1_9, s39_1_10, s39_1_11, x39_4, x39_2, x39_0, b_39, frc, wrp64]
theorem below_call {d : Nat} {site : Nat → Nat} {seen : List Nat} {f g : Fr} (hf : Fair f) (hg : Fair g) : aBack site true seen (thaw (callA E fg 1000 (d + 1)) 39 [.agg [.int .i64 f.num, .int .i64 f.den], .agg [.int .i64 g.num, .int .i64 g.den]] [] 0) = .pure (.bool (decide (f.num * g.den < g.num * f.den)), []) :=
  aBack_bool (rs_ex (below_run hf hg))
theorem eqS {a b c d : Int} : eqArr E.T 45 [.int .i64 a, .int .i64 b, .int .i64 c, .int .i64 d] [.int .i64 a, .int .i64 b, .int .i64 c, .int .i64 d] = some true := by
  simp [eqArr, T_45, T_3, eqFs]
theorem stones_run {C : Callee} {l : List Stone} {e1 e2 : Bool} (h5 : l.length ≤ 5) : rsOf (bodyA E C fg 1000 42 [.imm (pcells l) l.length e1, .imm (pcells l) l.length e2] [] 0) = some (.bool true) := by
  have hloop := iter_all (f := execA E C (fg 42) 0 26 [] 1000 c42_15) (hd := headA []) (fun i => ([(5, .int .i64 i), (1, .imm (pcells l) l.length e2), (0, .imm (pcells l) l.length e1)], [])) l.length 1000 0
    ([(5, .int .i64 0), (1, .imm (pcells l) l.length e2), (0, .imm (pcells l) l.length e1)], []) (by rfl) (by omega) (fun i _ hi => by
      have hi : i < l.length := by omega
      obtain ⟨s, hs⟩ := at_ex hi
      have a3 := pcells_at l i s hs
      simp only [sc] at a3
      simp (disch := omega) only [condX_bool, blockX_normal, Bool.not_true, Bool.not_false, run_nil, run_cons, fget_cons', fput_cons', forget_nil, forget_cons', gcM_c, stp, just, Rd.bind, Rd.run, Rd.opt, upds, tsz, rdCells, aLoad, aIndexAddr, aNum, aLen, aBuiltin, aBin, aInt, Nat.reduceAdd, Nat.reduceLT, Nat.reduceBEq, Nat.reduceEqDiff, Nat.reduceLeDiff, ↓reduceIte, reduceCtorEq, Nat.zero_add, List.getElem?_toArray, rtX_some, addT_some, drX_some, runT_nil, runT_cons, neat_eq, descF_nil', descF_cons', ascH_nil', stpT, Rd.foot, writing, touching, Tr.empty, dynPairs, List.isEmpty_nil, List.map_nil, Bool.not_false, Bool.not_true, Bool.or_true, Bool.or_false, Bool.and_self, decide_true, putD_some, and_true, Int.natCast_nonneg, Int.ofNat_lt, Int.toNat_natCast, Option.map_some, List.elem_cons, List.elem_nil, List.getElem?_cons_zero, seqN, bindN, regN, Nat.le_refl, beq_self_eq_true, Bool.false_eq_true, T_22, T_45, x42_17, r42_4_l, s42_4_0, s42_4_1, s42_4_2, s42_4_3, x42_19, x42_20, x42_18, x42_16, x42_24, r42_6_l, r42_6_dr, r42_6_an, s42_6_0, s42_6_1, s42_6_2, s42_6_3, s42_6_4, s42_6_5, s42_6_6, s42_6_7, s42_6_8, x42_27, r42_7_l, s42_7_0, x42_28, x42_26, x42_29, x42_25, x42_23, x42_22, x42_30, r42_5_l, s42_5_0, s42_5_1, s42_5_2, x42_21, x42_15, hi, a3, pcells_length, eqS, if_pos, wrp_succ (show i < 1000000 by omega), Option.map_some]
      exact ⟨_, rfl, rfl⟩) (e := .exit 0) (se := ([(14, .bool false), (5, .int .i64 l.length), (1, .imm (pcells l) l.length e2), (0, .imm (pcells l) l.length e1)], [])) (by
      rw [Nat.zero_add]
      simp only [seqX_normal, seqX_exit, bindR_some, regX_some, condX_bool, run_nil, run_cons, fget_cons', fput_cons', forget_nil, forget_cons', gcM_c, stp, just, Rd.bind, Rd.run, Rd.opt, upds, aLen, aBuiltin, aBin, aInt, Nat.reduceBEq, Nat.reduceEqDiff, Nat.reduceLeDiff, ↓reduceIte, reduceCtorEq, List.getElem?_toArray, decide_false, putD_some, List.elem_cons, List.elem_nil, List.getElem?_cons_zero, T_22, x42_17, r42_4_l, s42_4_0, s42_4_1, s42_4_2, s42_4_3, x42_19, x42_20, x42_18, x42_16, x42_15, Int.lt_irrefl, decide_false, Bool.false_eq_true]) (by simp)
  simp only [condX_bool, blockX_exit, bodyX_ret, run_nil, run_cons, fget_cons', fput_nil, fput_cons', forget_nil, forget_cons', frame0, gcM_n, gcM_c, stp, just, Rd.bind, Rd.run, Rd.opt, upds, resA, resL, aLen, aBuiltin, aBin, aInt, Nat.reduceBEq, Nat.reduceEqDiff, Nat.reduceLeDiff, ↓reduceIte, reduceCtorEq, Nat.zero_add, List.getElem?_toArray, putD_some, Option.map_some, List.elem_cons, List.elem_nil, List.getElem?_cons_zero, seqN, bindN, regN, beq_self_eq_true, bne_self_eq_false, Bool.false_eq_true, T_22, x42_1, r42_0_l, s42_0_0, x42_4, r42_1_l, s42_1_0, s42_1_1, s42_1_2, s42_1_3, s42_1_4, x42_7, r42_2_l, s42_2_0, x42_8, x42_6, x42_9, x42_5, x42_3, x42_12, r42_3_l, s42_3_0, x42_14, x42_13, x42_11, x42_32, r42_8_l, s42_8_0, x42_33, x42_31, x42_10, x42_2, x42_0, b_42, hloop, bne_self_eq_false]
theorem stones_call {d : Nat} {site : Nat → Nat} {seen : List Nat} {l : List Stone} {e1 e2 : Bool} (h5 : l.length ≤ 5) : aBack site true seen (thaw (callA E fg 1000 (d + 1)) 42 [.imm (pcells l) l.length e1, .imm (pcells l) l.length e2] [] 0) = .pure (.bool true, []) :=
  aBack_bool (rs_ex (stones_run h5))
def nrw (l : List Stone) (k : Nat) (a b : Int) : List Stone := l.set k { l.getD k default with least := a, most := b }
theorem nrw_length (l : List Stone) (k : Nat) (a b : Int) : (nrw l k a b).length = l.length := by simp [nrw]
theorem pcells_nrw : ∀ (l : List Stone) (k : Nat) (a b : Int), k < l.length → ((pcells l).set (k * 4 + 2) (.int .i64 a)).set (k * 4 + 3) (.int .i64 b) = pcells (nrw l k a b)
  | [], k, a, b, h => by simp at h
  | s :: l, 0, a, b, h => by simp [pcells, sc, nrw]
  | s :: l, k + 1, a, b, h => by
    have ih := pcells_nrw l k a b (by simpa using h)
    have e : nrw (s :: l) (k + 1) a b = s :: nrw l k a b := by simp [nrw]
    have e1 : (k + 1) * 4 + 2 = k * 4 + 2 + 4 := by omega
    have e2 : (k + 1) * 4 + 3 = k * 4 + 3 + 4 := by omega
    rw [e, e1, e2, pcells, pcells, ← ih]
    simp only [sc, List.cons_append, List.nil_append, List.set_cons_succ]
theorem know_ok {d : Nat} {l : List Stone} {ex : Bool} {k : Nat} {a b : Int} (ok : OkP l) (hk : k < l.length) (hab : a ≤ b) (h1 : (l.getD k default).least ≤ a) (h2 : b ≤ (l.getD k default).most) :
    callA E fg 1000 (d + 4) 18 [.imm (pcells l) l.length ex, .int .i64 k, .int .i64 a, .int .i64 b] [] 0 = some (.tup [.ref 41 0 l.length l.length (l.length * 4) 4 false, .int .i64 0], [(41, ⟨.row, pcells (nrw l k a b)⟩)]) := by
  change bodyA E (callA E fg 1000 (d + 3)) fg 1000 18 _ _ _ = _
  have h0 : foundE l k = 0 := found_zero.2 ⟨ok, by omega, by omega⟩
  have cf := fun (site : Nat → Nat) seen => found_call (d := d) (site := site) (seen := seen) (a := .imm (pcells l) l.length ex) (.inr ⟨ex, rfl⟩) k
  have hcl := fun (site : Nat → Nat) seen => clone_call (d := d + 2) (site := site) (seen := seen) (ex := ex) (l := l) ok.ne ok.le
  obtain ⟨s, hs⟩ := at_ex hk
  have hg : l.getD k default = s := by simp [hs]
  rw [hg] at h1 h2
  have f2 : (pcells l)[k * 4 + 2]? = some (.int .i64 s.least) := pcells_field l k s 2 hs (by omega)
  have f3 : (pcells l)[k * 4 + 3]? = some (.int .i64 s.most) := pcells_field l k s 3 hs (by omega)
  have hp := pcells_nrw l k a b hk
  have hle := ok.le
  have hss : ((pcells l).set (k * 4 + 2) (.int .i64 a)).length = l.length * 4 := by simp [pcells_length]
  simp (disch := omega) only [condX_bool, blockX_normal, ↓gd, fset_cons, Bool.not_false, bodyX_ret, run_nil, run_cons, fget_cons', fput_nil, fput_cons', forget_nil, forget_cons', hget_nil', hget_cons', hset_nil', hset_cons', frame0, gcM_c, stp, opPick, just, Rd.bind, Rd.run, Rd.opt, upds, acells, tsz, rdCells, fieldOf, aFieldAddr, aLoad, aStore, opStore, resA, resL, aIndexAddr, aNum, aBin, aInt, putC, Nat.reduceAdd, Nat.reduceLT, Nat.reduceBEq, Nat.reduceEqDiff, Nat.reduceLeDiff, ↓reduceIte, reduceCtorEq, liveBlk_eq, decide_eq_true_eq, decide_eq_false_iff_not, Nat.zero_add, List.nil_append, Bool.not_false, putD_some, putD_none, and_true, true_and, Int.natCast_nonneg, Int.ofNat_lt, Int.toNat_natCast, aCall, snaps, List.append_nil, Option.map_some, List.elem_cons, List.elem_nil, List.length_cons, List.length_nil, List.getElem?_cons_zero, List.getElem?_cons_succ, frz_nil, seqN, bindN, regN, snap_int, snap_imm, back1_r, Nat.zero_mul, List.not_mem_nil, beq_self_eq_true, bne_self_eq_false, Bool.false_eq_true, T_3, T_22, T_45, x18_1, r18_0_l, s18_0_0, s18_0_1, x18_3, r18_1_l, s18_1_0, s18_1_1, s18_1_2, s18_1_3, x18_7, r18_2_l, s18_2_0, s18_2_1, s18_2_2, x18_10, r18_3_l, s18_3_0, s18_3_1, s18_3_2, x18_11, x18_9, x18_13, r18_4_l, s18_4_0, s18_4_1, s18_4_2, s18_4_3, x18_16, r18_5_l, s18_5_0, s18_5_1, x18_17, x18_15, x18_19, r18_6_l, s18_6_0, s18_6_1, s18_6_2, s18_6_3, s18_6_4, s18_6_5, s18_6_6, s18_6_7, s18_6_8, s18_6_9, s18_6_10, s18_6_11, s18_6_12, s18_6_13, s18_6_14, s18_6_15, s18_6_16, x18_22, r18_7_l, s18_7_0, s18_7_1, x18_23, x18_21, x18_24, x18_20, x18_18, x18_14, x18_12, x18_8, x18_6, x18_5, x18_26, r18_8_l, s18_8_0, s18_8_1, s18_8_2, x18_28, r18_9_l, s18_9_0, s18_9_1, s18_9_2, s18_9_3, s18_9_4, s18_9_5, s18_9_6, s18_9_7, s18_9_8, s18_9_9, s18_9_10, s18_9_11, x18_30, r18_10_l, s18_10_0, s18_10_1, s18_10_2, x18_31, x18_29, x18_27, x18_25, x18_4, x18_2, x18_0, b_18, beq_self_eq_true, cf, h0, hcl, f2, f3, hp, hss, pcells_length, if_pos, if_neg, gt_iff_lt, Nat.zero_add]
theorem know_bad {d : Nat} {l : List Stone} {ex : Bool} {k : Nat} {a b : Int} (ok : OkP l) (hk : k < l.length) (h : a > b ∨ a < (l.getD k default).least ∨ b > (l.getD k default).most) :
    rsOf (callA E fg 1000 (d + 4) 18 [.imm (pcells l) l.length ex, .int .i64 k, .int .i64 a, .int .i64 b] [] 0) = some (.tup [.nilsl, .int .i64 (if a > b then 7 else 1)]) := by
  change rsOf (bodyA E (callA E fg 1000 (d + 3)) fg 1000 18 _ _ _) = _
  have h0 : foundE l k = 0 := found_zero.2 ⟨ok, by omega, by omega⟩
  have cf := fun (site : Nat → Nat) seen => found_call (d := d) (site := site) (seen := seen) (a := .imm (pcells l) l.length ex) (.inr ⟨ex, rfl⟩) k
  obtain ⟨s, hs⟩ := at_ex hk
  have hg : l.getD k default = s := by simp [hs]
  rw [hg] at h
  have f2 : (pcells l)[k * 4 + 2]? = some (.int .i64 s.least) := pcells_field l k s 2 hs (by omega)
  have f3 : (pcells l)[k * 4 + 3]? = some (.int .i64 s.most) := pcells_field l k s 3 hs (by omega)
  by_cases g1 : a > b
  · simp (disch := omega) only [seqX_ret, condX_bool, blockX_ret, bodyX_ret, run_nil, run_cons, fget_cons', fput_cons', forget_nil, forget_cons', frame0, gcM_c, stp, just, Rd.bind, Rd.run, Rd.opt, upds, tsz, resA, resL, aIndexAddr, aNum, aBin, aInt, Nat.reduceAdd, Nat.reduceLT, Nat.reduceBEq, Nat.reduceEqDiff, Nat.reduceLeDiff, ↓reduceIte, reduceCtorEq, Nat.zero_add, decide_true, putD_some, true_and, Int.natCast_nonneg, Int.ofNat_lt, Int.toNat_natCast, aCall, snaps, List.append_nil, Option.map_some, List.elem_cons, List.elem_nil, seqN, bindN, regN, snap_int, snap_imm, beq_self_eq_true, bne_self_eq_false, Bool.false_eq_true, T_22, T_45, x18_1, r18_0_l, s18_0_0, s18_0_1, x18_3, r18_1_l, s18_1_0, s18_1_1, s18_1_2, s18_1_3, x18_7, r18_2_l, s18_2_0, s18_2_1, s18_2_2, x18_10, r18_3_l, s18_3_0, s18_3_1, s18_3_2, x18_11, x18_9, x18_13, r18_4_l, s18_4_0, s18_4_1, s18_4_2, s18_4_3, x18_16, r18_5_l, s18_5_0, s18_5_1, x18_17, x18_15, x18_19, r18_6_l, s18_6_0, s18_6_1, s18_6_2, s18_6_3, x18_18, x18_14, x18_12, x18_8, x18_6, x18_5, x18_4, x18_2, x18_0, b_18, cf, h0, g1]
  · by_cases g2 : a < s.least
    · simp (disch := omega) only [seqX_ret, condX_bool, blockX_ret, ↓gd, fset_cons, Bool.not_false, bodyX_ret, run_nil, run_cons, fget_cons', fput_cons', forget_nil, forget_cons', frame0, gcM_c, stp, opPick, just, Rd.bind, Rd.run, Rd.opt, upds, tsz, rdCells, fieldOf, aFieldAddr, aLoad, resA, resL, aIndexAddr, aNum, aBin, aInt, Nat.reduceAdd, Nat.reduceLT, Nat.reduceBEq, Nat.reduceEqDiff, Nat.reduceLeDiff, ↓reduceIte, reduceCtorEq, Nat.zero_add, Bool.not_false, decide_true, decide_false, putD_some, and_true, true_and, Int.natCast_nonneg, Int.ofNat_lt, Int.toNat_natCast, aCall, snaps, List.append_nil, Option.map_some, List.elem_cons, List.elem_nil, List.getElem?_cons_zero, List.getElem?_cons_succ, seqN, bindN, regN, snap_int, snap_imm, beq_self_eq_true, bne_self_eq_false, Bool.false_eq_true, T_3, T_22, T_45, x18_1, r18_0_l, s18_0_0, s18_0_1, x18_3, r18_1_l, s18_1_0, s18_1_1, s18_1_2, s18_1_3, x18_7, r18_2_l, s18_2_0, s18_2_1, s18_2_2, x18_10, r18_3_l, s18_3_0, s18_3_1, s18_3_2, x18_11, x18_9, x18_13, r18_4_l, s18_4_0, s18_4_1, s18_4_2, s18_4_3, x18_16, r18_5_l, s18_5_0, s18_5_1, x18_17, x18_15, x18_19, r18_6_l, s18_6_0, s18_6_1, s18_6_2, s18_6_3, s18_6_4, s18_6_5, s18_6_6, s18_6_7, s18_6_8, s18_6_9, s18_6_10, s18_6_11, s18_6_12, s18_6_13, s18_6_14, s18_6_15, s18_6_16, x18_22, r18_7_l, s18_7_0, s18_7_1, x18_23, x18_21, x18_24, x18_20, x18_18, x18_14, x18_12, x18_8, x18_6, x18_5, x18_4, x18_2, x18_0, b_18, cf, h0, f2, pcells_length, if_pos, g1, g2]
    · have g3 : b > s.most := by omega
      simp (disch := omega) only [seqX_ret, condX_bool, blockX_ret, ↓gd, fset_cons, bodyX_ret, run_nil, run_cons, fget_cons', fput_cons', forget_nil, forget_cons', frame0, gcM_c, stp, opPick, just, Rd.bind, Rd.run, Rd.opt, upds, tsz, rdCells, fieldOf, aFieldAddr, aLoad, resA, resL, aIndexAddr, aNum, aBin, aInt, Nat.reduceAdd, Nat.reduceLT, Nat.reduceBEq, Nat.reduceEqDiff, Nat.reduceLeDiff, ↓reduceIte, reduceCtorEq, Nat.zero_add, decide_true, decide_false, putD_some, and_true, true_and, Int.natCast_nonneg, Int.ofNat_lt, Int.toNat_natCast, aCall, snaps, List.append_nil, Option.map_some, List.elem_cons, List.elem_nil, List.getElem?_cons_zero, List.getElem?_cons_succ, seqN, bindN, regN, snap_int, snap_imm, beq_self_eq_true, bne_self_eq_false, Bool.false_eq_true, T_3, T_22, T_45, x18_1, r18_0_l, s18_0_0, s18_0_1, x18_3, r18_1_l, s18_1_0, s18_1_1, s18_1_2, s18_1_3, x18_7, r18_2_l, s18_2_0, s18_2_1, s18_2_2, x18_10, r18_3_l, s18_3_0, s18_3_1, s18_3_2, x18_11, x18_9, x18_13, r18_4_l, s18_4_0, s18_4_1, s18_4_2, s18_4_3, x18_16, r18_5_l, s18_5_0, s18_5_1, x18_17, x18_15, x18_19, r18_6_l, s18_6_0, s18_6_1, s18_6_2, s18_6_3, s18_6_4, s18_6_5, s18_6_6, s18_6_7, s18_6_8, s18_6_9, s18_6_10, s18_6_11, s18_6_12, s18_6_13, s18_6_14, s18_6_15, s18_6_16, x18_22, r18_7_l, s18_7_0, s18_7_1, x18_23, x18_21, x18_24, x18_20, x18_18, x18_14, x18_12, x18_8, x18_6, x18_5, x18_4, x18_2, x18_0, b_18, cf, h0, f2, f3, pcells_length, if_pos, g1, g2, g3]
theorem know_call {d : Nat} {site : Nat → Nat} {seen : List Nat} {l : List Stone} {ex : Bool} {k : Nat} {a b : Int} (ok : OkP l) (hk : k < l.length) (hab : a ≤ b) (h1 : (l.getD k default).least ≤ a) (h2 : b ≤ (l.getD k default).most) :
    aBack site true seen (thaw (callA E fg 1000 (d + 4)) 18 [.imm (pcells l) l.length ex, .int .i64 k, .int .i64 a, .int .i64 b] [] 0) = back1 (site 0) seen (fun j => .tup [.ref j 0 l.length l.length (l.length * 4) 4 false, .int .i64 0]) ⟨.row, pcells (nrw l k a b)⟩ := by
  have e := know_ok (d := d) (ex := ex) ok hk hab h1 h2
  have hl : (pcells (nrw l k a b)).length = l.length * 4 := by rw [pcells_length, nrw_length]
  have := aBack_refint (site := site) (seen := seen) (n := l.length) (sz := 4) (id := 41) (k := .i64) (z := 0) (cells := pcells (nrw l k a b)) (H' := [(41, ⟨.row, pcells (nrw l k a b)⟩)]) (C := callA E fg 1000 (d + 4)) (f := 18) (args := [.imm (pcells l) l.length ex, .int .i64 k, .int .i64 a, .int .i64 b]) (by rw [hl]; exact e) (by rw [hget_cons']; simp)
  rw [hl] at this
  exact this
theorem know_no {d : Nat} {site : Nat → Nat} {seen : List Nat} {l : List Stone} {ex : Bool} {k : Nat} {a b : Int} (ok : OkP l) (hk : k < l.length) (h : a > b ∨ a < (l.getD k default).least ∨ b > (l.getD k default).most) :
    aBack site true seen (thaw (callA E fg 1000 (d + 4)) 18 [.imm (pcells l) l.length ex, .int .i64 k, .int .i64 a, .int .i64 b] [] 0) = .pure (.tup [.nilsl, .int .i64 (if a > b then 7 else 1)], []) :=
  aBack_nilint (rs_ex (know_bad ok hk h))
end Go.AM.Ytmhbnflnlglljaa
end

section
namespace Go.AM.Ytmhbnflnlglljaa
open Go Go.AM
set_option maxRecDepth 100000
theorem weak_iff {l : List Stone} : ∀ (m k : Nat), weakFrom l k m < 0 ↔ ∀ i, k ≤ i → i < k + m → worstSum l i 1 ≤ 0 ∧ worstSum l i (-1) ≤ 0
  | 0, k => by simp only [weakFrom]; constructor <;> intro h <;> first | (intro i; omega) | omega
  | m + 1, k => by
    have ih := weak_iff (l := l) m (k + 1)
    simp only [weakFrom, mayTip, decide_eq_true_eq]
    split
    · rename_i h
      constructor
      · intro h2; omega
      · intro h2; have := h2 k (Nat.le_refl _) (by omega); omega
    · rename_i h
      rw [ih]
      constructor
      · intro h2 i h3 h4
        by_cases e : i = k
        · subst e; omega
        · exact h2 i (by omega) (by omega)
      · intro h2 i h3 h4; exact h2 i (by omega) (by omega)
theorem weakL_iff {l : List Stone} : weakL l < 0 ↔ ∀ i, i < l.length → worstSum l i 1 ≤ 0 ∧ worstSum l i (-1) ≤ 0 := by
  unfold weakL
  rw [weak_iff]
  constructor
  · intro h i hi; exact h i (by omega) (by omega)
  · intro h i _ hi; exact h i (by omega)
theorem sumF_le {F G : Nat → Int} {k : Nat} : ∀ m, (∀ i, k ≤ i → i < k + m → F i ≤ G i) → sumF F k m ≤ sumF G k m
  | 0, _ => by simp [sumF]
  | m + 1, h => by
    have := sumF_le m (fun i h1 h2 => h i h1 (by omega))
    have := h (k + m) (by omega) (by omega)
    simp only [sumF]; omega
/-- The same stones, of which more is known. -/
structure Nrw (l m : List Stone) : Prop where
  len : m.length = l.length
  eq : ∀ (i : Nat) (s t : Stone), l[i]? = some s → m[i]? = some t → t.half = s.half ∧ t.pos = s.pos ∧ s.least ≤ t.least ∧ t.most ≤ s.most ∧ t.least ≤ t.most
theorem nrw_nrw {l : List Stone} (ok : OkP l) {k : Nat} (hk : k < l.length) {a b : Int} (hab : a ≤ b) (h1 : (l.getD k default).least ≤ a) (h2 : b ≤ (l.getD k default).most) : Nrw l (nrw l k a b) := by
  refine ⟨nrw_length .., fun i s t hs ht => ?_⟩
  rw [nrw, List.getElem?_set] at ht
  by_cases e : k = i
  · subst e
    rw [if_pos rfl] at ht
    have hg : l.getD k default = s := by simp [hs]
    simp only [hk, if_true] at ht
    obtain rfl := Option.some.inj ht
    rw [hg] at h1 h2 ⊢
    exact ⟨rfl, rfl, h1, h2, hab⟩
  · rw [if_neg e, hs] at ht
    obtain rfl := Option.some.inj ht
    have := (ok.fits i s hs).lm
    exact ⟨rfl, rfl, Int.le_refl _, Int.le_refl _, this⟩
theorem Nrw.ok {l m : List Stone} (h : Nrw l m) (ok : OkP l) : OkP m := by
  refine ⟨by rw [h.len]; exact ok.ne, by rw [h.len]; exact ok.le, fun k t ht => ?_⟩
  obtain ⟨s, hs⟩ := at_ex (l := l) (k := k) (by have := at_lt ht; have := h.len; omega)
  obtain ⟨e1, e2, e3, e4, e5⟩ := h.eq k s t hs ht
  obtain ⟨a1, a2, a3, a4, a5, a6, a7⟩ := ok.fits k s hs
  constructor <;> omega
theorem Nrw.getD {l m : List Stone} (h : Nrw l m) {i : Nat} (hi : i < l.length) : (m.getD i default).half = (l.getD i default).half ∧ (m.getD i default).pos = (l.getD i default).pos ∧ (l.getD i default).least ≤ (m.getD i default).least ∧ (m.getD i default).most ≤ (l.getD i default).most := by
  obtain ⟨s, hs⟩ := at_ex hi
  obtain ⟨t, ht⟩ := at_ex (l := m) (k := i) (by rw [h.len]; exact hi)
  obtain ⟨e1, e2, e3, e4, e5⟩ := h.eq i s t hs ht
  simp only [List.getD_eq_getElem?_getD, hs, ht, Option.getD_some]
  exact ⟨e1, e2, e3, e4⟩
theorem Nrw.edges {l m : List Stone} (h : Nrw l m) {k : Nat} (hk : k ≤ l.length) : leftE m k = leftE l k ∧ rightE m k = rightE l k := by
  cases k with
  | zero => exact ⟨rfl, rfl⟩
  | succ k =>
    obtain ⟨e1, e2, _, _⟩ := h.getD (i := k) (by omega)
    simp only [leftE, rightE, e1, e2, and_self]
theorem term_nrw {side r l : Int} {s t : Stone} (e2 : t.pos = s.pos) (e3 : s.least ≤ t.least) (e4 : t.most ≤ s.most) : term side r l t ≤ term side r l s := by
  have hf : far side r l t = far side r l s := by unfold far; rw [e2]
  unfold term wt
  rw [hf]
  split
  · rename_i h; exact Int.mul_le_mul_of_nonneg_right e4 (by omega)
  · rename_i h
    have := Int.mul_le_mul_of_nonneg_right e3 (show 0 ≤ -far side r l s by omega)
    rw [Int.mul_neg, Int.mul_neg] at this
    omega
theorem Nrw.weak {l m : List Stone} (h : Nrw l m) (hw : weakL l < 0) : weakL m < 0 := by
  rw [weakL_iff] at *
  intro i hi
  rw [h.len] at hi
  obtain ⟨e1, e2⟩ := h.edges (k := i) (by omega)
  have key : ∀ side, worstSum m i side ≤ worstSum l i side := by
    intro side
    unfold worstSum
    rw [h.len, e1, e2]
    refine sumF_le _ fun j h1 h2 => ?_
    obtain ⟨_, f2, f3, f4⟩ := h.getD (i := j) (by omega)
    exact term_nrw f2 f3 f4
  have := hw i hi
  have := key 1
  have := key (-1)
  omega
theorem Nrw.stands {l m : List Stone} (h : Nrw l m) (ok : OkP l) (hs : standsB l = true) : standsB m = true := by
  unfold standsB at *
  rw [if_pos (check_zero.2 ok), decide_eq_true_eq] at hs
  rw [if_pos (check_zero.2 (h.ok ok)), decide_eq_true_eq]
  exact h.weak hs
theorem Nrw.drop {l m : List Stone} (h : Nrw l m) (k : Nat) : Nrw (l.drop k) (m.drop k) := by
  refine ⟨by rw [List.length_drop, List.length_drop, h.len], fun i s t hs ht => ?_⟩
  rw [List.getElem?_drop] at hs ht
  exact h.eq _ s t hs ht
theorem Nrw.truth : ∀ {l m : List Stone} {ws : List Int}, Nrw l m → InB m ws → InB l ws ∧ dotS m ws = dotS l ws ∧ totS m ws = totS l ws
  | [], [], [], _, _ => ⟨trivial, rfl, rfl⟩
  | s :: l, t :: m, w :: ws, h, ⟨⟨h1, h2⟩, h3⟩ => by
    obtain ⟨e1, e2, e3, e4, e5⟩ := h.eq 0 s t rfl rfl
    obtain ⟨a, b, c⟩ := Nrw.truth (l := l) (m := m) (ws := ws) (by simpa using h.drop 1) h3
    refine ⟨⟨⟨by omega, by omega⟩, a⟩, ?_, ?_⟩
    · simp only [dotS, b, e2]
    · simp only [totS, c]
  | [], t :: m, _, h, _ => by have := h.len; simp at this
  | s :: l, [], _, h, _ => by have := h.len; simp at this
  | _, [], _ :: _, _, h => h.elim
  | _, _ :: _, [], _, h => h.elim
theorem frac_le {S W S' W' : Int} (hW : 0 < W) (hW' : 0 < W') (h : S' * W ≤ S * W') : (rd S' W').num * (rd S W).den ≤ (rd S W).num * (rd S' W').den := by
  have c1 := rd_cross (num := S) (den := W)
  have c2 := rd_cross (num := S') (den := W')
  obtain ⟨p1, _⟩ := rd_den (num := S) hW
  obtain ⟨p2, _⟩ := rd_den (num := S') hW'
  generalize rd S W = f at *
  generalize rd S' W' = g at *
  refine Int.le_of_mul_le_mul_right (a := W' * W) ?_ (Int.mul_pos hW' hW)
  calc g.num * f.den * (W' * W) = (g.num * W') * (f.den * W) := by ac_rfl
    _ = (S' * W) * (g.den * f.den) := by rw [c2]; ac_rfl
    _ ≤ (S * W') * (g.den * f.den) := Int.mul_le_mul_of_nonneg_right h (Int.mul_nonneg (by omega) (by omega))
    _ = (S * f.den) * (W' * g.den) := by ac_rfl
    _ = (f.num * W) * (W' * g.den) := by rw [c1]
    _ = f.num * g.den * (W' * W) := by ac_rfl
theorem okl_mem {l : List Stone} (h : FitsL l) : (∀ s ∈ l, 1 ≤ s.least) ∧ (∀ s ∈ l, s.least ≤ s.most) := by
  constructor <;> intro s hs <;> obtain ⟨i, hi⟩ := List.mem_iff_getElem?.1 hs <;> obtain ⟨_, _, _, _, a, b, _⟩ := h i s hi <;> assumption
theorem sp_bound {sg : Int} {q : List Stone} (h : FitsL q) (h0 : 0 < q.length ∧ q.length ≤ 5) : 1 ≤ spW sg q ∧ spW sg q ≤ 85 ∧ -(33554432 * spW sg q) ≤ spS sg q ∧ spS sg q ≤ 33554432 * spW sg q := by
  obtain ⟨hp, _⟩ := srt_perm sg (l := q) h0.1
  have hl := srt_length sg q
  have := g_b (sg := sg) (fits_perm hp h) ⟨by omega, by omega⟩ (srt sg q).length (Nat.le_refl _)
  obtain ⟨e1, e2⟩ := sp_eq (sg := sg) (q := q)
  rw [e1, e2] at this
  omega
theorem sp_le {sg : Int} (hsg : sg = 1 ∨ sg = -1) {q q' : List Stone} (hf : FitsL q) (hf' : FitsL q') (h0 : 0 < q.length) (h0' : 0 < q'.length)
    (ht : ∀ ws, InB q' ws → InB q ws ∧ dotS q' ws = dotS q ws ∧ totS q' ws = totS q ws) : sg * (spS sg q' * spW sg q - spS sg q * spW sg q') ≤ 0 := by
  obtain ⟨a1, a2⟩ := okl_mem hf
  obtain ⟨b1, b2⟩ := okl_mem hf'
  obtain ⟨f, _⟩ := sp_fix hsg h0 a1 a2
  obtain ⟨f', _⟩ := sp_fix hsg h0' b1 b2
  obtain ⟨c1, c2, c3⟩ := ht _ (wsF_in (sg := sg) (S := spS sg q') (W := spW sg q') b2)
  obtain ⟨d1, d2⟩ := fix_truth f'
  have := fix_ext f c1 a2
  rw [← c2, ← c3, d1, d2] at this
  exact this
theorem spF_at {sg : Int} {l : List Stone} (ok : OkP l) {i : Nat} (hi : i < l.length) : spF sg l i = rd (spS sg (l.drop i)) (spW sg (l.drop i)) := by
  rw [spF, if_pos (found_zero.2 ⟨ok, by omega, by omega⟩)]; rfl
theorem spF_fair {sg : Int} {l : List Stone} (ok : OkP l) {i : Nat} (hi : i < l.length) : Fair (spF sg l i) := by
  have hq : (l.drop i).length = l.length - i := List.length_drop
  have := ok.le
  obtain ⟨b1, b2, b3, b4⟩ := sp_bound (sg := sg) (fits_drop ok.fits i) ⟨by omega, by omega⟩
  rw [spF_at ok hi]
  obtain ⟨p1, p2⟩ := rd_den (num := spS sg (l.drop i)) (den := spW sg (l.drop i)) (by omega)
  have p3 := rdN_b (num := spS sg (l.drop i)) (den := spW sg (l.drop i)) (by omega)
  have p4 : (rd (spS sg (l.drop i)) (spW sg (l.drop i))).num = rdN (spS sg (l.drop i)) (spW sg (l.drop i)) := rfl
  exact ⟨p1, by omega, by omega, by omega, rd_coprime (by omega)⟩
/-- Spans become no wider. -/
theorem Nrw.span {l m : List Stone} (h : Nrw l m) (ok : OkP l) {i : Nat} (hi : i < l.length) :
    (spF (-1) l i).num * (spF (-1) m i).den ≤ (spF (-1) m i).num * (spF (-1) l i).den ∧ (spF 1 m i).num * (spF 1 l i).den ≤ (spF 1 l i).num * (spF 1 m i).den := by
  have okm := h.ok ok
  have him : i < m.length := by rw [h.len]; exact hi
  have hq : (l.drop i).length = l.length - i := List.length_drop
  have hq' : (m.drop i).length = m.length - i := List.length_drop
  have a5 := ok.le
  have b5 := okm.le
  have f1 := fits_drop ok.fits i
  have f2 := fits_drop okm.fits i
  have ht := fun ws hw => (h.drop i).truth (ws := ws) hw
  have n1 := sp_le (sg := -1) (.inr rfl) f1 f2 (by omega) (by omega) ht
  have n2 := sp_le (sg := 1) (.inl rfl) f1 f2 (by omega) (by omega) ht
  obtain ⟨x1, _⟩ := sp_bound (sg := 1) f1 ⟨by omega, by omega⟩
  obtain ⟨x2, _⟩ := sp_bound (sg := 1) f2 ⟨by omega, by omega⟩
  obtain ⟨x3, _⟩ := sp_bound (sg := -1) f1 ⟨by omega, by omega⟩
  obtain ⟨x4, _⟩ := sp_bound (sg := -1) f2 ⟨by omega, by omega⟩
  rw [spF_at ok hi, spF_at ok hi, spF_at okm him, spF_at okm him]
  exact ⟨frac_le (by omega) (by omega) (by omega), frac_le (by omega) (by omega) (by omega)⟩
end Go.AM.Ytmhbnflnlglljaa
end

section
namespace Go.AM.Ytmhbnflnlglljaa
open Go Go.AM
set_option maxRecDepth 100000
variable {C : Callee} {B N : Nat} {E0 : AHeap} (φ : AFr) (H : AHeap) (s : St)
noncomputable def c6_0 : Code := kBody Proofs.Try.f6
noncomputable def c6_1 : Code := kL c6_0
noncomputable def r6_0 : Array Oper := kO c6_1
noncomputable def o6_0_0 : Oper := opN r6_0 0
noncomputable def o6_0_1 : Oper := opN r6_0 1
theorem x6_1 : execA E C (fg 6) B 188 E0 N c6_1 s = regX (runA E C B 188 r6_0 r6_0.toList s) (fun s => gcM E0 [0, 8] (forget s.1 [0, 8], s.2)) := x_reg (ops := r6_0) (by rfl) (by rfl) s
theorem r6_0_l : r6_0.toList = [o6_0_0, o6_0_1] := nrfl rfl
theorem s6_0_0 : stepA E C B 188 r6_0 o6_0_0 (φ, H) = stp (some 4) φ H (opBox (B + 4) (acells (fget φ 0))) := nrfl rfl
theorem s6_0_1 : stepA E C B 188 r6_0 o6_0_1 (φ, H) = some (fput φ 8 (.bool false), H) := nrfl rfl
noncomputable def c6_2 : Code := kR c6_0
noncomputable def c6_3 : Code := kL c6_2
noncomputable def r6_1 : Array Oper := kO c6_3
noncomputable def o6_1_0 : Oper := opN r6_1 0
noncomputable def o6_1_1 : Oper := opN r6_1 1
noncomputable def o6_1_2 : Oper := opN r6_1 2
theorem x6_3 : execA E C (fg 6) B 188 E0 N c6_3 s = regX (runA E C B 188 r6_1 r6_1.toList s) (fun s => gcM E0 [4, 26, 27] (forget s.1 [4, 26, 27], s.2)) := x_reg (ops := r6_1) (by rfl) (by rfl) s
theorem r6_1_l : r6_1.toList = [o6_1_0, o6_1_1, o6_1_2] := nrfl rfl
theorem s6_1_0 : stepA E C B 188 r6_1 o6_1_0 (φ, H) = stp (some 26) φ H (just (aLoad E.T 70 (fget φ 4))) := nrfl rfl
theorem s6_1_1 : stepA E C B 188 r6_1 o6_1_1 (φ, H) = stp (some 27) φ H (aCall C (fun j => B + j * 188 + 27) true 31 [(fget φ 26), (.int .i64 5)]) := nrfl rfl
theorem s6_1_2 : stepA E C B 188 r6_1 o6_1_2 (φ, H) = some (fput φ 9 (fget φ 27), H) := nrfl rfl
noncomputable def c6_4 : Code := kR c6_2
noncomputable def c6_5 : Code := kL c6_4
noncomputable def r6_2 : Array Oper := kO c6_5
noncomputable def o6_2_0 : Oper := opN r6_2 0
noncomputable def o6_2_1 : Oper := opN r6_2 1
noncomputable def o6_2_2 : Oper := opN r6_2 2
noncomputable def o6_2_3 : Oper := opN r6_2 3
noncomputable def o6_2_4 : Oper := opN r6_2 4
noncomputable def o6_2_5 : Oper := opN r6_2 5
theorem x6_5 : execA E C (fg 6) B 188 E0 N c6_5 s = regX (runA E C B 188 r6_2 r6_2.toList s) (fun s => gcM E0 [1, 28, 29, 30, 31, 32] (forget s.1 [1, 28, 29, 30, 31, 32], s.2)) := x_reg (ops := r6_2) (by rfl) (by rfl) s
theorem r6_2_l : r6_2.toList = [o6_2_0, o6_2_1, o6_2_2, o6_2_3, o6_2_4, o6_2_5] := nrfl rfl
theorem s6_2_0 : stepA E C B 188 r6_2 o6_2_0 (φ, H) = some (fput φ 28 (fget φ 1), H) := nrfl rfl
theorem s6_2_1 : stepA E C B 188 r6_2 o6_2_1 (φ, H) = stp (some 29) φ H (justO (aConv E.T 5 3 (fget φ 28))) := nrfl rfl
theorem s6_2_2 : stepA E C B 188 r6_2 o6_2_2 (φ, H) = some (fput φ 30 (fget φ 9), H) := nrfl rfl
theorem s6_2_3 : stepA E C B 188 r6_2 o6_2_3 (φ, H) = stp (some 31) φ H (aBuiltin E.T (B + 31) .len #[22] [(fget φ 30)]) := nrfl rfl
theorem s6_2_4 : stepA E C B 188 r6_2 o6_2_4 (φ, H) = stp (some 32) φ H (just (aBin E.T .rem 3 (fget φ 29) (fget φ 31))) := nrfl rfl
theorem s6_2_5 : stepA E C B 188 r6_2 o6_2_5 (φ, H) = some (fput φ 10 (fget φ 32), H) := nrfl rfl
noncomputable def c6_6 : Code := kR c6_4
noncomputable def c6_7 : Code := kL c6_6
noncomputable def r6_3 : Array Oper := kO c6_7
noncomputable def o6_3_0 : Oper := opN r6_3 0
noncomputable def o6_3_1 : Oper := opN r6_3 1
noncomputable def o6_3_2 : Oper := opN r6_3 2
noncomputable def o6_3_3 : Oper := opN r6_3 3
noncomputable def o6_3_4 : Oper := opN r6_3 4
noncomputable def o6_3_5 : Oper := opN r6_3 5
noncomputable def o6_3_6 : Oper := opN r6_3 6
noncomputable def o6_3_7 : Oper := opN r6_3 7
theorem x6_7 : execA E C (fg 6) B 188 E0 N c6_7 s = regX (runA E C B 188 r6_3 r6_3.toList s) (fun s => gcM E0 [2, 3, 33, 34, 35, 36, 37, 38] (forget s.1 [2, 3, 33, 34, 35, 36, 37, 38], s.2)) := x_reg (ops := r6_3) (by rfl) (by rfl) s
theorem r6_3_l : r6_3.toList = [o6_3_0, o6_3_1, o6_3_2, o6_3_3, o6_3_4, o6_3_5, o6_3_6, o6_3_7] := nrfl rfl
theorem s6_3_0 : stepA E C B 188 r6_3 o6_3_0 (φ, H) = some (fput φ 33 (fget φ 2), H) := nrfl rfl
theorem s6_3_1 : stepA E C B 188 r6_3 o6_3_1 (φ, H) = stp (some 34) φ H (justO (aConv E.T 5 3 (fget φ 33))) := nrfl rfl
theorem s6_3_2 : stepA E C B 188 r6_3 o6_3_2 (φ, H) = stp (some 35) φ H (just (aBin E.T .rem 3 (fget φ 34) (.int .i64 11))) := nrfl rfl
theorem s6_3_3 : stepA E C B 188 r6_3 o6_3_3 (φ, H) = some (fput φ 36 (fget φ 3), H) := nrfl rfl
theorem s6_3_4 : stepA E C B 188 r6_3 o6_3_4 (φ, H) = stp (some 37) φ H (justO (aConv E.T 5 3 (fget φ 36))) := nrfl rfl
theorem s6_3_5 : stepA E C B 188 r6_3 o6_3_5 (φ, H) = stp (some 38) φ H (just (aBin E.T .rem 3 (fget φ 37) (.int .i64 11))) := nrfl rfl
theorem s6_3_6 : stepA E C B 188 r6_3 o6_3_6 (φ, H) = some (fput φ 11 (fget φ 35), H) := nrfl rfl
theorem s6_3_7 : stepA E C B 188 r6_3 o6_3_7 (φ, H) = some (fput φ 12 (fget φ 38), H) := nrfl rfl
noncomputable def c6_8 : Code := kR c6_6
noncomputable def c6_9 : Code := kL c6_8
noncomputable def r6_4 : Array Oper := kO c6_9
noncomputable def o6_4_0 : Oper := opN r6_4 0
noncomputable def o6_4_1 : Oper := opN r6_4 1
noncomputable def o6_4_2 : Oper := opN r6_4 2
noncomputable def o6_4_3 : Oper := opN r6_4 3
noncomputable def o6_4_4 : Oper := opN r6_4 4
noncomputable def o6_4_5 : Oper := opN r6_4 5
noncomputable def o6_4_6 : Oper := opN r6_4 6
noncomputable def o6_4_7 : Oper := opN r6_4 7
noncomputable def o6_4_8 : Oper := opN r6_4 8
noncomputable def o6_4_9 : Oper := opN r6_4 9
theorem x6_9 : execA E C (fg 6) B 188 E0 N c6_9 s = regX (runA E C B 188 r6_4 r6_4.toList s) (fun s => gcM E0 [39, 40, 41, 42, 43, 44, 45, 46] (forget s.1 [39, 40, 41, 42, 43, 44, 45, 46], s.2)) := x_reg (ops := r6_4) (by rfl) (by rfl) s
theorem r6_4_l : r6_4.toList = [o6_4_0, o6_4_1, o6_4_2, o6_4_3, o6_4_4, o6_4_5, o6_4_6, o6_4_7, o6_4_8, o6_4_9] := nrfl rfl
theorem s6_4_0 : stepA E C B 188 r6_4 o6_4_0 (φ, H) = some (fput φ 40 (fget φ 9), H) := nrfl rfl
theorem s6_4_1 : stepA E C B 188 r6_4 o6_4_1 (φ, H) = some (fput φ 41 (fget φ 10), H) := nrfl rfl
theorem s6_4_2 : stepA E C B 188 r6_4 o6_4_2 (φ, H) = some (fput φ 42 (fget φ 11), H) := nrfl rfl
theorem s6_4_3 : stepA E C B 188 r6_4 o6_4_3 (φ, H) = some (fput φ 43 (fget φ 12), H) := nrfl rfl
theorem s6_4_4 : stepA E C B 188 r6_4 o6_4_4 (φ, H) = stp (some 44) φ H (aCall C (fun j => B + j * 188 + 44) true 18 [(fget φ 40), (fget φ 41), (fget φ 42), (fget φ 43)]) := nrfl rfl
theorem s6_4_5 : stepA E C B 188 r6_4 o6_4_5 (φ, H) = some (fput φ 39 (fget φ 44), H) := nrfl rfl
theorem s6_4_6 : stepA E C B 188 r6_4 o6_4_6 (φ, H) = stp (some 45) φ H (opExtract (fget φ 39) 0) := nrfl rfl
theorem s6_4_7 : stepA E C B 188 r6_4 o6_4_7 (φ, H) = stp (some 46) φ H (opExtract (fget φ 39) 1) := nrfl rfl
theorem s6_4_8 : stepA E C B 188 r6_4 o6_4_8 (φ, H) = some (fput φ 13 (fget φ 45), H) := nrfl rfl
theorem s6_4_9 : stepA E C B 188 r6_4 o6_4_9 (φ, H) = some (fput φ 14 (fget φ 46), H) := nrfl rfl
noncomputable def c6_10 : Code := kR c6_8
noncomputable def c6_11 : Code := kL c6_10
noncomputable def c6_12 : Code := kB c6_11
noncomputable def c6_13 : Code := kL c6_12
noncomputable def r6_5 : Array Oper := kO c6_13
noncomputable def o6_5_0 : Oper := opN r6_5 0
noncomputable def o6_5_1 : Oper := opN r6_5 1
noncomputable def o6_5_2 : Oper := opN r6_5 2
noncomputable def o6_5_3 : Oper := opN r6_5 3
theorem x6_13 : execA E C (fg 6) B 188 E0 N c6_13 s = regX (runA E C B 188 r6_5 r6_5.toList s) (fun s => gcM E0 [48, 49, 50] (forget s.1 [48, 49, 50], s.2)) := x_reg (ops := r6_5) (by rfl) (by rfl) s
theorem r6_5_l : r6_5.toList = [o6_5_0, o6_5_1, o6_5_2, o6_5_3] := nrfl rfl
theorem s6_5_0 : stepA E C B 188 r6_5 o6_5_0 (φ, H) = some (fput φ 48 (fget φ 11), H) := nrfl rfl
theorem s6_5_1 : stepA E C B 188 r6_5 o6_5_1 (φ, H) = some (fput φ 49 (fget φ 12), H) := nrfl rfl
theorem s6_5_2 : stepA E C B 188 r6_5 o6_5_2 (φ, H) = stp (some 50) φ H (just (aBin E.T .gtr 3 (fget φ 48) (fget φ 49))) := nrfl rfl
theorem s6_5_3 : stepA E C B 188 r6_5 o6_5_3 (φ, H) = some (fput φ 47 (fget φ 50), H) := nrfl rfl
noncomputable def c6_14 : Code := kR c6_12
noncomputable def c6_15 : Code := kT c6_14
noncomputable def c6_16 : Code := kL c6_15
noncomputable def r6_6 : Array Oper := kO c6_16
noncomputable def o6_6_0 : Oper := opN r6_6 0
noncomputable def o6_6_1 : Oper := opN r6_6 1
noncomputable def o6_6_2 : Oper := opN r6_6 2
noncomputable def o6_6_3 : Oper := opN r6_6 3
noncomputable def o6_6_4 : Oper := opN r6_6 4
noncomputable def o6_6_5 : Oper := opN r6_6 5
noncomputable def o6_6_6 : Oper := opN r6_6 6
noncomputable def o6_6_7 : Oper := opN r6_6 7
noncomputable def o6_6_8 : Oper := opN r6_6 8
noncomputable def o6_6_9 : Oper := opN r6_6 9
noncomputable def o6_6_10 : Oper := opN r6_6 10
theorem x6_16 : execA E C (fg 6) B 188 E0 N c6_16 s = regX (runA E C B 188 r6_6 r6_6.toList s) (fun s => gcM E0 [9, 10, 11, 12, 13, 14, 47, 51, 52, 53, 54, 55, 56, 57, 58, 59, 60] (forget s.1 [9, 10, 11, 12, 13, 14, 47, 51, 52, 53, 54, 55, 56, 57, 58, 59, 60], s.2)) := x_reg (ops := r6_6) (by rfl) (by rfl) s
theorem r6_6_l : r6_6.toList = [o6_6_0, o6_6_1, o6_6_2, o6_6_3, o6_6_4, o6_6_5, o6_6_6, o6_6_7, o6_6_8, o6_6_9, o6_6_10] := nrfl rfl
theorem s6_6_0 : stepA E C B 188 r6_6 o6_6_0 (φ, H) = some (fput φ 51 (fget φ 14), H) := nrfl rfl
theorem s6_6_1 : stepA E C B 188 r6_6 o6_6_1 (φ, H) = stp (some 52) φ H (just (aBin E.T .eql 28 (fget φ 51) (.int .i64 7))) := nrfl rfl
theorem s6_6_2 : stepA E C B 188 r6_6 o6_6_2 (φ, H) = some (fput φ 53 (fget φ 52), H) := nrfl rfl
theorem s6_6_3 : stepA E C B 188 r6_6 o6_6_3 (φ, H) = gd φ 53 true (fun φ => some (fput φ 54 (.tup []), H)) (fun φ => some (fput φ 54 (fget φ 13), H)) := s_gd (j := 2) (oj := o6_6_2) rfl rfl rfl (fun _ => rfl) (fun _ => rfl)
theorem s6_6_4 : stepA E C B 188 r6_6 o6_6_4 (φ, H) = gd φ 53 true (fun φ => some (fput φ 55 (.tup []), H)) (fun φ => stp (some 55) φ H (aBuiltin E.T (B + 55) .len #[22] [(fget φ 54)])) := s_gd (j := 2) (oj := o6_6_2) rfl rfl rfl (fun _ => rfl) (fun _ => rfl)
theorem s6_6_5 : stepA E C B 188 r6_6 o6_6_5 (φ, H) = gd φ 53 true (fun φ => some (fput φ 56 (.tup []), H)) (fun φ => stp (some 56) φ H (just (aBin E.T .eql 3 (fget φ 55) (.int .i64 0)))) := s_gd (j := 2) (oj := o6_6_2) rfl rfl rfl (fun _ => rfl) (fun _ => rfl)
theorem s6_6_6 : stepA E C B 188 r6_6 o6_6_6 (φ, H) = stp (some 57) φ H (opPick (fget φ 53) (fget φ 56) (.bool false)) := nrfl rfl
theorem s6_6_7 : stepA E C B 188 r6_6 o6_6_7 (φ, H) = some (fput φ 58 (fget φ 57), H) := nrfl rfl
theorem s6_6_8 : stepA E C B 188 r6_6 o6_6_8 (φ, H) = gd φ 58 true (fun φ => some (fput φ 59 (.tup []), H)) (fun φ => stp (some 59) φ H (aCall C (fun j => B + j * 188 + 59) true 10 [])) := s_gd (j := 7) (oj := o6_6_7) rfl rfl rfl (fun _ => rfl) (fun _ => rfl)
theorem s6_6_9 : stepA E C B 188 r6_6 o6_6_9 (φ, H) = stp (some 60) φ H (opPick (fget φ 58) (fget φ 59) (.bool false)) := nrfl rfl
theorem s6_6_10 : stepA E C B 188 r6_6 o6_6_10 (φ, H) = some (fput φ 8 (fget φ 60), H) := nrfl rfl
noncomputable def c6_17 : Code := kR c6_15
theorem x6_17 : execA E C (fg 6) B 188 E0 N c6_17 s = some (.ret, s) := x_ret (by rfl) s
theorem x6_15 : execA E C (fg 6) B 188 E0 N c6_15 s = seqX (execA E C (fg 6) B 188 E0 N c6_16 s) (execA E C (fg 6) B 188 E0 N c6_17) := x_seq (by rfl) s
noncomputable def c6_18 : Code := kE c6_14
noncomputable def c6_19 : Code := kL c6_18
noncomputable def r6_7 : Array Oper := kO c6_19
noncomputable def o6_7_0 : Oper := opN r6_7 0
noncomputable def o6_7_1 : Oper := opN r6_7 1
noncomputable def o6_7_2 : Oper := opN r6_7 2
noncomputable def o6_7_3 : Oper := opN r6_7 3
noncomputable def o6_7_4 : Oper := opN r6_7 4
noncomputable def o6_7_5 : Oper := opN r6_7 5
noncomputable def o6_7_6 : Oper := opN r6_7 6
noncomputable def o6_7_7 : Oper := opN r6_7 7
noncomputable def o6_7_8 : Oper := opN r6_7 8
noncomputable def o6_7_9 : Oper := opN r6_7 9
noncomputable def o6_7_10 : Oper := opN r6_7 10
noncomputable def o6_7_11 : Oper := opN r6_7 11
noncomputable def o6_7_12 : Oper := opN r6_7 12
noncomputable def o6_7_13 : Oper := opN r6_7 13
noncomputable def o6_7_14 : Oper := opN r6_7 14
noncomputable def o6_7_15 : Oper := opN r6_7 15
noncomputable def o6_7_16 : Oper := opN r6_7 16
theorem x6_19 : execA E C (fg 6) B 188 E0 N c6_19 s = regX (runA E C B 188 r6_7 r6_7.toList s) (fun s => gcM E0 [47, 62, 63, 64, 65, 66, 67, 68, 69, 70, 71, 72, 73, 74, 75, 76, 77] (forget s.1 [47, 62, 63, 64, 65, 66, 67, 68, 69, 70, 71, 72, 73, 74, 75, 76, 77], s.2)) := x_reg (ops := r6_7) (by rfl) (by rfl) s
theorem r6_7_l : r6_7.toList = [o6_7_0, o6_7_1, o6_7_2, o6_7_3, o6_7_4, o6_7_5, o6_7_6, o6_7_7, o6_7_8, o6_7_9, o6_7_10, o6_7_11, o6_7_12, o6_7_13, o6_7_14, o6_7_15, o6_7_16] := nrfl rfl
theorem s6_7_0 : stepA E C B 188 r6_7 o6_7_0 (φ, H) = some (fput φ 62 (fget φ 11), H) := nrfl rfl
theorem s6_7_1 : stepA E C B 188 r6_7 o6_7_1 (φ, H) = some (fput φ 63 (fget φ 9), H) := nrfl rfl
theorem s6_7_2 : stepA E C B 188 r6_7 o6_7_2 (φ, H) = some (fput φ 64 (fget φ 10), H) := nrfl rfl
theorem s6_7_3 : stepA E C B 188 r6_7 o6_7_3 (φ, H) = stp (some 65) φ H (just (aIndexAddr E.T 22 (fget φ 63) (fget φ 64))) := nrfl rfl
theorem s6_7_4 : stepA E C B 188 r6_7 o6_7_4 (φ, H) = stp (some 66) φ H (just (aFieldAddr E.T 45 (fget φ 65) 2)) := nrfl rfl
theorem s6_7_5 : stepA E C B 188 r6_7 o6_7_5 (φ, H) = stp (some 67) φ H (just (aLoad E.T 3 (fget φ 66))) := nrfl rfl
theorem s6_7_6 : stepA E C B 188 r6_7 o6_7_6 (φ, H) = stp (some 68) φ H (just (aBin E.T .lss 3 (fget φ 62) (fget φ 67))) := nrfl rfl
theorem s6_7_7 : stepA E C B 188 r6_7 o6_7_7 (φ, H) = some (fput φ 69 (fget φ 68), H) := nrfl rfl
theorem s6_7_8 : stepA E C B 188 r6_7 o6_7_8 (φ, H) = gd φ 69 false (fun φ => some (fput φ 70 (.tup []), H)) (fun φ => some (fput φ 70 (fget φ 12), H)) := s_gd (j := 7) (oj := o6_7_7) rfl rfl rfl (fun _ => rfl) (fun _ => rfl)
theorem s6_7_9 : stepA E C B 188 r6_7 o6_7_9 (φ, H) = gd φ 69 false (fun φ => some (fput φ 71 (.tup []), H)) (fun φ => some (fput φ 71 (fget φ 9), H)) := s_gd (j := 7) (oj := o6_7_7) rfl rfl rfl (fun _ => rfl) (fun _ => rfl)
theorem s6_7_10 : stepA E C B 188 r6_7 o6_7_10 (φ, H) = gd φ 69 false (fun φ => some (fput φ 72 (.tup []), H)) (fun φ => some (fput φ 72 (fget φ 10), H)) := s_gd (j := 7) (oj := o6_7_7) rfl rfl rfl (fun _ => rfl) (fun _ => rfl)
theorem s6_7_11 : stepA E C B 188 r6_7 o6_7_11 (φ, H) = gd φ 69 false (fun φ => some (fput φ 73 (.tup []), H)) (fun φ => stp (some 73) φ H (just (aIndexAddr E.T 22 (fget φ 71) (fget φ 72)))) := s_gd (j := 7) (oj := o6_7_7) rfl rfl rfl (fun _ => rfl) (fun _ => rfl)
theorem s6_7_12 : stepA E C B 188 r6_7 o6_7_12 (φ, H) = gd φ 69 false (fun φ => some (fput φ 74 (.tup []), H)) (fun φ => stp (some 74) φ H (just (aFieldAddr E.T 45 (fget φ 73) 3))) := s_gd (j := 7) (oj := o6_7_7) rfl rfl rfl (fun _ => rfl) (fun _ => rfl)
theorem s6_7_13 : stepA E C B 188 r6_7 o6_7_13 (φ, H) = gd φ 69 false (fun φ => some (fput φ 75 (.tup []), H)) (fun φ => stp (some 75) φ H (just (aLoad E.T 3 (fget φ 74)))) := s_gd (j := 7) (oj := o6_7_7) rfl rfl rfl (fun _ => rfl) (fun _ => rfl)
theorem s6_7_14 : stepA E C B 188 r6_7 o6_7_14 (φ, H) = gd φ 69 false (fun φ => some (fput φ 76 (.tup []), H)) (fun φ => stp (some 76) φ H (just (aBin E.T .gtr 3 (fget φ 70) (fget φ 75)))) := s_gd (j := 7) (oj := o6_7_7) rfl rfl rfl (fun _ => rfl) (fun _ => rfl)
theorem s6_7_15 : stepA E C B 188 r6_7 o6_7_15 (φ, H) = stp (some 77) φ H (opPick (fget φ 69) (.bool true) (fget φ 76)) := nrfl rfl
theorem s6_7_16 : stepA E C B 188 r6_7 o6_7_16 (φ, H) = some (fput φ 61 (fget φ 77), H) := nrfl rfl
noncomputable def c6_20 : Code := kR c6_18
noncomputable def c6_21 : Code := kT c6_20
noncomputable def c6_22 : Code := kL c6_21
noncomputable def r6_8 : Array Oper := kO c6_22
noncomputable def o6_8_0 : Oper := opN r6_8 0
noncomputable def o6_8_1 : Oper := opN r6_8 1
noncomputable def o6_8_2 : Oper := opN r6_8 2
noncomputable def o6_8_3 : Oper := opN r6_8 3
noncomputable def o6_8_4 : Oper := opN r6_8 4
noncomputable def o6_8_5 : Oper := opN r6_8 5
noncomputable def o6_8_6 : Oper := opN r6_8 6
noncomputable def o6_8_7 : Oper := opN r6_8 7
noncomputable def o6_8_8 : Oper := opN r6_8 8
noncomputable def o6_8_9 : Oper := opN r6_8 9
noncomputable def o6_8_10 : Oper := opN r6_8 10
theorem x6_22 : execA E C (fg 6) B 188 E0 N c6_22 s = regX (runA E C B 188 r6_8 r6_8.toList s) (fun s => gcM E0 [9, 10, 11, 12, 13, 14, 61, 78, 79, 80, 81, 82, 83, 84, 85, 86, 87] (forget s.1 [9, 10, 11, 12, 13, 14, 61, 78, 79, 80, 81, 82, 83, 84, 85, 86, 87], s.2)) := x_reg (ops := r6_8) (by rfl) (by rfl) s
theorem r6_8_l : r6_8.toList = [o6_8_0, o6_8_1, o6_8_2, o6_8_3, o6_8_4, o6_8_5, o6_8_6, o6_8_7, o6_8_8, o6_8_9, o6_8_10] := nrfl rfl
theorem s6_8_0 : stepA E C B 188 r6_8 o6_8_0 (φ, H) = some (fput φ 78 (fget φ 14), H) := nrfl rfl
theorem s6_8_1 : stepA E C B 188 r6_8 o6_8_1 (φ, H) = stp (some 79) φ H (just (aBin E.T .eql 28 (fget φ 78) (.int .i64 1))) := nrfl rfl
theorem s6_8_2 : stepA E C B 188 r6_8 o6_8_2 (φ, H) = some (fput φ 80 (fget φ 79), H) := nrfl rfl
theorem s6_8_3 : stepA E C B 188 r6_8 o6_8_3 (φ, H) = gd φ 80 true (fun φ => some (fput φ 81 (.tup []), H)) (fun φ => some (fput φ 81 (fget φ 13), H)) := s_gd (j := 2) (oj := o6_8_2) rfl rfl rfl (fun _ => rfl) (fun _ => rfl)
theorem s6_8_4 : stepA E C B 188 r6_8 o6_8_4 (φ, H) = gd φ 80 true (fun φ => some (fput φ 82 (.tup []), H)) (fun φ => stp (some 82) φ H (aBuiltin E.T (B + 82) .len #[22] [(fget φ 81)])) := s_gd (j := 2) (oj := o6_8_2) rfl rfl rfl (fun _ => rfl) (fun _ => rfl)
theorem s6_8_5 : stepA E C B 188 r6_8 o6_8_5 (φ, H) = gd φ 80 true (fun φ => some (fput φ 83 (.tup []), H)) (fun φ => stp (some 83) φ H (just (aBin E.T .eql 3 (fget φ 82) (.int .i64 0)))) := s_gd (j := 2) (oj := o6_8_2) rfl rfl rfl (fun _ => rfl) (fun _ => rfl)
theorem s6_8_6 : stepA E C B 188 r6_8 o6_8_6 (φ, H) = stp (some 84) φ H (opPick (fget φ 80) (fget φ 83) (.bool false)) := nrfl rfl
theorem s6_8_7 : stepA E C B 188 r6_8 o6_8_7 (φ, H) = some (fput φ 85 (fget φ 84), H) := nrfl rfl
theorem s6_8_8 : stepA E C B 188 r6_8 o6_8_8 (φ, H) = gd φ 85 true (fun φ => some (fput φ 86 (.tup []), H)) (fun φ => stp (some 86) φ H (aCall C (fun j => B + j * 188 + 86) true 10 [])) := s_gd (j := 7) (oj := o6_8_7) rfl rfl rfl (fun _ => rfl) (fun _ => rfl)
theorem s6_8_9 : stepA E C B 188 r6_8 o6_8_9 (φ, H) = stp (some 87) φ H (opPick (fget φ 85) (fget φ 86) (.bool false)) := nrfl rfl
theorem s6_8_10 : stepA E C B 188 r6_8 o6_8_10 (φ, H) = some (fput φ 8 (fget φ 87), H) := nrfl rfl
noncomputable def c6_23 : Code := kR c6_21
theorem x6_23 : execA E C (fg 6) B 188 E0 N c6_23 s = some (.ret, s) := x_ret (by rfl) s
theorem x6_21 : execA E C (fg 6) B 188 E0 N c6_21 s = seqX (execA E C (fg 6) B 188 E0 N c6_22 s) (execA E C (fg 6) B 188 E0 N c6_23) := x_seq (by rfl) s
noncomputable def c6_24 : Code := kE c6_20
theorem x6_24 : execA E C (fg 6) B 188 E0 N c6_24 s = some (.normal, s) := x_skip (by rfl) s
theorem x6_20 : execA E C (fg 6) B 188 E0 N c6_20 (φ, H) = condX (fget φ 61) (execA E C (fg 6) B 188 E0 N c6_21 (φ, H)) (execA E C (fg 6) B 188 E0 N c6_24 (φ, H)) := x_cond (by rfl) _
theorem x6_18 : execA E C (fg 6) B 188 E0 N c6_18 s = seqX (execA E C (fg 6) B 188 E0 N c6_19 s) (execA E C (fg 6) B 188 E0 N c6_20) := x_seq (by rfl) s
theorem x6_14 : execA E C (fg 6) B 188 E0 N c6_14 (φ, H) = condX (fget φ 47) (execA E C (fg 6) B 188 E0 N c6_15 (φ, H)) (execA E C (fg 6) B 188 E0 N c6_18 (φ, H)) := x_cond (by rfl) _
theorem x6_12 : execA E C (fg 6) B 188 E0 N c6_12 s = seqX (execA E C (fg 6) B 188 E0 N c6_13 s) (execA E C (fg 6) B 188 E0 N c6_14) := x_seq (by rfl) s
theorem x6_11 : execA E C (fg 6) B 188 E0 N c6_11 s = blockX 0 (fun s => (forget s.1 [61], s.2)) (execA E C (fg 6) B 188 E0 N c6_12 s) := x_block (by rfl) (by rfl) s
noncomputable def c6_25 : Code := kR c6_10
noncomputable def c6_26 : Code := kL c6_25
noncomputable def r6_9 : Array Oper := kO c6_26
noncomputable def o6_9_0 : Oper := opN r6_9 0
noncomputable def o6_9_1 : Oper := opN r6_9 1
noncomputable def o6_9_2 : Oper := opN r6_9 2
theorem x6_26 : execA E C (fg 6) B 188 E0 N c6_26 s = regX (runA E C B 188 r6_9 r6_9.toList s) (fun s => gcM E0 [88, 89] (forget s.1 [88, 89], s.2)) := x_reg (ops := r6_9) (by rfl) (by rfl) s
theorem r6_9_l : r6_9.toList = [o6_9_0, o6_9_1, o6_9_2] := nrfl rfl
theorem s6_9_0 : stepA E C B 188 r6_9 o6_9_0 (φ, H) = some (fput φ 88 (fget φ 9), H) := nrfl rfl
theorem s6_9_1 : stepA E C B 188 r6_9 o6_9_1 (φ, H) = stp (some 89) φ H (aCall C (fun j => B + j * 188 + 89) true 41 [(fget φ 88)]) := nrfl rfl
theorem s6_9_2 : stepA E C B 188 r6_9 o6_9_2 (φ, H) = some (fput φ 15 (fget φ 89), H) := nrfl rfl
noncomputable def c6_27 : Code := kR c6_25
noncomputable def c6_28 : Code := kL c6_27
noncomputable def r6_10 : Array Oper := kO c6_28
noncomputable def o6_10_0 : Oper := opN r6_10 0
noncomputable def o6_10_1 : Oper := opN r6_10 1
noncomputable def o6_10_2 : Oper := opN r6_10 2
noncomputable def o6_10_3 : Oper := opN r6_10 3
noncomputable def o6_10_4 : Oper := opN r6_10 4
noncomputable def o6_10_5 : Oper := opN r6_10 5
noncomputable def o6_10_6 : Oper := opN r6_10 6
noncomputable def o6_10_7 : Oper := opN r6_10 7
noncomputable def o6_10_8 : Oper := opN r6_10 8
noncomputable def o6_10_9 : Oper := opN r6_10 9
noncomputable def o6_10_10 : Oper := opN r6_10 10
noncomputable def o6_10_11 : Oper := opN r6_10 11
theorem x6_28 : execA E C (fg 6) B 188 E0 N c6_28 s = regX (runA E C B 188 r6_10 r6_10.toList s) (fun s => gcM E0 [10, 11, 12, 90, 91, 92, 93, 94, 95, 96, 97, 98, 99] (forget s.1 [10, 11, 12, 90, 91, 92, 93, 94, 95, 96, 97, 98, 99], s.2)) := x_reg (ops := r6_10) (by rfl) (by rfl) s
theorem r6_10_l : r6_10.toList = [o6_10_0, o6_10_1, o6_10_2, o6_10_3, o6_10_4, o6_10_5, o6_10_6, o6_10_7, o6_10_8, o6_10_9, o6_10_10, o6_10_11] := nrfl rfl
theorem s6_10_0 : stepA E C B 188 r6_10 o6_10_0 (φ, H) = some (fput φ 90 (fget φ 15), H) := nrfl rfl
theorem s6_10_1 : stepA E C B 188 r6_10 o6_10_1 (φ, H) = some (fput φ 91 (fget φ 10), H) := nrfl rfl
theorem s6_10_2 : stepA E C B 188 r6_10 o6_10_2 (φ, H) = some (fput φ 92 (fget φ 15), H) := nrfl rfl
theorem s6_10_3 : stepA E C B 188 r6_10 o6_10_3 (φ, H) = some (fput φ 93 (fget φ 10), H) := nrfl rfl
theorem s6_10_4 : stepA E C B 188 r6_10 o6_10_4 (φ, H) = some (fput φ 94 (fget φ 11), H) := nrfl rfl
theorem s6_10_5 : stepA E C B 188 r6_10 o6_10_5 (φ, H) = some (fput φ 95 (fget φ 12), H) := nrfl rfl
theorem s6_10_6 : stepA E C B 188 r6_10 o6_10_6 (φ, H) = stp (some 96) φ H (just (aIndexAddr E.T 22 (fget φ 90) (fget φ 91))) := nrfl rfl
theorem s6_10_7 : stepA E C B 188 r6_10 o6_10_7 (φ, H) = stp (some 97) φ H (just (aFieldAddr E.T 45 (fget φ 96) 2)) := nrfl rfl
theorem s6_10_8 : stepA E C B 188 r6_10 o6_10_8 (φ, H) = stp none φ H (opStore E.T 3 (fget φ 97) (fget φ 94)) := nrfl rfl
theorem s6_10_9 : stepA E C B 188 r6_10 o6_10_9 (φ, H) = stp (some 98) φ H (just (aIndexAddr E.T 22 (fget φ 92) (fget φ 93))) := nrfl rfl
theorem s6_10_10 : stepA E C B 188 r6_10 o6_10_10 (φ, H) = stp (some 99) φ H (just (aFieldAddr E.T 45 (fget φ 98) 3)) := nrfl rfl
theorem s6_10_11 : stepA E C B 188 r6_10 o6_10_11 (φ, H) = stp none φ H (opStore E.T 3 (fget φ 99) (fget φ 95)) := nrfl rfl
noncomputable def c6_29 : Code := kR c6_27
noncomputable def c6_30 : Code := kL c6_29
noncomputable def c6_31 : Code := kL c6_30
noncomputable def r6_11 : Array Oper := kO c6_31
noncomputable def o6_11_0 : Oper := opN r6_11 0
noncomputable def o6_11_1 : Oper := opN r6_11 1
noncomputable def o6_11_2 : Oper := opN r6_11 2
noncomputable def o6_11_3 : Oper := opN r6_11 3
noncomputable def o6_11_4 : Oper := opN r6_11 4
noncomputable def o6_11_5 : Oper := opN r6_11 5
noncomputable def o6_11_6 : Oper := opN r6_11 6
noncomputable def o6_11_7 : Oper := opN r6_11 7
theorem x6_31 : execA E C (fg 6) B 188 E0 N c6_31 s = regX (runA E C B 188 r6_11 r6_11.toList s) (fun s => gcM E0 [13, 14, 100, 101, 102, 103, 104, 105, 106] (forget s.1 [13, 14, 100, 101, 102, 103, 104, 105, 106], s.2)) := x_reg (ops := r6_11) (by rfl) (by rfl) s
theorem r6_11_l : r6_11.toList = [o6_11_0, o6_11_1, o6_11_2, o6_11_3, o6_11_4, o6_11_5, o6_11_6, o6_11_7] := nrfl rfl
theorem s6_11_0 : stepA E C B 188 r6_11 o6_11_0 (φ, H) = some (fput φ 100 (fget φ 14), H) := nrfl rfl
theorem s6_11_1 : stepA E C B 188 r6_11 o6_11_1 (φ, H) = stp (some 101) φ H (just (aBin E.T .neq 28 (fget φ 100) (.int .i64 0))) := nrfl rfl
theorem s6_11_2 : stepA E C B 188 r6_11 o6_11_2 (φ, H) = some (fput φ 102 (fget φ 101), H) := nrfl rfl
theorem s6_11_3 : stepA E C B 188 r6_11 o6_11_3 (φ, H) = gd φ 102 false (fun φ => some (fput φ 103 (.tup []), H)) (fun φ => some (fput φ 103 (fget φ 13), H)) := s_gd (j := 2) (oj := o6_11_2) rfl rfl rfl (fun _ => rfl) (fun _ => rfl)
theorem s6_11_4 : stepA E C B 188 r6_11 o6_11_4 (φ, H) = gd φ 102 false (fun φ => some (fput φ 104 (.tup []), H)) (fun φ => some (fput φ 104 (fget φ 15), H)) := s_gd (j := 2) (oj := o6_11_2) rfl rfl rfl (fun _ => rfl) (fun _ => rfl)
theorem s6_11_5 : stepA E C B 188 r6_11 o6_11_5 (φ, H) = gd φ 102 false (fun φ => some (fput φ 105 (.tup []), H)) (fun φ => stp (some 105) φ H (aCall C (fun j => B + j * 188 + 105) true 42 [(fget φ 103), (fget φ 104)])) := s_gd (j := 2) (oj := o6_11_2) rfl rfl rfl (fun _ => rfl) (fun _ => rfl)
theorem s6_11_6 : stepA E C B 188 r6_11 o6_11_6 (φ, H) = gd φ 102 false (fun φ => some (fput φ 106 (.tup []), H)) (fun φ => stp (some 106) φ H (justO (aUn .not (fget φ 105)))) := s_gd (j := 2) (oj := o6_11_2) rfl rfl rfl (fun _ => rfl) (fun _ => rfl)
theorem s6_11_7 : stepA E C B 188 r6_11 o6_11_7 (φ, H) = stp (some 107) φ H (opPick (fget φ 102) (.bool true) (fget φ 106)) := nrfl rfl
noncomputable def c6_32 : Code := kR c6_30
noncomputable def c6_33 : Code := kT c6_32
noncomputable def c6_34 : Code := kL c6_33
noncomputable def r6_12 : Array Oper := kO c6_34
noncomputable def o6_12_0 : Oper := opN r6_12 0
theorem x6_34 : execA E C (fg 6) B 188 E0 N c6_34 s = regX (runA E C B 188 r6_12 r6_12.toList s) (fun s => gcM E0 [9, 15, 107] (forget s.1 [9, 15, 107], s.2)) := x_reg (ops := r6_12) (by rfl) (by rfl) s
theorem r6_12_l : r6_12.toList = [o6_12_0] := nrfl rfl
theorem s6_12_0 : stepA E C B 188 r6_12 o6_12_0 (φ, H) = some (fput φ 8 (.bool false), H) := nrfl rfl
noncomputable def c6_35 : Code := kR c6_33
theorem x6_35 : execA E C (fg 6) B 188 E0 N c6_35 s = some (.ret, s) := x_ret (by rfl) s
theorem x6_33 : execA E C (fg 6) B 188 E0 N c6_33 s = seqX (execA E C (fg 6) B 188 E0 N c6_34 s) (execA E C (fg 6) B 188 E0 N c6_35) := x_seq (by rfl) s
noncomputable def c6_36 : Code := kE c6_32
theorem x6_36 : execA E C (fg 6) B 188 E0 N c6_36 s = some (.normal, s) := x_skip (by rfl) s
theorem x6_32 : execA E C (fg 6) B 188 E0 N c6_32 (φ, H) = condX (fget φ 107) (execA E C (fg 6) B 188 E0 N c6_33 (φ, H)) (execA E C (fg 6) B 188 E0 N c6_36 (φ, H)) := x_cond (by rfl) _
theorem x6_30 : execA E C (fg 6) B 188 E0 N c6_30 s = seqX (execA E C (fg 6) B 188 E0 N c6_31 s) (execA E C (fg 6) B 188 E0 N c6_32) := x_seq (by rfl) s
noncomputable def c6_37 : Code := kR c6_29
noncomputable def c6_38 : Code := kL c6_37
noncomputable def r6_13 : Array Oper := kO c6_38
noncomputable def o6_13_0 : Oper := opN r6_13 0
noncomputable def o6_13_1 : Oper := opN r6_13 1
noncomputable def o6_13_2 : Oper := opN r6_13 2
noncomputable def o6_13_3 : Oper := opN r6_13 3
noncomputable def o6_13_4 : Oper := opN r6_13 4
noncomputable def o6_13_5 : Oper := opN r6_13 5
noncomputable def o6_13_6 : Oper := opN r6_13 6
theorem x6_38 : execA E C (fg 6) B 188 E0 N c6_38 s = regX (runA E C B 188 r6_13 r6_13.toList s) (fun s => gcM E0 [107, 108, 109, 110, 111, 112] (forget s.1 [107, 108, 109, 110, 111, 112], s.2)) := x_reg (ops := r6_13) (by rfl) (by rfl) s
theorem r6_13_l : r6_13.toList = [o6_13_0, o6_13_1, o6_13_2, o6_13_3, o6_13_4, o6_13_5, o6_13_6] := nrfl rfl
theorem s6_13_0 : stepA E C B 188 r6_13 o6_13_0 (φ, H) = some (fput φ 109 (fget φ 9), H) := nrfl rfl
theorem s6_13_1 : stepA E C B 188 r6_13 o6_13_1 (φ, H) = stp (some 110) φ H (aCall C (fun j => B + j * 188 + 110) true 32 [(fget φ 109)]) := nrfl rfl
theorem s6_13_2 : stepA E C B 188 r6_13 o6_13_2 (φ, H) = some (fput φ 108 (fget φ 110), H) := nrfl rfl
theorem s6_13_3 : stepA E C B 188 r6_13 o6_13_3 (φ, H) = stp (some 111) φ H (opExtract (fget φ 108) 0) := nrfl rfl
theorem s6_13_4 : stepA E C B 188 r6_13 o6_13_4 (φ, H) = stp (some 112) φ H (opExtract (fget φ 108) 1) := nrfl rfl
theorem s6_13_5 : stepA E C B 188 r6_13 o6_13_5 (φ, H) = some (fput φ 16 (fget φ 111), H) := nrfl rfl
theorem s6_13_6 : stepA E C B 188 r6_13 o6_13_6 (φ, H) = some (fput φ 14 (fget φ 112), H) := nrfl rfl
noncomputable def c6_39 : Code := kR c6_37
noncomputable def c6_40 : Code := kL c6_39
noncomputable def r6_14 : Array Oper := kO c6_40
noncomputable def o6_14_0 : Oper := opN r6_14 0
noncomputable def o6_14_1 : Oper := opN r6_14 1
noncomputable def o6_14_2 : Oper := opN r6_14 2
noncomputable def o6_14_3 : Oper := opN r6_14 3
noncomputable def o6_14_4 : Oper := opN r6_14 4
noncomputable def o6_14_5 : Oper := opN r6_14 5
noncomputable def o6_14_6 : Oper := opN r6_14 6
theorem x6_40 : execA E C (fg 6) B 188 E0 N c6_40 s = regX (runA E C B 188 r6_14 r6_14.toList s) (fun s => gcM E0 [113, 114, 115, 116, 117] (forget s.1 [113, 114, 115, 116, 117], s.2)) := x_reg (ops := r6_14) (by rfl) (by rfl) s
theorem r6_14_l : r6_14.toList = [o6_14_0, o6_14_1, o6_14_2, o6_14_3, o6_14_4, o6_14_5, o6_14_6] := nrfl rfl
theorem s6_14_0 : stepA E C B 188 r6_14 o6_14_0 (φ, H) = some (fput φ 114 (fget φ 15), H) := nrfl rfl
theorem s6_14_1 : stepA E C B 188 r6_14 o6_14_1 (φ, H) = stp (some 115) φ H (aCall C (fun j => B + j * 188 + 115) true 32 [(fget φ 114)]) := nrfl rfl
theorem s6_14_2 : stepA E C B 188 r6_14 o6_14_2 (φ, H) = some (fput φ 113 (fget φ 115), H) := nrfl rfl
theorem s6_14_3 : stepA E C B 188 r6_14 o6_14_3 (φ, H) = stp (some 116) φ H (opExtract (fget φ 113) 0) := nrfl rfl
theorem s6_14_4 : stepA E C B 188 r6_14 o6_14_4 (φ, H) = stp (some 117) φ H (opExtract (fget φ 113) 1) := nrfl rfl
theorem s6_14_5 : stepA E C B 188 r6_14 o6_14_5 (φ, H) = some (fput φ 17 (fget φ 116), H) := nrfl rfl
theorem s6_14_6 : stepA E C B 188 r6_14 o6_14_6 (φ, H) = some (fput φ 18 (fget φ 117), H) := nrfl rfl
noncomputable def c6_41 : Code := kR c6_39
noncomputable def c6_42 : Code := kL c6_41
noncomputable def c6_43 : Code := kL c6_42
noncomputable def r6_15 : Array Oper := kO c6_43
noncomputable def o6_15_0 : Oper := opN r6_15 0
noncomputable def o6_15_1 : Oper := opN r6_15 1
noncomputable def o6_15_2 : Oper := opN r6_15 2
noncomputable def o6_15_3 : Oper := opN r6_15 3
noncomputable def o6_15_4 : Oper := opN r6_15 4
noncomputable def o6_15_5 : Oper := opN r6_15 5
noncomputable def o6_15_6 : Oper := opN r6_15 6
noncomputable def o6_15_7 : Oper := opN r6_15 7
noncomputable def o6_15_8 : Oper := opN r6_15 8
noncomputable def o6_15_9 : Oper := opN r6_15 9
noncomputable def o6_15_10 : Oper := opN r6_15 10
noncomputable def o6_15_11 : Oper := opN r6_15 11
noncomputable def o6_15_12 : Oper := opN r6_15 12
theorem x6_43 : execA E C (fg 6) B 188 E0 N c6_43 s = regX (runA E C B 188 r6_15 r6_15.toList s) (fun s => gcM E0 [14, 16, 17, 18, 118, 119, 120, 121, 122, 123, 124, 125, 126, 127, 128, 129] (forget s.1 [14, 16, 17, 18, 118, 119, 120, 121, 122, 123, 124, 125, 126, 127, 128, 129], s.2)) := x_reg (ops := r6_15) (by rfl) (by rfl) s
theorem r6_15_l : r6_15.toList = [o6_15_0, o6_15_1, o6_15_2, o6_15_3, o6_15_4, o6_15_5, o6_15_6, o6_15_7, o6_15_8, o6_15_9, o6_15_10, o6_15_11, o6_15_12] := nrfl rfl
theorem s6_15_0 : stepA E C B 188 r6_15 o6_15_0 (φ, H) = some (fput φ 118 (fget φ 14), H) := nrfl rfl
theorem s6_15_1 : stepA E C B 188 r6_15 o6_15_1 (φ, H) = stp (some 119) φ H (just (aBin E.T .neq 28 (fget φ 118) (.int .i64 0))) := nrfl rfl
theorem s6_15_2 : stepA E C B 188 r6_15 o6_15_2 (φ, H) = some (fput φ 120 (fget φ 119), H) := nrfl rfl
theorem s6_15_3 : stepA E C B 188 r6_15 o6_15_3 (φ, H) = gd φ 120 false (fun φ => some (fput φ 121 (.tup []), H)) (fun φ => some (fput φ 121 (fget φ 18), H)) := s_gd (j := 2) (oj := o6_15_2) rfl rfl rfl (fun _ => rfl) (fun _ => rfl)
theorem s6_15_4 : stepA E C B 188 r6_15 o6_15_4 (φ, H) = gd φ 120 false (fun φ => some (fput φ 122 (.tup []), H)) (fun φ => stp (some 122) φ H (just (aBin E.T .neq 28 (fget φ 121) (.int .i64 0)))) := s_gd (j := 2) (oj := o6_15_2) rfl rfl rfl (fun _ => rfl) (fun _ => rfl)
theorem s6_15_5 : stepA E C B 188 r6_15 o6_15_5 (φ, H) = stp (some 123) φ H (opPick (fget φ 120) (.bool true) (fget φ 122)) := nrfl rfl
theorem s6_15_6 : stepA E C B 188 r6_15 o6_15_6 (φ, H) = some (fput φ 124 (fget φ 123), H) := nrfl rfl
theorem s6_15_7 : stepA E C B 188 r6_15 o6_15_7 (φ, H) = gd φ 124 false (fun φ => some (fput φ 125 (.tup []), H)) (fun φ => some (fput φ 125 (fget φ 16), H)) := s_gd (j := 6) (oj := o6_15_6) rfl rfl rfl (fun _ => rfl) (fun _ => rfl)
theorem s6_15_8 : stepA E C B 188 r6_15 o6_15_8 (φ, H) = gd φ 124 false (fun φ => some (fput φ 126 (.tup []), H)) (fun φ => some (fput φ 126 (fget φ 125), H)) := s_gd (j := 6) (oj := o6_15_6) rfl rfl rfl (fun _ => rfl) (fun _ => rfl)
theorem s6_15_9 : stepA E C B 188 r6_15 o6_15_9 (φ, H) = gd φ 126 true (fun φ => some (fput φ 127 (.tup []), H)) (fun φ => some (fput φ 127 (fget φ 17), H)) := s_gd (j := 8) (oj := o6_15_8) rfl rfl rfl (fun _ => rfl) (fun _ => rfl)
theorem s6_15_10 : stepA E C B 188 r6_15 o6_15_10 (φ, H) = gd φ 126 true (fun φ => some (fput φ 128 (.tup []), H)) (fun φ => stp (some 128) φ H (justO (aUn .not (fget φ 127)))) := s_gd (j := 8) (oj := o6_15_8) rfl rfl rfl (fun _ => rfl) (fun _ => rfl)
theorem s6_15_11 : stepA E C B 188 r6_15 o6_15_11 (φ, H) = gd φ 124 false (fun φ => some (fput φ 129 (.tup []), H)) (fun φ => stp (some 129) φ H (opPick (fget φ 126) (fget φ 128) (.bool false))) := s_gd (j := 6) (oj := o6_15_6) rfl rfl rfl (fun _ => rfl) (fun _ => rfl)
theorem s6_15_12 : stepA E C B 188 r6_15 o6_15_12 (φ, H) = stp (some 130) φ H (opPick (fget φ 124) (.bool true) (fget φ 129)) := nrfl rfl
noncomputable def c6_44 : Code := kR c6_42
noncomputable def c6_45 : Code := kT c6_44
noncomputable def c6_46 : Code := kL c6_45
noncomputable def r6_16 : Array Oper := kO c6_46
noncomputable def o6_16_0 : Oper := opN r6_16 0
theorem x6_46 : execA E C (fg 6) B 188 E0 N c6_46 s = regX (runA E C B 188 r6_16 r6_16.toList s) (fun s => gcM E0 [9, 15, 130] (forget s.1 [9, 15, 130], s.2)) := x_reg (ops := r6_16) (by rfl) (by rfl) s
theorem r6_16_l : r6_16.toList = [o6_16_0] := nrfl rfl
theorem s6_16_0 : stepA E C B 188 r6_16 o6_16_0 (φ, H) = some (fput φ 8 (.bool false), H) := nrfl rfl
noncomputable def c6_47 : Code := kR c6_45
theorem x6_47 : execA E C (fg 6) B 188 E0 N c6_47 s = some (.ret, s) := x_ret (by rfl) s
theorem x6_45 : execA E C (fg 6) B 188 E0 N c6_45 s = seqX (execA E C (fg 6) B 188 E0 N c6_46 s) (execA E C (fg 6) B 188 E0 N c6_47) := x_seq (by rfl) s
noncomputable def c6_48 : Code := kE c6_44
theorem x6_48 : execA E C (fg 6) B 188 E0 N c6_48 s = some (.normal, s) := x_skip (by rfl) s
theorem x6_44 : execA E C (fg 6) B 188 E0 N c6_44 (φ, H) = condX (fget φ 130) (execA E C (fg 6) B 188 E0 N c6_45 (φ, H)) (execA E C (fg 6) B 188 E0 N c6_48 (φ, H)) := x_cond (by rfl) _
theorem x6_42 : execA E C (fg 6) B 188 E0 N c6_42 s = seqX (execA E C (fg 6) B 188 E0 N c6_43 s) (execA E C (fg 6) B 188 E0 N c6_44) := x_seq (by rfl) s
noncomputable def c6_49 : Code := kR c6_41
noncomputable def c6_50 : Code := kL c6_49
noncomputable def c6_51 : Code := kL c6_50
noncomputable def r6_17 : Array Oper := kO c6_51
noncomputable def o6_17_0 : Oper := opN r6_17 0
noncomputable def o6_17_1 : Oper := opN r6_17 1
noncomputable def o6_17_2 : Oper := opN r6_17 2
theorem x6_51 : execA E C (fg 6) B 188 E0 N c6_51 s = regX (runA E C B 188 r6_17 r6_17.toList s) (fun s => gcM E0 [130, 131] (forget s.1 [130, 131], s.2)) := x_reg (ops := r6_17) (by rfl) (by rfl) s
theorem r6_17_l : r6_17.toList = [o6_17_0, o6_17_1, o6_17_2] := nrfl rfl
theorem s6_17_0 : stepA E C B 188 r6_17 o6_17_0 (φ, H) = some (fput φ 131 (fget φ 9), H) := nrfl rfl
theorem s6_17_1 : stepA E C B 188 r6_17 o6_17_1 (φ, H) = stp (some 132) φ H (aBuiltin E.T (B + 132) .len #[22] [(fget φ 131)]) := nrfl rfl
theorem s6_17_2 : stepA E C B 188 r6_17 o6_17_2 (φ, H) = some (fput φ 133 (.int .i64 0), H) := nrfl rfl
noncomputable def c6_52 : Code := kR c6_50
noncomputable def c6_53 : Code := kB c6_52
noncomputable def c6_54 : Code := kB c6_53
noncomputable def c6_55 : Code := kL c6_54
noncomputable def r6_18 : Array Oper := kO c6_55
noncomputable def o6_18_0 : Oper := opN r6_18 0
theorem x6_55 : execA E C (fg 6) B 188 E0 N c6_55 s = regX (runA E C B 188 r6_18 r6_18.toList s) (fun s => gcM E0 [] (forget s.1 [], s.2)) := x_reg (ops := r6_18) (by rfl) (by rfl) s
theorem r6_18_l : r6_18.toList = [o6_18_0] := nrfl rfl
theorem s6_18_0 : stepA E C B 188 r6_18 o6_18_0 (φ, H) = stp (some 134) φ H (just (aBin E.T .lss 3 (fget φ 133) (fget φ 132))) := nrfl rfl
noncomputable def c6_56 : Code := kR c6_54
noncomputable def c6_57 : Code := kL c6_56
noncomputable def c6_58 : Code := kT c6_57
theorem x6_58 : execA E C (fg 6) B 188 E0 N c6_58 s = some (.normal, s) := x_skip (by rfl) s
noncomputable def c6_59 : Code := kE c6_57
theorem x6_59 : execA E C (fg 6) B 188 E0 N c6_59 s = some (.exit 1, s) := x_exit (by rfl) s
theorem x6_57 : execA E C (fg 6) B 188 E0 N c6_57 (φ, H) = condX (fget φ 134) (execA E C (fg 6) B 188 E0 N c6_58 (φ, H)) (execA E C (fg 6) B 188 E0 N c6_59 (φ, H)) := x_cond (by rfl) _
noncomputable def c6_60 : Code := kR c6_56
noncomputable def c6_61 : Code := kL c6_60
noncomputable def c6_62 : Code := kB c6_61
noncomputable def c6_63 : Code := kL c6_62
noncomputable def r6_19 : Array Oper := kO c6_63
noncomputable def o6_19_0 : Oper := opN r6_19 0
noncomputable def o6_19_1 : Oper := opN r6_19 1
theorem x6_63 : execA E C (fg 6) B 188 E0 N c6_63 s = regX (runA E C B 188 r6_19 r6_19.toList s) (fun s => gcM E0 [134, 135] (forget s.1 [134, 135], s.2)) := x_reg (ops := r6_19) (by rfl) (by rfl) s
theorem r6_19_l : r6_19.toList = [o6_19_0, o6_19_1] := nrfl rfl
theorem s6_19_0 : stepA E C B 188 r6_19 o6_19_0 (φ, H) = some (fput φ 135 (fget φ 133), H) := nrfl rfl
theorem s6_19_1 : stepA E C B 188 r6_19 o6_19_1 (φ, H) = some (fput φ 19 (fget φ 135), H) := nrfl rfl
noncomputable def c6_64 : Code := kR c6_62
noncomputable def c6_65 : Code := kL c6_64
noncomputable def r6_20 : Array Oper := kO c6_65
noncomputable def o6_20_0 : Oper := opN r6_20 0
noncomputable def o6_20_1 : Oper := opN r6_20 1
noncomputable def o6_20_2 : Oper := opN r6_20 2
noncomputable def o6_20_3 : Oper := opN r6_20 3
noncomputable def o6_20_4 : Oper := opN r6_20 4
noncomputable def o6_20_5 : Oper := opN r6_20 5
noncomputable def o6_20_6 : Oper := opN r6_20 6
noncomputable def o6_20_7 : Oper := opN r6_20 7
noncomputable def o6_20_8 : Oper := opN r6_20 8
noncomputable def o6_20_9 : Oper := opN r6_20 9
noncomputable def o6_20_10 : Oper := opN r6_20 10
noncomputable def o6_20_11 : Oper := opN r6_20 11
theorem x6_65 : execA E C (fg 6) B 188 E0 N c6_65 s = regX (runA E C B 188 r6_20 r6_20.toList s) (fun s => gcM E0 [136, 137, 138, 139, 140, 141, 142] (forget s.1 [136, 137, 138, 139, 140, 141, 142], s.2)) := x_reg (ops := r6_20) (by rfl) (by rfl) s
theorem r6_20_l : r6_20.toList = [o6_20_0, o6_20_1, o6_20_2, o6_20_3, o6_20_4, o6_20_5, o6_20_6, o6_20_7, o6_20_8, o6_20_9, o6_20_10, o6_20_11] := nrfl rfl
theorem s6_20_0 : stepA E C B 188 r6_20 o6_20_0 (φ, H) = some (fput φ 137 (fget φ 9), H) := nrfl rfl
theorem s6_20_1 : stepA E C B 188 r6_20 o6_20_1 (φ, H) = some (fput φ 138 (fget φ 19), H) := nrfl rfl
theorem s6_20_2 : stepA E C B 188 r6_20 o6_20_2 (φ, H) = stp (some 139) φ H (aCall C (fun j => B + j * 188 + 139) true 12 [(fget φ 137), (fget φ 138)]) := nrfl rfl
theorem s6_20_3 : stepA E C B 188 r6_20 o6_20_3 (φ, H) = some (fput φ 136 (fget φ 139), H) := nrfl rfl
theorem s6_20_4 : stepA E C B 188 r6_20 o6_20_4 (φ, H) = stp (some 140) φ H (opExtract (fget φ 136) 0) := nrfl rfl
theorem s6_20_5 : stepA E C B 188 r6_20 o6_20_5 (φ, H) = stp (some 141) φ H (opExtract (fget φ 136) 1) := nrfl rfl
theorem s6_20_6 : stepA E C B 188 r6_20 o6_20_6 (φ, H) = stp (some 142) φ H (opExtract (fget φ 136) 2) := nrfl rfl
theorem s6_20_7 : stepA E C B 188 r6_20 o6_20_7 (φ, H) = stp (some 20) φ H (opBox (B + 20) (zeroCells E.T 27)) := nrfl rfl
theorem s6_20_8 : stepA E C B 188 r6_20 o6_20_8 (φ, H) = stp (some 21) φ H (opBox (B + 21) (zeroCells E.T 27)) := nrfl rfl
theorem s6_20_9 : stepA E C B 188 r6_20 o6_20_9 (φ, H) = stp none φ H (opStore E.T 27 (fget φ 20) (fget φ 140)) := nrfl rfl
theorem s6_20_10 : stepA E C B 188 r6_20 o6_20_10 (φ, H) = stp none φ H (opStore E.T 27 (fget φ 21) (fget φ 141)) := nrfl rfl
theorem s6_20_11 : stepA E C B 188 r6_20 o6_20_11 (φ, H) = some (fput φ 22 (fget φ 142), H) := nrfl rfl
noncomputable def c6_66 : Code := kR c6_64
noncomputable def c6_67 : Code := kL c6_66
noncomputable def r6_21 : Array Oper := kO c6_67
noncomputable def o6_21_0 : Oper := opN r6_21 0
noncomputable def o6_21_1 : Oper := opN r6_21 1
noncomputable def o6_21_2 : Oper := opN r6_21 2
noncomputable def o6_21_3 : Oper := opN r6_21 3
noncomputable def o6_21_4 : Oper := opN r6_21 4
noncomputable def o6_21_5 : Oper := opN r6_21 5
noncomputable def o6_21_6 : Oper := opN r6_21 6
noncomputable def o6_21_7 : Oper := opN r6_21 7
noncomputable def o6_21_8 : Oper := opN r6_21 8
noncomputable def o6_21_9 : Oper := opN r6_21 9
noncomputable def o6_21_10 : Oper := opN r6_21 10
noncomputable def o6_21_11 : Oper := opN r6_21 11
theorem x6_67 : execA E C (fg 6) B 188 E0 N c6_67 s = regX (runA E C B 188 r6_21 r6_21.toList s) (fun s => gcM E0 [19, 143, 144, 145, 146, 147, 148, 149] (forget s.1 [19, 143, 144, 145, 146, 147, 148, 149], s.2)) := x_reg (ops := r6_21) (by rfl) (by rfl) s
theorem r6_21_l : r6_21.toList = [o6_21_0, o6_21_1, o6_21_2, o6_21_3, o6_21_4, o6_21_5, o6_21_6, o6_21_7, o6_21_8, o6_21_9, o6_21_10, o6_21_11] := nrfl rfl
theorem s6_21_0 : stepA E C B 188 r6_21 o6_21_0 (φ, H) = some (fput φ 144 (fget φ 15), H) := nrfl rfl
theorem s6_21_1 : stepA E C B 188 r6_21 o6_21_1 (φ, H) = some (fput φ 145 (fget φ 19), H) := nrfl rfl
theorem s6_21_2 : stepA E C B 188 r6_21 o6_21_2 (φ, H) = stp (some 146) φ H (aCall C (fun j => B + j * 188 + 146) true 12 [(fget φ 144), (fget φ 145)]) := nrfl rfl
theorem s6_21_3 : stepA E C B 188 r6_21 o6_21_3 (φ, H) = some (fput φ 143 (fget φ 146), H) := nrfl rfl
theorem s6_21_4 : stepA E C B 188 r6_21 o6_21_4 (φ, H) = stp (some 147) φ H (opExtract (fget φ 143) 0) := nrfl rfl
theorem s6_21_5 : stepA E C B 188 r6_21 o6_21_5 (φ, H) = stp (some 148) φ H (opExtract (fget φ 143) 1) := nrfl rfl
theorem s6_21_6 : stepA E C B 188 r6_21 o6_21_6 (φ, H) = stp (some 149) φ H (opExtract (fget φ 143) 2) := nrfl rfl
theorem s6_21_7 : stepA E C B 188 r6_21 o6_21_7 (φ, H) = stp (some 23) φ H (opBox (B + 23) (zeroCells E.T 27)) := nrfl rfl
theorem s6_21_8 : stepA E C B 188 r6_21 o6_21_8 (φ, H) = stp (some 24) φ H (opBox (B + 24) (zeroCells E.T 27)) := nrfl rfl
theorem s6_21_9 : stepA E C B 188 r6_21 o6_21_9 (φ, H) = stp none φ H (opStore E.T 27 (fget φ 23) (fget φ 147)) := nrfl rfl
theorem s6_21_10 : stepA E C B 188 r6_21 o6_21_10 (φ, H) = stp none φ H (opStore E.T 27 (fget φ 24) (fget φ 148)) := nrfl rfl
theorem s6_21_11 : stepA E C B 188 r6_21 o6_21_11 (φ, H) = some (fput φ 25 (fget φ 149), H) := nrfl rfl
noncomputable def c6_68 : Code := kR c6_66
noncomputable def c6_69 : Code := kL c6_68
noncomputable def r6_22 : Array Oper := kO c6_69
noncomputable def o6_22_0 : Oper := opN r6_22 0
noncomputable def o6_22_1 : Oper := opN r6_22 1
noncomputable def o6_22_2 : Oper := opN r6_22 2
noncomputable def o6_22_3 : Oper := opN r6_22 3
noncomputable def o6_22_4 : Oper := opN r6_22 4
noncomputable def o6_22_5 : Oper := opN r6_22 5
noncomputable def o6_22_6 : Oper := opN r6_22 6
noncomputable def o6_22_7 : Oper := opN r6_22 7
noncomputable def o6_22_8 : Oper := opN r6_22 8
noncomputable def o6_22_9 : Oper := opN r6_22 9
noncomputable def o6_22_10 : Oper := opN r6_22 10
noncomputable def o6_22_11 : Oper := opN r6_22 11
noncomputable def o6_22_12 : Oper := opN r6_22 12
noncomputable def o6_22_13 : Oper := opN r6_22 13
noncomputable def o6_22_14 : Oper := opN r6_22 14
noncomputable def o6_22_15 : Oper := opN r6_22 15
noncomputable def o6_22_16 : Oper := opN r6_22 16
noncomputable def o6_22_17 : Oper := opN r6_22 17
noncomputable def o6_22_18 : Oper := opN r6_22 18
noncomputable def o6_22_19 : Oper := opN r6_22 19
noncomputable def o6_22_20 : Oper := opN r6_22 20
noncomputable def o6_22_21 : Oper := opN r6_22 21
noncomputable def o6_22_22 : Oper := opN r6_22 22
noncomputable def o6_22_23 : Oper := opN r6_22 23
noncomputable def o6_22_24 : Oper := opN r6_22 24
noncomputable def o6_22_25 : Oper := opN r6_22 25
noncomputable def o6_22_26 : Oper := opN r6_22 26
noncomputable def o6_22_27 : Oper := opN r6_22 27
noncomputable def o6_22_28 : Oper := opN r6_22 28
noncomputable def o6_22_29 : Oper := opN r6_22 29
noncomputable def o6_22_30 : Oper := opN r6_22 30
noncomputable def o6_22_31 : Oper := opN r6_22 31
noncomputable def o6_22_32 : Oper := opN r6_22 32
noncomputable def o6_22_33 : Oper := opN r6_22 33
noncomputable def o6_22_34 : Oper := opN r6_22 34
noncomputable def o6_22_35 : Oper := opN r6_22 35
theorem x6_69 : execA E C (fg 6) B 188 E0 N c6_69 s = regX (runA E C B 188 r6_22 r6_22.toList s) (fun s => gcM E0 [20, 21, 22, 23, 24, 25, 150, 151, 152, 153, 154, 155, 156, 157, 158, 159, 160, 161, 162, 163, 164, 165, 166, 167, 168, 169, 170, 171, 172, 173, 174, 175, 176, 177, 178, 179, 180, 181, 182, 183, 184] (forget s.1 [20, 21, 22, 23, 24, 25, 150, 151, 152, 153, 154, 155, 156, 157, 158, 159, 160, 161, 162, 163, 164, 165, 166, 167, 168, 169, 170, 171, 172, 173, 174, 175, 176, 177, 178, 179, 180, 181, 182, 183, 184], s.2)) := x_reg (ops := r6_22) (by rfl) (by rfl) s
theorem r6_22_l : r6_22.toList = [o6_22_0, o6_22_1, o6_22_2, o6_22_3, o6_22_4, o6_22_5, o6_22_6, o6_22_7, o6_22_8, o6_22_9, o6_22_10, o6_22_11, o6_22_12, o6_22_13, o6_22_14, o6_22_15, o6_22_16, o6_22_17, o6_22_18, o6_22_19, o6_22_20, o6_22_21, o6_22_22, o6_22_23, o6_22_24, o6_22_25, o6_22_26, o6_22_27, o6_22_28, o6_22_29, o6_22_30, o6_22_31, o6_22_32, o6_22_33, o6_22_34, o6_22_35] := nrfl rfl
theorem s6_22_0 : stepA E C B 188 r6_22 o6_22_0 (φ, H) = some (fput φ 150 (fget φ 22), H) := nrfl rfl
theorem s6_22_1 : stepA E C B 188 r6_22 o6_22_1 (φ, H) = stp (some 151) φ H (just (aBin E.T .neq 28 (fget φ 150) (.int .i64 0))) := nrfl rfl
theorem s6_22_2 : stepA E C B 188 r6_22 o6_22_2 (φ, H) = some (fput φ 152 (fget φ 151), H) := nrfl rfl
theorem s6_22_3 : stepA E C B 188 r6_22 o6_22_3 (φ, H) = gd φ 152 false (fun φ => some (fput φ 153 (.tup []), H)) (fun φ => some (fput φ 153 (fget φ 25), H)) := s_gd (j := 2) (oj := o6_22_2) rfl rfl rfl (fun _ => rfl) (fun _ => rfl)
theorem s6_22_4 : stepA E C B 188 r6_22 o6_22_4 (φ, H) = gd φ 152 false (fun φ => some (fput φ 154 (.tup []), H)) (fun φ => stp (some 154) φ H (just (aBin E.T .neq 28 (fget φ 153) (.int .i64 0)))) := s_gd (j := 2) (oj := o6_22_2) rfl rfl rfl (fun _ => rfl) (fun _ => rfl)
theorem s6_22_5 : stepA E C B 188 r6_22 o6_22_5 (φ, H) = stp (some 155) φ H (opPick (fget φ 152) (.bool true) (fget φ 154)) := nrfl rfl
theorem s6_22_6 : stepA E C B 188 r6_22 o6_22_6 (φ, H) = some (fput φ 156 (fget φ 155), H) := nrfl rfl
theorem s6_22_7 : stepA E C B 188 r6_22 o6_22_7 (φ, H) = gd φ 156 false (fun φ => some (fput φ 157 (.tup []), H)) (fun φ => stp (some 157) φ H (just (aLoad E.T 27 (fget φ 20)))) := s_gd (j := 6) (oj := o6_22_6) rfl rfl rfl (fun _ => rfl) (fun _ => rfl)
theorem s6_22_8 : stepA E C B 188 r6_22 o6_22_8 (φ, H) = gd φ 156 false (fun φ => some (fput φ 158 (.tup []), H)) (fun φ => stp (some 158) φ H (aCall C (fun j => B + j * 188 + 158) true 33 [(fget φ 157)])) := s_gd (j := 6) (oj := o6_22_6) rfl rfl rfl (fun _ => rfl) (fun _ => rfl)
theorem s6_22_9 : stepA E C B 188 r6_22 o6_22_9 (φ, H) = gd φ 156 false (fun φ => some (fput φ 159 (.tup []), H)) (fun φ => stp (some 159) φ H (justO (aUn .not (fget φ 158)))) := s_gd (j := 6) (oj := o6_22_6) rfl rfl rfl (fun _ => rfl) (fun _ => rfl)
theorem s6_22_10 : stepA E C B 188 r6_22 o6_22_10 (φ, H) = stp (some 160) φ H (opPick (fget φ 156) (.bool true) (fget φ 159)) := nrfl rfl
theorem s6_22_11 : stepA E C B 188 r6_22 o6_22_11 (φ, H) = some (fput φ 161 (fget φ 160), H) := nrfl rfl
theorem s6_22_12 : stepA E C B 188 r6_22 o6_22_12 (φ, H) = gd φ 161 false (fun φ => some (fput φ 162 (.tup []), H)) (fun φ => stp (some 162) φ H (just (aLoad E.T 27 (fget φ 21)))) := s_gd (j := 11) (oj := o6_22_11) rfl rfl rfl (fun _ => rfl) (fun _ => rfl)
theorem s6_22_13 : stepA E C B 188 r6_22 o6_22_13 (φ, H) = gd φ 161 false (fun φ => some (fput φ 163 (.tup []), H)) (fun φ => stp (some 163) φ H (aCall C (fun j => B + j * 188 + 163) true 33 [(fget φ 162)])) := s_gd (j := 11) (oj := o6_22_11) rfl rfl rfl (fun _ => rfl) (fun _ => rfl)
theorem s6_22_14 : stepA E C B 188 r6_22 o6_22_14 (φ, H) = gd φ 161 false (fun φ => some (fput φ 164 (.tup []), H)) (fun φ => stp (some 164) φ H (justO (aUn .not (fget φ 163)))) := s_gd (j := 11) (oj := o6_22_11) rfl rfl rfl (fun _ => rfl) (fun _ => rfl)
theorem s6_22_15 : stepA E C B 188 r6_22 o6_22_15 (φ, H) = stp (some 165) φ H (opPick (fget φ 161) (.bool true) (fget φ 164)) := nrfl rfl
theorem s6_22_16 : stepA E C B 188 r6_22 o6_22_16 (φ, H) = some (fput φ 166 (fget φ 165), H) := nrfl rfl
theorem s6_22_17 : stepA E C B 188 r6_22 o6_22_17 (φ, H) = gd φ 166 false (fun φ => some (fput φ 167 (.tup []), H)) (fun φ => stp (some 167) φ H (just (aLoad E.T 27 (fget φ 23)))) := s_gd (j := 16) (oj := o6_22_16) rfl rfl rfl (fun _ => rfl) (fun _ => rfl)
theorem s6_22_18 : stepA E C B 188 r6_22 o6_22_18 (φ, H) = gd φ 166 false (fun φ => some (fput φ 168 (.tup []), H)) (fun φ => stp (some 168) φ H (aCall C (fun j => B + j * 188 + 168) true 33 [(fget φ 167)])) := s_gd (j := 16) (oj := o6_22_16) rfl rfl rfl (fun _ => rfl) (fun _ => rfl)
theorem s6_22_19 : stepA E C B 188 r6_22 o6_22_19 (φ, H) = gd φ 166 false (fun φ => some (fput φ 169 (.tup []), H)) (fun φ => stp (some 169) φ H (justO (aUn .not (fget φ 168)))) := s_gd (j := 16) (oj := o6_22_16) rfl rfl rfl (fun _ => rfl) (fun _ => rfl)
theorem s6_22_20 : stepA E C B 188 r6_22 o6_22_20 (φ, H) = stp (some 170) φ H (opPick (fget φ 166) (.bool true) (fget φ 169)) := nrfl rfl
theorem s6_22_21 : stepA E C B 188 r6_22 o6_22_21 (φ, H) = some (fput φ 171 (fget φ 170), H) := nrfl rfl
theorem s6_22_22 : stepA E C B 188 r6_22 o6_22_22 (φ, H) = gd φ 171 false (fun φ => some (fput φ 172 (.tup []), H)) (fun φ => stp (some 172) φ H (just (aLoad E.T 27 (fget φ 24)))) := s_gd (j := 21) (oj := o6_22_21) rfl rfl rfl (fun _ => rfl) (fun _ => rfl)
theorem s6_22_23 : stepA E C B 188 r6_22 o6_22_23 (φ, H) = gd φ 171 false (fun φ => some (fput φ 173 (.tup []), H)) (fun φ => stp (some 173) φ H (aCall C (fun j => B + j * 188 + 173) true 33 [(fget φ 172)])) := s_gd (j := 21) (oj := o6_22_21) rfl rfl rfl (fun _ => rfl) (fun _ => rfl)
theorem s6_22_24 : stepA E C B 188 r6_22 o6_22_24 (φ, H) = gd φ 171 false (fun φ => some (fput φ 174 (.tup []), H)) (fun φ => stp (some 174) φ H (justO (aUn .not (fget φ 173)))) := s_gd (j := 21) (oj := o6_22_21) rfl rfl rfl (fun _ => rfl) (fun _ => rfl)
theorem s6_22_25 : stepA E C B 188 r6_22 o6_22_25 (φ, H) = stp (some 175) φ H (opPick (fget φ 171) (.bool true) (fget φ 174)) := nrfl rfl
theorem s6_22_26 : stepA E C B 188 r6_22 o6_22_26 (φ, H) = some (fput φ 176 (fget φ 175), H) := nrfl rfl
theorem s6_22_27 : stepA E C B 188 r6_22 o6_22_27 (φ, H) = gd φ 176 false (fun φ => some (fput φ 177 (.tup []), H)) (fun φ => stp (some 177) φ H (just (aLoad E.T 27 (fget φ 23)))) := s_gd (j := 26) (oj := o6_22_26) rfl rfl rfl (fun _ => rfl) (fun _ => rfl)
theorem s6_22_28 : stepA E C B 188 r6_22 o6_22_28 (φ, H) = gd φ 176 false (fun φ => some (fput φ 178 (.tup []), H)) (fun φ => stp (some 178) φ H (just (aLoad E.T 27 (fget φ 20)))) := s_gd (j := 26) (oj := o6_22_26) rfl rfl rfl (fun _ => rfl) (fun _ => rfl)
theorem s6_22_29 : stepA E C B 188 r6_22 o6_22_29 (φ, H) = gd φ 176 false (fun φ => some (fput φ 179 (.tup []), H)) (fun φ => stp (some 179) φ H (aCall C (fun j => B + j * 188 + 179) true 39 [(fget φ 177), (fget φ 178)])) := s_gd (j := 26) (oj := o6_22_26) rfl rfl rfl (fun _ => rfl) (fun _ => rfl)
theorem s6_22_30 : stepA E C B 188 r6_22 o6_22_30 (φ, H) = stp (some 180) φ H (opPick (fget φ 176) (.bool true) (fget φ 179)) := nrfl rfl
theorem s6_22_31 : stepA E C B 188 r6_22 o6_22_31 (φ, H) = some (fput φ 181 (fget φ 180), H) := nrfl rfl
theorem s6_22_32 : stepA E C B 188 r6_22 o6_22_32 (φ, H) = gd φ 181 false (fun φ => some (fput φ 182 (.tup []), H)) (fun φ => stp (some 182) φ H (just (aLoad E.T 27 (fget φ 21)))) := s_gd (j := 31) (oj := o6_22_31) rfl rfl rfl (fun _ => rfl) (fun _ => rfl)
theorem s6_22_33 : stepA E C B 188 r6_22 o6_22_33 (φ, H) = gd φ 181 false (fun φ => some (fput φ 183 (.tup []), H)) (fun φ => stp (some 183) φ H (just (aLoad E.T 27 (fget φ 24)))) := s_gd (j := 31) (oj := o6_22_31) rfl rfl rfl (fun _ => rfl) (fun _ => rfl)
theorem s6_22_34 : stepA E C B 188 r6_22 o6_22_34 (φ, H) = gd φ 181 false (fun φ => some (fput φ 184 (.tup []), H)) (fun φ => stp (some 184) φ H (aCall C (fun j => B + j * 188 + 184) true 39 [(fget φ 182), (fget φ 183)])) := s_gd (j := 31) (oj := o6_22_31) rfl rfl rfl (fun _ => rfl) (fun _ => rfl)
theorem s6_22_35 : stepA E C B 188 r6_22 o6_22_35 (φ, H) = stp (some 185) φ H (opPick (fget φ 181) (.bool true) (fget φ 184)) := nrfl rfl
noncomputable def c6_70 : Code := kR c6_68
noncomputable def c6_71 : Code := kT c6_70
noncomputable def c6_72 : Code := kL c6_71
noncomputable def r6_23 : Array Oper := kO c6_72
noncomputable def o6_23_0 : Oper := opN r6_23 0
theorem x6_72 : execA E C (fg 6) B 188 E0 N c6_72 s = regX (runA E C B 188 r6_23 r6_23.toList s) (fun s => gcM E0 [9, 15, 132, 133, 185] (forget s.1 [9, 15, 132, 133, 185], s.2)) := x_reg (ops := r6_23) (by rfl) (by rfl) s
theorem r6_23_l : r6_23.toList = [o6_23_0] := nrfl rfl
theorem s6_23_0 : stepA E C B 188 r6_23 o6_23_0 (φ, H) = some (fput φ 8 (.bool false), H) := nrfl rfl
noncomputable def c6_73 : Code := kR c6_71
theorem x6_73 : execA E C (fg 6) B 188 E0 N c6_73 s = some (.ret, s) := x_ret (by rfl) s
theorem x6_71 : execA E C (fg 6) B 188 E0 N c6_71 s = seqX (execA E C (fg 6) B 188 E0 N c6_72 s) (execA E C (fg 6) B 188 E0 N c6_73) := x_seq (by rfl) s
noncomputable def c6_74 : Code := kE c6_70
theorem x6_74 : execA E C (fg 6) B 188 E0 N c6_74 s = some (.normal, s) := x_skip (by rfl) s
theorem x6_70 : execA E C (fg 6) B 188 E0 N c6_70 (φ, H) = condX (fget φ 185) (execA E C (fg 6) B 188 E0 N c6_71 (φ, H)) (execA E C (fg 6) B 188 E0 N c6_74 (φ, H)) := x_cond (by rfl) _
theorem x6_68 : execA E C (fg 6) B 188 E0 N c6_68 s = seqX (execA E C (fg 6) B 188 E0 N c6_69 s) (execA E C (fg 6) B 188 E0 N c6_70) := x_seq (by rfl) s
theorem x6_66 : execA E C (fg 6) B 188 E0 N c6_66 s = seqX (execA E C (fg 6) B 188 E0 N c6_67 s) (execA E C (fg 6) B 188 E0 N c6_68) := x_seq (by rfl) s
theorem x6_64 : execA E C (fg 6) B 188 E0 N c6_64 s = seqX (execA E C (fg 6) B 188 E0 N c6_65 s) (execA E C (fg 6) B 188 E0 N c6_66) := x_seq (by rfl) s
theorem x6_62 : execA E C (fg 6) B 188 E0 N c6_62 s = seqX (execA E C (fg 6) B 188 E0 N c6_63 s) (execA E C (fg 6) B 188 E0 N c6_64) := x_seq (by rfl) s
theorem x6_61 : execA E C (fg 6) B 188 E0 N c6_61 s = blockX 2 (fun s => (forget s.1 [185], s.2)) (execA E C (fg 6) B 188 E0 N c6_62 s) := x_block (by rfl) (by rfl) s
noncomputable def c6_75 : Code := kR c6_60
noncomputable def r6_24 : Array Oper := kO c6_75
noncomputable def o6_24_0 : Oper := opN r6_24 0
noncomputable def o6_24_1 : Oper := opN r6_24 1
theorem x6_75 : execA E C (fg 6) B 188 E0 N c6_75 s = regX (runA E C B 188 r6_24 r6_24.toList s) (fun s => gcM E0 [186] (forget s.1 [186], s.2)) := x_reg (ops := r6_24) (by rfl) (by rfl) s
theorem r6_24_l : r6_24.toList = [o6_24_0, o6_24_1] := nrfl rfl
theorem s6_24_0 : stepA E C B 188 r6_24 o6_24_0 (φ, H) = stp (some 186) φ H (just (aBin E.T .add 3 (fget φ 133) (.int .i64 1))) := nrfl rfl
theorem s6_24_1 : stepA E C B 188 r6_24 o6_24_1 (φ, H) = some (fput φ 133 (fget φ 186), H) := nrfl rfl
theorem x6_60 : execA E C (fg 6) B 188 E0 N c6_60 s = seqX (execA E C (fg 6) B 188 E0 N c6_61 s) (execA E C (fg 6) B 188 E0 N c6_75) := x_seq (by rfl) s
theorem x6_56 : execA E C (fg 6) B 188 E0 N c6_56 s = seqX (execA E C (fg 6) B 188 E0 N c6_57 s) (execA E C (fg 6) B 188 E0 N c6_60) := x_seq (by rfl) s
theorem x6_54 : execA E C (fg 6) B 188 E0 N c6_54 s = seqX (execA E C (fg 6) B 188 E0 N c6_55 s) (execA E C (fg 6) B 188 E0 N c6_56) := x_seq (by rfl) s
theorem x6_53 : execA E C (fg 6) B 188 E0 N c6_53 s = iterA (execA E C (fg 6) B 188 E0 N c6_54) (headA E0) N s := x_loop (by rfl) s
theorem x6_52 : execA E C (fg 6) B 188 E0 N c6_52 s = blockX 1 (fun s => (forget s.1 [9, 15, 132, 133, 134], s.2)) (execA E C (fg 6) B 188 E0 N c6_53 s) := x_block (by rfl) (by rfl) s
theorem x6_50 : execA E C (fg 6) B 188 E0 N c6_50 s = seqX (execA E C (fg 6) B 188 E0 N c6_51 s) (execA E C (fg 6) B 188 E0 N c6_52) := x_seq (by rfl) s
noncomputable def c6_76 : Code := kR c6_49
noncomputable def c6_77 : Code := kL c6_76
noncomputable def r6_25 : Array Oper := kO c6_77
noncomputable def o6_25_0 : Oper := opN r6_25 0
noncomputable def o6_25_1 : Oper := opN r6_25 1
theorem x6_77 : execA E C (fg 6) B 188 E0 N c6_77 s = regX (runA E C B 188 r6_25 r6_25.toList s) (fun s => gcM E0 [187] (forget s.1 [187], s.2)) := x_reg (ops := r6_25) (by rfl) (by rfl) s
theorem r6_25_l : r6_25.toList = [o6_25_0, o6_25_1] := nrfl rfl
theorem s6_25_0 : stepA E C B 188 r6_25 o6_25_0 (φ, H) = stp (some 187) φ H (aCall C (fun j => B + j * 188 + 187) true 10 []) := nrfl rfl
theorem s6_25_1 : stepA E C B 188 r6_25 o6_25_1 (φ, H) = some (fput φ 8 (fget φ 187), H) := nrfl rfl
noncomputable def c6_78 : Code := kR c6_76
theorem x6_78 : execA E C (fg 6) B 188 E0 N c6_78 s = some (.ret, s) := x_ret (by rfl) s
theorem x6_76 : execA E C (fg 6) B 188 E0 N c6_76 s = seqX (execA E C (fg 6) B 188 E0 N c6_77 s) (execA E C (fg 6) B 188 E0 N c6_78) := x_seq (by rfl) s
theorem x6_49 : execA E C (fg 6) B 188 E0 N c6_49 s = seqX (execA E C (fg 6) B 188 E0 N c6_50 s) (execA E C (fg 6) B 188 E0 N c6_76) := x_seq (by rfl) s
theorem x6_41 : execA E C (fg 6) B 188 E0 N c6_41 s = seqX (execA E C (fg 6) B 188 E0 N c6_42 s) (execA E C (fg 6) B 188 E0 N c6_49) := x_seq (by rfl) s
theorem x6_39 : execA E C (fg 6) B 188 E0 N c6_39 s = seqX (execA E C (fg 6) B 188 E0 N c6_40 s) (execA E C (fg 6) B 188 E0 N c6_41) := x_seq (by rfl) s
theorem x6_37 : execA E C (fg 6) B 188 E0 N c6_37 s = seqX (execA E C (fg 6) B 188 E0 N c6_38 s) (execA E C (fg 6) B 188 E0 N c6_39) := x_seq (by rfl) s
theorem x6_29 : execA E C (fg 6) B 188 E0 N c6_29 s = seqX (execA E C (fg 6) B 188 E0 N c6_30 s) (execA E C (fg 6) B 188 E0 N c6_37) := x_seq (by rfl) s
theorem x6_27 : execA E C (fg 6) B 188 E0 N c6_27 s = seqX (execA E C (fg 6) B 188 E0 N c6_28 s) (execA E C (fg 6) B 188 E0 N c6_29) := x_seq (by rfl) s
theorem x6_25 : execA E C (fg 6) B 188 E0 N c6_25 s = seqX (execA E C (fg 6) B 188 E0 N c6_26 s) (execA E C (fg 6) B 188 E0 N c6_27) := x_seq (by rfl) s
theorem x6_10 : execA E C (fg 6) B 188 E0 N c6_10 s = seqX (execA E C (fg 6) B 188 E0 N c6_11 s) (execA E C (fg 6) B 188 E0 N c6_25) := x_seq (by rfl) s
theorem x6_8 : execA E C (fg 6) B 188 E0 N c6_8 s = seqX (execA E C (fg 6) B 188 E0 N c6_9 s) (execA E C (fg 6) B 188 E0 N c6_10) := x_seq (by rfl) s
theorem x6_6 : execA E C (fg 6) B 188 E0 N c6_6 s = seqX (execA E C (fg 6) B 188 E0 N c6_7 s) (execA E C (fg 6) B 188 E0 N c6_8) := x_seq (by rfl) s
theorem x6_4 : execA E C (fg 6) B 188 E0 N c6_4 s = seqX (execA E C (fg 6) B 188 E0 N c6_5 s) (execA E C (fg 6) B 188 E0 N c6_6) := x_seq (by rfl) s
theorem x6_2 : execA E C (fg 6) B 188 E0 N c6_2 s = seqX (execA E C (fg 6) B 188 E0 N c6_3 s) (execA E C (fg 6) B 188 E0 N c6_4) := x_seq (by rfl) s
theorem x6_0 : execA E C (fg 6) B 188 E0 N c6_0 s = seqX (execA E C (fg 6) B 188 E0 N c6_1 s) (execA E C (fg 6) B 188 E0 N c6_2) := x_seq (by rfl) s
theorem fi_6 : fInfo E 6 = some ⟨188, #[.tmp 8], c6_0⟩ := nrfl rfl
theorem b_6 (args : List AV) : bodyA E C fg N 6 args H B = bodyX E [.tmp 8] (execA E C (fg 6) B 188 H N c6_0 (frame0 args 0 [], H)) := bodyA_eq fi_6 args H
end Go.AM.Ytmhbnflnlglljaa
end

section
namespace Go.AM.Ytmhbnflnlglljaa
open Go Go.AM
set_option maxRecDepth 100000
set_option maxHeartbeats 4000000
theorem qcells_int : ∀ (l : List Q), ∀ a ∈ qcells l, ∃ k z, a = AV.int k z
  | [], a, h => by simp [qcells] at h
  | q :: l, a, h => by
    simp only [qcells, qc, List.cons_append, List.nil_append, List.mem_cons] at h
    rcases h with rfl | rfl | rfl | rfl | h
    · exact ⟨_, _, rfl⟩
    · exact ⟨_, _, rfl⟩
    · exact ⟨_, _, rfl⟩
    · exact ⟨_, _, rfl⟩
    · exact qcells_int l a h
/-- What a small pile is asked for: the first calls of a law over a pile by numbers. -/
structure MadeC (C : Callee) (hc : List AV) (l : List Stone) : Prop where
  h21 : List.take 21 hc = hc
  l21 : hc.length = 21
  sn : snaps 198 hc = .pure (hc, [])
  made : ∀ (site : Nat → Nat) seen, aBack site true seen (thaw C 31 [.agg hc, .int .i64 5] [] 0) = back1 (site 0) seen (fun j => .ref j 0 l.length l.length (l.length * 4) 4 false) ⟨.row, pcells l⟩
theorem nar_bad {C : Callee} {hc : List AV} {l : List Stone} {o a b x y : Int} {k : Nat} (hm : MadeC C hc l) (ok : OkP l) (ho : 0 ≤ o ∧ o ≤ 255) (ha : 0 ≤ a ∧ a ≤ 255) (hb : 0 ≤ b ∧ b ≤ 255)
    (hk : o.tmod l.length = k) (hx : a.tmod 11 = x) (hy : b.tmod 11 = y) (hxb : 0 ≤ x ∧ x ≤ 10) (hyb : 0 ≤ y ∧ y ≤ 10) (hkl : k < l.length) (hbad : x > y)
    (cn : ∀ (site : Nat → Nat) seen ex, aBack site true seen (thaw C 18 [.imm (pcells l) l.length ex, .int .i64 k, .int .i64 x, .int .i64 y] [] 0) = .pure (.tup [.nilsl, .int .i64 7], []))
    (cw : ∀ (site : Nat → Nat) seen, aBack site true seen (thaw C 10 [] [] 0) = .pure (.bool true, [])) :
    rsOf (bodyA E C fg 1000 6 [.agg hc, .int .u8 o, .int .u8 a, .int .u8 b] [] 0) = some (.bool true) := by
  obtain ⟨h21, l21, sn, made⟩ := hm
  have hn : ¬ (l.length : Int) = 0 := by have := ok.ne; omega
  simp (disch := omega) only [seqX_ret, condX_bool, blockX_ret, ↓gd, fset_cons, bodyX_ret, run_nil, run_cons, fget_cons', fput_nil, fput_cons', forget_nil, forget_cons', hget_nil', hget_cons', hset_nil', hset_cons', frame0, gcM_c, stp, opPick, opBox, justO, just, Rd.bind, Rd.run, Rd.opt, upds, acells, tsz, rdCells, fieldOf, aFieldAddr, aLoad, opExtract, resA, resL, fresh, aIndexAddr, aNum, aLen, aBuiltin, aBin, aInt, Nat.reduceAdd, Nat.reduceLT, Nat.reduceBEq, Nat.reduceEqDiff, Nat.reduceLeDiff, ↓reduceIte, reduceCtorEq, liveBlk_eq, Nat.zero_add, List.nil_append, List.getElem?_toArray, Bool.and_true, decide_true, putD_some, and_true, true_and, Int.natCast_nonneg, Int.ofNat_lt, Int.toNat_natCast, aCall, snaps, List.append_nil, Option.map_some, List.elem_cons, List.elem_nil, List.getElem?_cons_zero, List.getElem?_cons_succ, List.drop_zero, frz_nil, seqN, bindN, regN, snap_int, snap_ref, snap_agg, aConv, back1_r, Nat.le_refl, Int.reduceEq, Nat.zero_mul, beq_self_eq_true, Bool.false_eq_true, T_3, T_22, T_45, T_5, T_70, x6_1, r6_0_l, s6_0_0, s6_0_1, x6_3, r6_1_l, s6_1_0, s6_1_1, s6_1_2, x6_5, r6_2_l, s6_2_0, s6_2_1, s6_2_2, s6_2_3, s6_2_4, s6_2_5, x6_7, r6_3_l, s6_3_0, s6_3_1, s6_3_2, s6_3_3, s6_3_4, s6_3_5, s6_3_6, s6_3_7, x6_9, r6_4_l, s6_4_0, s6_4_1, s6_4_2, s6_4_3, s6_4_4, s6_4_5, s6_4_6, s6_4_7, s6_4_8, s6_4_9, x6_13, r6_5_l, s6_5_0, s6_5_1, s6_5_2, s6_5_3, x6_16, r6_6_l, s6_6_0, s6_6_1, s6_6_2, s6_6_3, s6_6_4, s6_6_5, s6_6_6, s6_6_7, s6_6_8, s6_6_9, s6_6_10, x6_17, x6_15, x6_19, r6_7_l, s6_7_0, s6_7_1, s6_7_2, s6_7_3, s6_7_4, s6_7_5, x6_18, x6_14, x6_12, x6_11, x6_10, x6_8, x6_6, x6_4, x6_2, x6_0, b_6, h21, l21, sn, made, take_pcs, pcells_length, hk, hx, hy, hbad, cn, cw, hn, wrp64, if_pos]
theorem nar_out {C : Callee} {hc : List AV} {l : List Stone} {s : Stone} {o a b x y : Int} {k : Nat} (hm : MadeC C hc l) (ok : OkP l) (ho : 0 ≤ o ∧ o ≤ 255) (ha : 0 ≤ a ∧ a ≤ 255) (hb : 0 ≤ b ∧ b ≤ 255)
    (hk : o.tmod l.length = k) (hx : a.tmod 11 = x) (hy : b.tmod 11 = y) (hxb : 0 ≤ x ∧ x ≤ 10) (hyb : 0 ≤ y ∧ y ≤ 10) (hkl : k < l.length) (hs : l[k]? = some s) (hbad : ¬ x > y) (hout : x < s.least ∨ y > s.most)
    (cn : ∀ (site : Nat → Nat) seen ex, aBack site true seen (thaw C 18 [.imm (pcells l) l.length ex, .int .i64 k, .int .i64 x, .int .i64 y] [] 0) = .pure (.tup [.nilsl, .int .i64 1], []))
    (cw : ∀ (site : Nat → Nat) seen, aBack site true seen (thaw C 10 [] [] 0) = .pure (.bool true, [])) :
    rsOf (bodyA E C fg 1000 6 [.agg hc, .int .u8 o, .int .u8 a, .int .u8 b] [] 0) = some (.bool true) := by
  obtain ⟨h21, l21, sn, made⟩ := hm
  have hn : ¬ (l.length : Int) = 0 := by have := ok.ne; omega
  have f2 : (pcells l)[k * 4 + 2]? = some (.int .i64 s.least) := pcells_field l k s 2 hs (by omega)
  have f3 : (pcells l)[k * 4 + 3]? = some (.int .i64 s.most) := pcells_field l k s 3 hs (by omega)
  by_cases g : x < s.least
  · simp (disch := omega) only [seqX_ret, condX_bool, blockX_ret, ↓gd, fset_cons, Bool.not_true, Bool.not_false, bodyX_ret, run_nil, run_cons, fget_cons', fput_nil, fput_cons', forget_nil, forget_cons', hget_nil', hget_cons', hset_nil', hset_cons', frame0, gcM_c, stp, opPick, opBox, justO, just, Rd.bind, Rd.run, Rd.opt, upds, acells, tsz, rdCells, fieldOf, aFieldAddr, aLoad, opExtract, resA, resL, fresh, aIndexAddr, aNum, aLen, aBuiltin, aBin, aInt, Nat.reduceAdd, Nat.reduceLT, Nat.reduceBEq, Nat.reduceEqDiff, Nat.reduceLeDiff, ↓reduceIte, reduceCtorEq, liveBlk_eq, Nat.zero_add, beq_iff_eq, List.nil_append, List.getElem?_toArray, Bool.not_false, Bool.not_true, Bool.and_true, decide_true, decide_false, putD_some, and_true, true_and, Int.natCast_nonneg, Int.ofNat_lt, Int.toNat_natCast, aCall, snaps, List.append_nil, Option.map_some, List.elem_cons, List.elem_nil, List.getElem?_cons_zero, List.getElem?_cons_succ, List.drop_zero, frz_nil, seqN, bindN, regN, snap_int, snap_ref, snap_agg, aConv, back1_r, Nat.le_refl, Int.reduceEq, Nat.zero_mul, beq_self_eq_true, Bool.false_eq_true, T_3, T_22, T_45, T_5, T_70, x6_1, r6_0_l, s6_0_0, s6_0_1, x6_3, r6_1_l, s6_1_0, s6_1_1, s6_1_2, x6_5, r6_2_l, s6_2_0, s6_2_1, s6_2_2, s6_2_3, s6_2_4, s6_2_5, x6_7, r6_3_l, s6_3_0, s6_3_1, s6_3_2, s6_3_3, s6_3_4, s6_3_5, s6_3_6, s6_3_7, x6_9, r6_4_l, s6_4_0, s6_4_1, s6_4_2, s6_4_3, s6_4_4, s6_4_5, s6_4_6, s6_4_7, s6_4_8, s6_4_9, x6_13, r6_5_l, s6_5_0, s6_5_1, s6_5_2, s6_5_3, x6_16, r6_6_l, s6_6_0, s6_6_1, s6_6_2, s6_6_3, s6_6_4, s6_6_5, s6_6_6, s6_6_7, s6_6_8, s6_6_9, s6_6_10, x6_17, x6_15, x6_19, r6_7_l, s6_7_0, s6_7_1, s6_7_2, s6_7_3, s6_7_4, s6_7_5, s6_7_6, s6_7_7, s6_7_8, s6_7_9, s6_7_10, s6_7_11, s6_7_12, s6_7_13, s6_7_14, s6_7_15, s6_7_16, x6_22, r6_8_l, s6_8_0, s6_8_1, s6_8_2, s6_8_3, s6_8_4, s6_8_5, s6_8_6, s6_8_7, s6_8_8, s6_8_9, s6_8_10, x6_23, x6_21, x6_24, x6_20, x6_18, x6_14, x6_12, x6_11, x6_10, x6_8, x6_6, x6_4, x6_2, x6_0, b_6, h21, l21, sn, made, take_pcs, pcells_length, hk, hx, hy, hbad, f2, g, cn, cw, hn, wrp64, if_pos]
  · have g2 : y > s.most := by omega
    simp (disch := omega) only [seqX_ret, condX_bool, blockX_ret, ↓gd, fset_cons, Bool.not_true, bodyX_ret, run_nil, run_cons, fget_cons', fput_nil, fput_cons', forget_nil, forget_cons', hget_nil', hget_cons', hset_nil', hset_cons', frame0, gcM_c, stp, opPick, opBox, justO, just, Rd.bind, Rd.run, Rd.opt, upds, acells, tsz, rdCells, fieldOf, aFieldAddr, aLoad, opExtract, resA, resL, fresh, aIndexAddr, aNum, aLen, aBuiltin, aBin, aInt, Nat.reduceAdd, Nat.reduceLT, Nat.reduceBEq, Nat.reduceEqDiff, Nat.reduceLeDiff, ↓reduceIte, reduceCtorEq, liveBlk_eq, Nat.zero_add, beq_iff_eq, List.nil_append, List.getElem?_toArray, Bool.not_true, Bool.and_true, decide_true, decide_false, putD_some, and_true, true_and, Int.natCast_nonneg, Int.ofNat_lt, Int.toNat_natCast, aCall, snaps, List.append_nil, Option.map_some, List.elem_cons, List.elem_nil, List.getElem?_cons_zero, List.getElem?_cons_succ, List.drop_zero, frz_nil, seqN, bindN, regN, snap_int, snap_ref, snap_agg, aConv, back1_r, Nat.le_refl, Int.reduceEq, Nat.zero_mul, beq_self_eq_true, Bool.false_eq_true, T_3, T_22, T_45, T_5, T_70, x6_1, r6_0_l, s6_0_0, s6_0_1, x6_3, r6_1_l, s6_1_0, s6_1_1, s6_1_2, x6_5, r6_2_l, s6_2_0, s6_2_1, s6_2_2, s6_2_3, s6_2_4, s6_2_5, x6_7, r6_3_l, s6_3_0, s6_3_1, s6_3_2, s6_3_3, s6_3_4, s6_3_5, s6_3_6, s6_3_7, x6_9, r6_4_l, s6_4_0, s6_4_1, s6_4_2, s6_4_3, s6_4_4, s6_4_5, s6_4_6, s6_4_7, s6_4_8, s6_4_9, x6_13, r6_5_l, s6_5_0, s6_5_1, s6_5_2, s6_5_3, x6_16, r6_6_l, s6_6_0, s6_6_1, s6_6_2, s6_6_3, s6_6_4, s6_6_5, s6_6_6, s6_6_7, s6_6_8, s6_6_9, s6_6_10, x6_17, x6_15, x6_19, r6_7_l, s6_7_0, s6_7_1, s6_7_2, s6_7_3, s6_7_4, s6_7_5, s6_7_6, s6_7_7, s6_7_8, s6_7_9, s6_7_10, s6_7_11, s6_7_12, s6_7_13, s6_7_14, s6_7_15, s6_7_16, x6_22, r6_8_l, s6_8_0, s6_8_1, s6_8_2, s6_8_3, s6_8_4, s6_8_5, s6_8_6, s6_8_7, s6_8_8, s6_8_9, s6_8_10, x6_23, x6_21, x6_24, x6_20, x6_18, x6_14, x6_12, x6_11, x6_10, x6_8, x6_6, x6_4, x6_2, x6_0, b_6, h21, l21, sn, made, take_pcs, pcells_length, hk, hx, hy, hbad, f2, f3, g, g2, cn, cw, hn, wrp64, if_pos]
abbrev narS (l m : List Stone) (i : Nat) : St := ([(133, .int .i64 i), (132, .int .i64 l.length), (15, .ref 89 0 l.length l.length (l.length * 4) 4 false), (9, .ref 27 0 l.length l.length (l.length * 4) 4 false)], [(27, ⟨.froz, pcells l⟩), (89, ⟨.row, pcells m⟩)])
theorem nar_round {C : Callee} {l m : List Stone} {i : Nat} (h5 : l.length ≤ 5) (hm : m.length = l.length) (hi : i < l.length) {f1 f2 f3 f4 : Fr}
    (c1 : ∀ (site : Nat → Nat) seen ex, aBack site true seen (thaw C 12 [.imm (pcells l) l.length ex, .int .i64 i] [] 0) = .pure (.tup [.agg (frc f1), .agg (frc f2), .int .i64 0], []))
    (c2 : ∀ (site : Nat → Nat) seen ex, aBack site true seen (thaw C 12 [.imm (pcells m) l.length ex, .int .i64 i] [] 0) = .pure (.tup [.agg (frc f3), .agg (frc f4), .int .i64 0], []))
    (cf : ∀ f ∈ [f1, f2, f3, f4], ∀ (site : Nat → Nat) seen, aBack site true seen (thaw C 33 [.agg (frc f)] [] 0) = .pure (.bool true, []))
    (cb1 : ∀ (site : Nat → Nat) seen, aBack site true seen (thaw C 39 [.agg (frc f3), .agg (frc f1)] [] 0) = .pure (.bool false, []))
    (cb2 : ∀ (site : Nat → Nat) seen, aBack site true seen (thaw C 39 [.agg (frc f2), .agg (frc f4)] [] 0) = .pure (.bool false, [])) :
    ∃ s', execA E C (fg 6) 0 188 [] 1000 c6_54 (narS l m i) = some (.normal, s') ∧ headA [] s' = narS l m (i + 1) := by
  have g1 := cf f1 (by simp)
  have g2 := cf f2 (by simp)
  have g3 := cf f3 (by simp)
  have g4 := cf f4 (by simp)
  have hpm : (pcells m).length = l.length * 4 := by rw [pcells_length, hm]
  have t1 := take_pcs l
  have t2 := take_pcs m
  rw [hm] at t2
  simp only [frc] at c1 c2 g1 g2 g3 g4 cb1 cb2
  simp (disch := omega) only [condX_bool, blockX_normal, ↓gd, fset_cons, Bool.not_true, run_nil, run_cons, fget_cons', fput_nil, fput_cons', forget_nil, forget_cons', hget_nil', hget_cons', hset_cons', gcM_n, gcM_c, stp, opPick, opBox, justO, just, Rd.bind, Rd.run, Rd.opt, upds, acells, zeroCells, tsz, rdCells, aLoad, aStore, opStore, opExtract, fresh, aBin, aInt, putC, Nat.reduceAdd, Nat.reduceBEq, Nat.reduceEqDiff, Nat.reduceLeDiff, ↓reduceIte, liveBlk_eq, Nat.zero_add, List.nil_append, Bool.not_true, Bool.and_true, decide_true, aUn, putD_some, putD_none, and_true, Int.ofNat_lt, aCall, snaps, List.append_nil, List.elem_cons, List.elem_nil, List.length_cons, List.length_nil, List.getElem?_cons_zero, List.getElem?_cons_succ, List.drop_zero, List.take_succ_cons, List.take_nil, List.set_cons_zero, List.set_cons_succ, frz_nil, seqN, bindN, regN, snap_int, snap_ref, snap_agg, Nat.le_refl, List.not_mem_nil, beq_self_eq_true, bne_self_eq_false, Bool.false_eq_true, T_27, x6_55, r6_18_l, s6_18_0, x6_58, x6_59, x6_57, x6_63, r6_19_l, s6_19_0, s6_19_1, x6_65, r6_20_l, s6_20_0, s6_20_1, s6_20_2, s6_20_3, s6_20_4, s6_20_5, s6_20_6, s6_20_7, s6_20_8, s6_20_9, s6_20_10, s6_20_11, x6_67, r6_21_l, s6_21_0, s6_21_1, s6_21_2, s6_21_3, s6_21_4, s6_21_5, s6_21_6, s6_21_7, s6_21_8, s6_21_9, s6_21_10, s6_21_11, x6_69, r6_22_l, s6_22_0, s6_22_1, s6_22_2, s6_22_3, s6_22_4, s6_22_5, s6_22_6, s6_22_7, s6_22_8, s6_22_9, s6_22_10, s6_22_11, s6_22_12, s6_22_13, s6_22_14, s6_22_15, s6_22_16, s6_22_17, s6_22_18, s6_22_19, s6_22_20, s6_22_21, s6_22_22, s6_22_23, s6_22_24, s6_22_25, s6_22_26, s6_22_27, s6_22_28, s6_22_29, s6_22_30, s6_22_31, s6_22_32, s6_22_33, s6_22_34, s6_22_35, x6_72, r6_23_l, s6_23_0, x6_73, x6_71, x6_74, x6_70, x6_68, x6_66, x6_64, x6_62, x6_61, x6_75, r6_24_l, s6_24_0, s6_24_1, x6_60, x6_56, x6_54, narS, hi, c1, c2, g1, g2, g3, g4, cb1, cb2, pcells_length, hpm, t1, t2, wrp_succ (show i < 1000000 by omega)]
  exact ⟨_, rfl, rfl⟩
theorem nar_in {C : Callee} {hc : List AV} {l m : List Stone} {o a b x y : Int} {k : Nat} {b1 b2 : Bool} (hm : MadeC C hc l) (ok : OkP l) (ho : 0 ≤ o ∧ o ≤ 255) (ha : 0 ≤ a ∧ a ≤ 255) (hb : 0 ≤ b ∧ b ≤ 255)
    (hk : o.tmod l.length = k) (hx : a.tmod 11 = x) (hy : b.tmod 11 = y) (hxb : 0 ≤ x ∧ x ≤ 10) (hyb : 0 ≤ y ∧ y ≤ 10) (hkl : k < l.length) {s : Stone} (hs : l[k]? = some s) (hbad : ¬ x > y) (hin : s.least ≤ x ∧ y ≤ s.most) (hmd : m = nrw l k x y)
    (cn : ∀ (site : Nat → Nat) seen ex, aBack site true seen (thaw C 18 [.imm (pcells l) l.length ex, .int .i64 k, .int .i64 x, .int .i64 y] [] 0) = back1 (site 0) seen (fun j => .tup [.ref j 0 l.length l.length (l.length * 4) 4 false, .int .i64 0]) ⟨.row, pcells m⟩)
    (cc : ∀ (site : Nat → Nat) seen ex, aBack site true seen (thaw C 41 [.imm (pcells l) l.length ex] [] 0) = back1 (site 0) seen (fun k => .ref k 0 l.length l.length (l.length * 4) 4 false) ⟨.row, pcells l⟩)
    (cst : ∀ (site : Nat → Nat) seen e1 e2, aBack site true seen (thaw C 42 [.imm (pcells m) l.length e1, .imm (pcells m) l.length e2] [] 0) = .pure (.bool true, []))
    (cs1 : ∀ (site : Nat → Nat) seen ex, aBack site true seen (thaw C 32 [.imm (pcells l) l.length ex] [] 0) = .pure (.tup [.bool b1, .int .i64 0], []))
    (cs2 : ∀ (site : Nat → Nat) seen ex, aBack site true seen (thaw C 32 [.imm (pcells m) l.length ex] [] 0) = .pure (.tup [.bool b2, .int .i64 0], []))
    (hb12 : b1 = true → b2 = true)
    (hround : ∀ i, i < l.length → ∃ s', execA E C (fg 6) 0 188 [] 1000 c6_54 (narS l m i) = some (.normal, s') ∧ headA [] s' = narS l m (i + 1))
    (cw : ∀ (site : Nat → Nat) seen, aBack site true seen (thaw C 10 [] [] 0) = .pure (.bool true, [])) :
    rsOf (bodyA E C fg 1000 6 [.agg hc, .int .u8 o, .int .u8 a, .int .u8 b] [] 0) = some (.bool true) := by
  obtain ⟨h21, l21, sn, made⟩ := hm
  have h5 := ok.le
  have hn : ¬ (l.length : Int) = 0 := by have := ok.ne; omega
  have f2 : (pcells l)[k * 4 + 2]? = some (.int .i64 s.least) := pcells_field l k s 2 hs (by omega)
  have f3 : (pcells l)[k * 4 + 3]? = some (.int .i64 s.most) := pcells_field l k s 3 hs (by omega)
  have hp := pcells_nrw l k x y hkl
  rw [← hmd] at hp
  have hml : m.length = l.length := by rw [hmd, nrw_length]
  have hpm : (pcells m).length = l.length * 4 := by rw [pcells_length, hml]
  have t1 := take_pcs l
  have t2 := take_pcs m
  rw [hml] at t2
  have hss : ((pcells l).set (k * 4 + 2) (.int .i64 x)).length = l.length * 4 := by simp [pcells_length]
  have hloop := iter_all (f := execA E C (fg 6) 0 188 [] 1000 c6_54) (hd := headA []) (narS l m) l.length 1000 0
    ((narS l m 0).1, [(4, ⟨.box, hc⟩), (27, ⟨.froz, pcells l⟩), (44, ⟨.row, pcells m⟩), (89, ⟨.row, pcells m⟩)]) (by rfl) (by omega) (fun i _ hi => hround i (by omega)) (e := .exit 1) (se := ((134, .bool false) :: (narS l m l.length).1, (narS l m l.length).2)) (by
      rw [Nat.zero_add]
      simp only [seqX_normal, seqX_exit, bindR_some, regX_some, condX_bool, run_nil, run_cons, fget_cons', fput_cons', forget_nil, forget_cons', gcM_n, stp, just, Rd.bind, Rd.run, Rd.opt, upds, aBin, aInt, Nat.reduceEqDiff, Nat.reduceLeDiff, ↓reduceIte, decide_false, putD_some, List.elem_nil, x6_55, r6_18_l, s6_18_0, x6_58, x6_59, x6_57, x6_56, x6_54, narS, Int.lt_irrefl, decide_false, Bool.false_eq_true]) (by simp)
  simp only [cl0] at hloop
  have g1 : ¬ x < s.least := by omega
  have g2 : ¬ y > s.most := by omega
  cases b1 <;> cases b2
  case true.false => exact absurd (hb12 rfl) (by simp)
  all_goals simp (disch := omega) only [condX_bool, blockX_exit, blockX_normal, ↓gd, fset_cons, Bool.not_true, bodyX_ret, run_nil, run_cons, fget_cons', fput_nil, fput_cons', forget_nil, forget_cons', hget_nil', hget_cons', hset_nil', hset_cons', frame0, gcM_c, stp, opPick, opBox, justO, just, Rd.bind, Rd.run, Rd.opt, upds, acells, tsz, rdCells, fieldOf, aFieldAddr, aLoad, aStore, opStore, opExtract, resA, resL, fresh, aIndexAddr, aNum, aLen, aBuiltin, aBin, aInt, putC, Nat.reduceAdd, Nat.reduceLT, Nat.reduceBEq, Nat.reduceEqDiff, Nat.reduceLeDiff, ↓reduceIte, reduceCtorEq, liveBlk_eq, Nat.zero_add, beq_iff_eq, List.nil_append, List.getElem?_toArray, Bool.not_true, Bool.and_true, decide_true, decide_false, aUn, putD_some, putD_none, and_true, true_and, Int.natCast_nonneg, Int.ofNat_lt, Int.toNat_natCast, aCall, snaps, List.append_nil, Option.map_some, List.elem_cons, List.elem_nil, List.length_cons, List.length_nil, List.getElem?_cons_zero, List.getElem?_cons_succ, List.drop_zero, frz_nil, frz_eq, frzB_row, frzB_froz, seqN, bindN, regN, snap_int, snap_ref, snap_agg, aConv, back1_r, List.cons_append, Nat.le_refl, Int.reduceEq, Nat.zero_mul, List.not_mem_nil, beq_self_eq_true, bne_self_eq_false, Bool.false_eq_true, T_3, T_22, T_45, T_5, T_70, x6_1, r6_0_l, s6_0_0, s6_0_1, x6_3, r6_1_l, s6_1_0, s6_1_1, s6_1_2, x6_5, r6_2_l, s6_2_0, s6_2_1, s6_2_2, s6_2_3, s6_2_4, s6_2_5, x6_7, r6_3_l, s6_3_0, s6_3_1, s6_3_2, s6_3_3, s6_3_4, s6_3_5, s6_3_6, s6_3_7, x6_9, r6_4_l, s6_4_0, s6_4_1, s6_4_2, s6_4_3, s6_4_4, s6_4_5, s6_4_6, s6_4_7, s6_4_8, s6_4_9, x6_13, r6_5_l, s6_5_0, s6_5_1, s6_5_2, s6_5_3, x6_16, r6_6_l, s6_6_0, s6_6_1, s6_6_2, s6_6_3, s6_6_4, s6_6_5, s6_6_6, s6_6_7, s6_6_8, s6_6_9, s6_6_10, x6_17, x6_15, x6_19, r6_7_l, s6_7_0, s6_7_1, s6_7_2, s6_7_3, s6_7_4, s6_7_5, s6_7_6, s6_7_7, s6_7_8, s6_7_9, s6_7_10, s6_7_11, s6_7_12, s6_7_13, s6_7_14, s6_7_15, s6_7_16, x6_22, r6_8_l, s6_8_0, s6_8_1, s6_8_2, s6_8_3, s6_8_4, s6_8_5, s6_8_6, s6_8_7, s6_8_8, s6_8_9, s6_8_10, x6_23, x6_21, x6_24, x6_20, x6_18, x6_14, x6_12, x6_11, x6_26, r6_9_l, s6_9_0, s6_9_1, s6_9_2, x6_28, r6_10_l, s6_10_0, s6_10_1, s6_10_2, s6_10_3, s6_10_4, s6_10_5, s6_10_6, s6_10_7, s6_10_8, s6_10_9, s6_10_10, s6_10_11, x6_31, r6_11_l, s6_11_0, s6_11_1, s6_11_2, s6_11_3, s6_11_4, s6_11_5, s6_11_6, s6_11_7, x6_34, r6_12_l, s6_12_0, x6_35, x6_33, x6_36, x6_32, x6_30, x6_38, r6_13_l, s6_13_0, s6_13_1, s6_13_2, s6_13_3, s6_13_4, s6_13_5, s6_13_6, x6_40, r6_14_l, s6_14_0, s6_14_1, s6_14_2, s6_14_3, s6_14_4, s6_14_5, s6_14_6, x6_43, r6_15_l, s6_15_0, s6_15_1, s6_15_2, s6_15_3, s6_15_4, s6_15_5, s6_15_6, s6_15_7, s6_15_8, s6_15_9, s6_15_10, s6_15_11, s6_15_12, x6_46, r6_16_l, s6_16_0, x6_47, x6_45, x6_48, x6_44, x6_42, x6_51, r6_17_l, s6_17_0, s6_17_1, s6_17_2, x6_53, x6_52, x6_50, x6_77, r6_25_l, s6_25_0, s6_25_1, x6_78, x6_76, x6_49, x6_41, x6_39, x6_37, x6_29, x6_27, x6_25, x6_10, x6_8, x6_6, x6_4, x6_2, x6_0, b_6, beq_self_eq_true, h21, l21, sn, made, take_pcs, t2, pcells_length, hk, hx, hy, hbad, f2, f3, g1, g2, cn, cc, hp, hss, hpm, cst, cs1, cs2, hloop, cw, hn, wrp64, if_pos, Nat.zero_add]
theorem len_known : LenOk (callA E fg 1000 37) := by
  have h : ([1, 2, 3, 4, 5].all fun n => match callA E fg 1000 37 95 [.int .u64 n] [] 0 with | some (.int .i64 _, _) => true | _ => false) = true := by kernel_rfl
  intro n h1 h2
  have hmem : (n : Int) ∈ [(1 : Int), 2, 3, 4, 5] := by
    have : n = 1 ∨ n = 2 ∨ n = 3 ∨ n = 4 ∨ n = 5 := by omega
    rcases this with rfl | rfl | rfl | rfl | rfl <;> simp
  have := List.all_eq_true.1 h _ hmem
  split at this
  · rename_i m H e; exact ⟨m, fun site seen => aBack_int ⟨H, e⟩⟩
  · exact absurd this (by simp)
theorem made_hyp {m : Int} {qs : List Q} (h : HOk m qs) (d : Nat) : MadeC (callA E fg 1000 (d + 1)) (hcells m qs) (madeL m qs) := by
  have hl : (madeL m qs).length = nOf m := madeI_length _ _
  have h21 : (hcells m qs).length = 21 := hcells_length h.l
  refine ⟨List.take_of_length_le (by omega), h21, snaps_flat _ _ ?_ (by omega), fun site seen => by rw [hl]; exact made_call (d := d) h⟩
  intro a ha
  rcases List.mem_cons.1 ha with rfl | ha
  · exact ⟨_, _, rfl⟩
  · exact qcells_int _ a ha
theorem narrowed_true {m o a b : Int} {qs : List Q} (h : HOk m qs) (ho : 0 ≤ o ∧ o ≤ 255) (ha : 0 ≤ a ∧ a ≤ 255) (hb : 0 ≤ b ∧ b ≤ 255) (hw : ∃ H', callA E fg 1000 40 10 [] [] 0 = some (.bool true, H')) :
    rsOf (bodyA E (callA E fg 1000 40) fg 1000 6 [.agg (hcells m qs), .int .u8 o, .int .u8 a, .int .u8 b] [] 0) = some (.bool true) := by
  have cw := fun (site : Nat → Nat) seen => aBack_bool (site := site) (seen := seen) hw
  have ok := made_okP h
  have hm := made_hyp h 39
  generalize madeL m qs = l at *
  have h0 := ok.ne
  have tk := tmod_b ho.1 (l.length : Int) (by omega)
  have tx := tmod_b ha.1 11 (by omega)
  have ty := tmod_b hb.1 11 (by omega)
  obtain ⟨k, hk⟩ := Int.eq_ofNat_of_zero_le tk.1
  have hkl : k < l.length := by omega
  obtain ⟨s, hs⟩ := at_ex hkl
  have hg : l.getD k default = s := by simp [hs]
  by_cases h1 : a.tmod 11 > b.tmod 11
  · refine nar_bad hm ok ho ha hb hk rfl rfl (by omega) (by omega) hkl h1 (fun site seen ex => ?_) cw
    have := know_no (d := 36) (site := site) (seen := seen) (ex := ex) ok hkl (a := a.tmod 11) (b := b.tmod 11) (.inl h1)
    rwa [if_pos h1] at this
  · by_cases h2 : a.tmod 11 < s.least ∨ b.tmod 11 > s.most
    · refine nar_out hm ok ho ha hb hk rfl rfl (by omega) (by omega) hkl hs h1 h2 (fun site seen ex => ?_) cw
      have := know_no (d := 36) (site := site) (seen := seen) (ex := ex) ok hkl (a := a.tmod 11) (b := b.tmod 11) (by rw [hg]; exact .inr h2)
      rwa [if_neg h1] at this
    · have q1 : (l.getD k default).least ≤ a.tmod 11 := by rw [hg]; omega
      have q2 : b.tmod 11 ≤ (l.getD k default).most := by rw [hg]; omega
      have nw := nrw_nrw ok hkl (a := a.tmod 11) (b := b.tmod 11) (by omega) q1 q2
      have okm := nw.ok ok
      have ml := nw.len
      generalize hmd : nrw l k (a.tmod 11) (b.tmod 11) = mm at *
      have e1 := check_zero.2 ok
      have e2 := check_zero.2 okm
      refine nar_in (m := mm) (b1 := standsB l) (b2 := standsB mm) hm ok ho ha hb hk rfl rfl (by omega) (by omega) hkl hs h1 (by omega) hmd.symm (fun site seen ex => ?_) (fun site seen ex => clone_call (d := 39) ok.ne ok.le) (fun site seen a b => ?_) (fun site seen ex => ?_) (fun site seen ex => ?_) (nw.stands ok) (fun i hi => ?_) cw
      · have := know_call (d := 36) (site := site) (seen := seen) (ex := ex) ok hkl (a := a.tmod 11) (b := b.tmod 11) (by omega) q1 q2
        rwa [hmd] at this
      · rw [← ml]; exact stones_call (d := 39) okm.le
      · have := stands_call (d := 34) (site := site) (seen := seen) (a := .imm (pcells l) l.length ex) (.inr ⟨ex, rfl⟩)
        rwa [e1] at this
      · have := stands_call (d := 34) (site := site) (seen := seen) (a := .imm (pcells mm) mm.length ex) (.inr ⟨ex, rfl⟩)
        rwa [e2, ml] at this
      · obtain ⟨n1, n2⟩ := nw.span ok hi
        have him : i < mm.length := by omega
        have z1 : foundE l i = 0 := found_zero.2 ⟨ok, by omega, by omega⟩
        have z2 : foundE mm i = 0 := found_zero.2 ⟨okm, by omega, by omega⟩
        refine nar_round ok.le ml hi (f1 := spF (-1) l i) (f2 := spF 1 l i) (f3 := spF (-1) mm i) (f4 := spF 1 mm i) (fun site seen ex => ?_) (fun site seen ex => ?_) (fun f hf site seen => ?_) (fun site seen => ?_) (fun site seen => ?_)
        · have := span_call (d := 34) (site := site) (seen := seen) (a := .imm (pcells l) l.length ex) (.inr ⟨ex, rfl⟩) i len_known
          rwa [z1] at this
        · have := span_call (d := 34) (site := site) (seen := seen) (a := .imm (pcells mm) mm.length ex) (.inr ⟨ex, rfl⟩) i len_known
          rwa [z2, ml] at this
        · have hfair : Fair f := by
            simp only [List.mem_cons, List.not_mem_nil, or_false] at hf
            rcases hf with rfl | rfl | rfl | rfl
            · exact spF_fair ok hi
            · exact spF_fair ok hi
            · exact spF_fair okm him
            · exact spF_fair okm him
          exact fair_call (d := 38) hfair
        · have := below_call (d := 39) (site := site) (seen := seen) (spF_fair (sg := -1) okm him) (spF_fair (sg := -1) ok hi)
          rwa [show decide ((spF (-1) mm i).num * (spF (-1) l i).den < (spF (-1) l i).num * (spF (-1) mm i).den) = false by rw [decide_eq_false_iff_not]; omega] at this
        · have := below_call (d := 39) (site := site) (seen := seen) (spF_fair (sg := 1) ok hi) (spF_fair (sg := 1) okm him)
          rwa [show decide ((spF 1 l i).num * (spF 1 mm i).den < (spF 1 mm i).num * (spF 1 l i).den) = false by rw [decide_eq_false_iff_not]; omega] at this
end Go.AM.Ytmhbnflnlglljaa
end

section
namespace Go.AM.Ytmhbnflnlglljaa
open Go Go.AM
set_option maxRecDepth 1000000
theorem works_run : isTrue (callA E fg 1000 40 10 [] [] 0) = true := by kernel_rfl
end Go.AM.Ytmhbnflnlglljaa
end

section
namespace Go.AM.Ytmhbnflnlglljaa
open Go Go.AM Go.RowKit Go.Proofs Go.Proofs.Ytmhbnflnlglljaa Go.ChangeShapes Go.WideShapes Go.ChangeAt
set_option maxRecDepth 1000000
theorem laidOut : laidOutB Try.prog = true := by kernel_rfl
theorem readable_0 : Try.prog.readableRec 70 = true := by kernel_rfl
theorem types_lt_0 : 70 < Try.prog.types.size := of_decide_eq_true (by kernel_rfl)
theorem cellsOf_0 : Try.prog.cellsOf 70 = 21 := by kernel_rfl
theorem cellTypes_0 : Try.prog.cellTypes Try.prog.depth 70 = some (List.replicate 21 5) := by kernel_rfl
theorem readable_1 : Try.prog.readableRec 5 = true := by kernel_rfl
theorem types_lt_1 : 5 < Try.prog.types.size := of_decide_eq_true (by kernel_rfl)
theorem quads_of : ∀ (n : Nat) (zs : List Int), zs.length = n * 4 → (∀ (i : Nat) (z : Int), zs[i]? = some z → 0 ≤ z ∧ z ≤ 255) → ∃ l : List Q, l.length = n ∧ qcells l = zs.map (AV.int .u8) ∧ ∀ (i : Nat) (q : Q), l[i]? = some q → QOk q
  | 0, zs, h, _ => by
    have : zs = [] := List.length_eq_zero_iff.1 (by omega)
    subst this
    exact ⟨[], rfl, rfl, fun i q hi => by simp at hi⟩
  | n + 1, a :: b :: c :: d :: zs, h, hb => by
    simp only [List.length_cons] at h
    obtain ⟨l, h1, h2, h3⟩ := quads_of n zs (by omega) (fun i z hi => hb (i + 4) z (by simpa using hi))
    refine ⟨⟨a, b, c, d⟩ :: l, by simp [h1], by simp [qcells, qc, h2], fun i q hi => ?_⟩
    cases i with
    | zero => simp at hi; subst hi; exact ⟨hb 0 a rfl, hb 1 b rfl, hb 2 c rfl, hb 3 d rfl⟩
    | succ i => exact h3 i q (by simpa using hi)
  | n + 1, [], h, _ => by simp at h
  | n + 1, [_], h, _ => by simp at h; omega
  | n + 1, [_, _], h, _ => by simp at h; omega
  | n + 1, [_, _, _], h, _ => by simp at h; omega
theorem hand_heap {W : World} {v : Value} {b0 : Nat} {r : Reach} (hv : Value.okWide Try.prog W r b0 70 v) : ∃ m qs, HOk m qs ∧ (start (fun k => k < W.heap.size) W).R (.agg (hcells m qs)) v := by
  obtain ⟨zs, cs, rfl, h1, h2, h3⟩ := hand_struct Try.underlying70 Try.underlying5 cellTypes_0 cellsOf_0 (by omega) hv
  match zs, h2 with
  | z :: zs, h2 =>
    obtain ⟨qs, a, b, c⟩ := quads_of 5 zs (by simpa using h2) (fun i y hi => h3 (i + 1) y (by simpa using hi))
    refine ⟨z, qs, ⟨h3 0 z rfl, a, c⟩, ?_⟩
    rw [show hcells z qs = (z :: zs).map (AV.int .u8) by simp [hcells, b]]
    exact vr_u8 _ h1
theorem propNarrowed_walk {W : World} {m0 : Int} {qs0 : List Q} {v0 : Value} {x1 : Int} {x2 : Int} {x3 : Int} (h0 : HOk m0 qs0) (r0 : (start (fun k => k < W.heap.size) W).R (.agg (hcells m0 qs0)) v0) (h1 : 0 ≤ x1 ∧ x1 ≤ 255) (h2 : 0 ≤ x2 ∧ x2 ≤ 255) (h3 : 0 ≤ x3 ∧ x3 ≤ 255) :
    Calls Try.prog 6 #[v0, .int .u8 x1, .int .u8 x2, .int .u8 x3] W fun e w' => e = .returned (.bool true) ∧ Below W.heap.size W w' := by
  obtain ⟨H0, hw⟩ := isTrue_ok works_run
  obtain ⟨H1, hr⟩ := rs_ex (narrowed_true h0 h1 h2 h3 ⟨H0, hw⟩)
  have hC : CS Try.prog E (bodyA E (callA E fg 1000 40) fg 1000) := body_ok envOk mixed fg 1000 (sound 40)
  refine law_run hC hr (fun k h => h) (vs := [v0, .int .u8 x1, .int .u8 x2, .int .u8 x3]) ?_
  simp only [Gh.Rs, VRs]
  exact ⟨v0, _, rfl, r0, _, _, rfl, by simp only [VR], _, _, rfl, by simp only [VR], _, _, rfl, by simp only [VR], rfl⟩
theorem propNarrowed_lifted (os : Os) (started : os.Started) (H : Type) (enc : TypeId × Value → H) :
    ReturnsInHanded {} Try.checked os 6 .any (Rows.propNarrowedSpec.pre6 enc Try.prog Try.f6 Rows.propNarrowedRow.domain false)
      (Rows.propNarrowedSpec.post enc Try.prog Try.f6 false true false false) := by
  refine returnsInHanded_of_change own started (by kernel_rfl) Try.func6 (ChangeSpec.witness6 (enc := enc) (C := Try.checked) false ⟨#[], #[.agg (Array.replicate 21 (.int .u8 0)), .int .u8 0, .int .u8 0, .int .u8 0], []⟩ 8 (by kernel_rfl) (by kernel_rfl) (by kernel_rfl) (by kernel_rfl)) ?_
  intro W base args ds gs before hval0 hW _ _
  have hW' := hW
  obtain ⟨p, q, hA0, hV, rfl, hfz, hnd⟩ := hW
  have hA : DataW.TrodAll enc Try.prog W 0 (fun _ => true) true Try.f6.params.toList args.toList ds p := hA0
  rw [Try.params6] at hA
  obtain ⟨w0, vs0, d0, ds0, p0, q0, ha, rfl, rfl, t0, hr0⟩ := trodAll_cons hA
  obtain ⟨w1, vs1, d1, ds1, p1, q1, rfl, rfl, rfl, t1, hr1⟩ := trodAll_cons hr0
  obtain ⟨w2, vs2, d2, ds2, p2, q2, rfl, rfl, rfl, t2, hr2⟩ := trodAll_cons hr1
  obtain ⟨w3, vs3, d3, ds3, p3, q3, rfl, rfl, rfl, t3, hr3⟩ := trodAll_cons hr2
  obtain ⟨rfl, rfl, rfl⟩ := trodAll_nil hr3
  obtain rfl : args = #[w0, w1, w2, w3] := by cases args; simp_all
  obtain ⟨rfl, rfl⟩ := trodVars_none hV
  have hval : ∀ (j : Nat) t v, (#[70, 5, 5, 5] : Array TypeId)[j]? = some t → (#[w0, w1, w2, w3] : Array Value)[j]? = some v → Value.okWide Try.prog W .any base t v := by
    intro j t v; have := hval0 j t v; rw [Try.params6] at this; exact this
  obtain ⟨m0, qs0, h0, r0⟩ := hand_heap (hval 0 70 w0 rfl rfl)
  obtain ⟨x1, rfl, h1⟩ := hand_u8 Try.underlying5 (hval 1 5 w1 rfl rfl)
  obtain ⟨x2, rfl, h2⟩ := hand_u8 Try.underlying5 (hval 2 5 w2 rfl rfl)
  obtain ⟨x3, rfl, h3⟩ := hand_u8 Try.underlying5 (hval 3 5 w3 rfl rfl)
  refine (propNarrowed_walk h0 r0 h1 h2 h3).mono fun e W' ⟨he, bel⟩ => ?_
  subst he
  exact ⟨_, rfl, _, _, _, [], _, [], hW', trodAll_mk1 (shut_bool Try.underlying4 _),
    trodAll_mk4 (bel.trod' laidOut readable_0 types_lt_0 t0) (bel.trod' laidOut readable_1 types_lt_1 t1) (bel.trod' laidOut readable_1 types_lt_1 t2) (bel.trod' laidOut readable_1 types_lt_1 t3), rfl, bel.frame _, fun h => by cases h⟩
theorem propNarrowed_holds : Rows.PropNarrowedSaid :=
  OpenClaim.holds_of_wide 6 Try.f6 rfl rfl rfl rfl rfl rfl rfl ⟨rfl, rfl, rfl, rfl, rfl⟩ rfl rfl rfl rfl rfl (by kernel_rfl) Try.func6 (by kernel_rfl)
    (of_decide_eq_true (by kernel_rfl)) (by unfold Func.isWrapper; first | (rw [if_pos (by decide +kernel)]; kernel_rfl) | (rw [if_neg (by decide +kernel)]; exact ⟨rfl, rfl⟩))
    (fun os started H enc _ => propNarrowed_lifted os started H enc)
end Go.AM.Ytmhbnflnlglljaa
namespace Go.Proofs.Ytmhbnflnlglljaa
/-- PropNarrowed: the law answers true for every input, and the input reads as it did. No condition. -/
theorem propNarrowed_holds : Rows.PropNarrowedSaid := Go.AM.Ytmhbnflnlglljaa.propNarrowed_holds
end Go.Proofs.Ytmhbnflnlglljaa
end
#print axioms Go.Proofs.Ytmhbnflnlglljaa.propNarrowed_holds
