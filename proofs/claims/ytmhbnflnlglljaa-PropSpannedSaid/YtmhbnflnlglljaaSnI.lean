/- A part of the proof of propSpanned_holds: PropD, PropE, PropF, PropG, SyC, AmBk, Bas, MadeA, MomA, SyD, CorA, CorB, TruA. Own work of this project; texts printed by own programs among it. -/
import Derived.KernelRfl
import Derived.Test.YtmhbnflnlglljaaSnH
section
namespace Go.AM.Ytmhbnflnlglljaa
open Go Go.AM
set_option maxRecDepth 100000
set_option maxHeartbeats 1000000
/-- The sum of a level's moments to a side, in the worst truth. -/
def worstSum (l : List Stone) (k : Nat) (side : Int) : Int := sumF (fun i => term side (rightE l k) (leftE l k) (l.getD i default)) k (l.length - k)
def mayTip (l : List Stone) (k : Nat) (side : Int) : Bool := decide (worstSum l k side > 0)
theorem may_asks {d : Nat} {l : List Stone} (h : OkP l) {k : Nat} (hk : k ≤ l.length) (side : Int) :
    Asks (callA E fg 1000 (d + 2)) (.clo 115 [.iptr [farV side (rightE l k) (leftE l k)] 0]) (fun i => [.agg (sc (l.getD i default))]) (fun i => term side (rightE l k) (leftE l k) (l.getD i default)) k l.length := by
  refine ⟨fun _ => rfl, fun site i _ hi => ?_⟩
  obtain ⟨s, hs⟩ := at_ex hi
  have hg : l.getD i default = s := by simp [hs]
  have := aBack_int (site := site) (seen := []) (rs_ex (mayTerm_run (d := d) i s side (rightE l k) (leftE l k) (h.fits i s hs) (edge_bounds h hk)))
  simp only [hg]
  simp only [sc] at this
  simp only [sc, opCallV, fi_115, aCall, List.cons_append, List.nil_append, snaps, snap, Rd.bind]
  exact this
theorem may_run {d : Nat} {l : List Stone} {ex : Bool} (h : OkP l) {k : Nat} (hk : k ≤ l.length) (side : Int) : rsOf (callA E fg 1000 (d + 4) 96 [.imm (pcells l) l.length ex, .int .i64 k, .int .i64 side] [] 0) = some (.bool (mayTip l k side)) := by
  have hsum := fun site seen => aBack_int (site := site) (seen := seen) (rs_ex (sumP_run (ex := ex) hk h.le (may_asks (d := d) h hk side) (by rfl) (fun i h1 h2 => by
    obtain ⟨s, hs⟩ := at_ex h2
    have hg : l.getD i default = s := by simp [hs]
    obtain ⟨b1, b2⟩ := term_bound (side := side) (h.fits i s hs) (edge_bounds h hk)
    simp only [hg]
    omega)))
  have hs2 : ∀ (args : List AV), bodyA E (callA E fg 1000 (d + 2)) fg 1000 114 args [] 0 = callA E fg 1000 (d + 3) 114 args [] 0 := fun _ => rfl
  have hsum2 : ∀ site seen, aBack site true seen (thaw (callA E fg 1000 (d + 3)) 114 [.imm (pcells l) l.length ex, .int .i64 k, .clo 115 [.iptr [farV side (rightE l k) (leftE l k)] 0]] [] 0) = .pure (.int .i64 (worstSum l k side), []) := fun site seen => hsum site seen
  change rsOf (bodyA E (callA E fg 1000 (d + 3)) fg 1000 96 _ _ _) = _
  have hbc := fun site => beyond_call (d := d + 1) (site := site) (ex := ex) h hk side
  simp only [farV] at hbc hsum2
  simp only [seqX_normal, bindR_some, regX_some, bodyX_ret, run_nil, run_cons, fget_cons', fput_cons', forget_nil, forget_cons', hget_nil', hget_cons', hset_nil', hset_cons', frame0, gcM_c, stp, opBox, just, Rd.bind, Rd.run, Rd.opt, upds, acells, zeroCells, tsz, aStore, opStore, resA, resL, fresh, aBin, aInt, putC, Nat.reduceAdd, Nat.reduceBEq, Nat.reduceEqDiff, Nat.reduceLeDiff, ↓reduceIte, reduceCtorEq, liveBlk_eq, Nat.zero_add, List.nil_append, frz, putD_some, putD_none, and_true, aCall, snaps, snap, List.append_nil, Option.map_some, List.elem_cons, List.elem_nil, List.length_cons, List.length_nil, List.set_cons_zero, T_138, x96_1, r96_0_l, s96_0_0, x96_3, r96_1_l, s96_1_0, s96_1_1, s96_1_2, s96_1_3, s96_1_4, s96_1_5, x96_5, r96_2_l, s96_2_0, s96_2_1, s96_2_2, s96_2_3, s96_2_4, s96_2_5, x96_6, x96_4, x96_2, x96_0, b_96, hbc, hsum2, mayTip]
theorem may_call {d : Nat} {site : Nat → Nat} {seen : List Nat} {l : List Stone} {ex : Bool} (h : OkP l) {k : Nat} (hk : k ≤ l.length) (side : Int) :
    aBack site true seen (thaw (callA E fg 1000 (d + 4)) 96 [.imm (pcells l) l.length ex, .int .i64 k, .int .i64 side] [] 0) = .pure (.bool (mayTip l k side), []) :=
  aBack_bool (rs_ex (may_run h hk side))
/-- The lowest level that may tip, from one on. -/
def weakFrom (l : List Stone) (k : Nat) : Nat → Int
  | 0 => -1
  | m + 1 => if mayTip l k 1 = true ∨ mayTip l k (-1) = true then k else weakFrom l (k + 1) m
def weakL (l : List Stone) : Int := weakFrom l 0 l.length
theorem weak_loop {d : Nat} {l : List Stone} {ex : Bool} (h : OkP l) : ∀ (m k F : Nat) (H : AHeap), k + m = l.length → m < F →
    iterA (execA E (callA E fg 1000 (d + 4)) (fg 64) 0 19 [] 1000 c64_7) (headA []) F ([(6, .int .i64 k), (5, .int .i64 l.length), (0, .imm (pcells l) l.length ex)], H) =
      if weakFrom l k m = -1 then some (.exit 0, [(7, .bool false), (6, .int .i64 l.length), (5, .int .i64 l.length), (0, .imm (pcells l) l.length ex)], []) else some (.ret, [(2, .int .i64 (weakFrom l k m))], [])
  | 0, k, F + 1, H, hk, _ => by
    obtain rfl : k = l.length := by omega
    rw [iterA_succ]
    simp only [seqX_normal, seqX_exit, bindR_some, regX_some, condX_bool, run_nil, run_cons, fget_cons', fput_cons', forget_nil, forget_cons', gcM_n, stp, just, Rd.bind, Rd.run, Rd.opt, upds, aBin, aInt, Nat.reduceEqDiff, Nat.reduceLeDiff, Int.reduceNeg, ↓reduceIte, headA_drop, refsF, refsOf, decide_false, putD_some, List.append_nil, List.elem_nil, x64_8, r64_2_l, s64_2_0, x64_11, x64_12, x64_10, x64_9, x64_7, Int.lt_irrefl, decide_false, Bool.false_eq_true, weakFrom]
  | m + 1, k, F + 1, H, hk, hF => by
    have hkl : k < l.length := by omega
    have ih := weak_loop (d := d) (ex := ex) h m (k + 1) F [] (by omega) (by omega)
    have hne : (k : Int) ≠ -1 := by omega
    rw [iterA_succ]
    simp only [seqX_normal, seqX_ret, seqX_ite, bindR_some, bindR_ite, regX_some, regX_ite, condX_bool, blockX_normal, blockX_ret, blockX_ite, ↓gd, fset_cons, Bool.not_false, run_nil, run_cons, fget_cons', fput_cons', forget_nil, forget_cons', gcM_n, gcM_c, stp, opPick, just, Rd.bind, Rd.run, Rd.opt, upds, aBin, aInt, Nat.reduceBEq, Nat.reduceEqDiff, Nat.reduceLeDiff, Int.reduceNeg, ↓reduceIte, reduceCtorEq, Nat.zero_add, headA_drop, refsF, refsOf, Bool.not_false, decide_true, putD_some, Int.ofNat_lt, aCall, snaps, snap, List.append_nil, List.elem_cons, List.elem_nil, x64_8, r64_2_l, s64_2_0, x64_11, x64_12, x64_10, x64_16, r64_3_l, s64_3_0, s64_3_1, x64_18, r64_4_l, s64_4_0, s64_4_1, s64_4_2, s64_4_3, s64_4_4, s64_4_5, s64_4_6, s64_4_7, x64_21, r64_5_l, s64_5_0, s64_5_1, x64_22, x64_20, x64_23, x64_19, x64_17, x64_15, x64_14, x64_24, r64_6_l, s64_6_0, s64_6_1, x64_13, x64_9, x64_7, hkl, may_call h (Nat.le_of_lt hkl), wrp_succ (show k < 1000000 by have := h.le; omega), ih, weakFrom]
    by_cases h1 : mayTip l k 1 = true <;> by_cases h2 : mayTip l k (-1) = true <;> simp [h1, h2, hne]
theorem weak_run {d : Nat} {l : List Stone} {ex : Bool} (h : OkP l) : rsOf (callA E fg 1000 (d + 5) 64 [.imm (pcells l) l.length ex] [] 0) = some (.int .i64 (weakL l)) := by
  change rsOf (bodyA E (callA E fg 1000 (d + 4)) fg 1000 64 _ _ _) = _
  have hl := weak_loop (d := d) (ex := ex) h l.length 0 1000 [] (by omega) (by have := h.le; omega)
  simp only [Int.natCast_zero] at hl
  by_cases hw : weakFrom l 0 l.length = -1
  · simp only [hw, if_true] at hl
    simp only [seqX_normal, bindR_some, regX_some, blockX_exit, bodyX_ret, run_nil, run_cons, fget_cons', fput_nil, fput_cons', forget_nil, forget_cons', frame0, gcM_n, gcM_c, stp, just, Rd.bind, Rd.run, upds, resA, resL, aLen, aBuiltin, Nat.reduceBEq, Nat.reduceEqDiff, Nat.reduceLeDiff, Int.reduceNeg, ↓reduceIte, reduceCtorEq, List.getElem?_toArray, putD_some, Option.map_some, List.elem_cons, List.elem_nil, List.getElem?_cons_zero, T_22, x64_1, r64_0_l, s64_0_0, x64_4, r64_1_l, s64_1_0, s64_1_1, s64_1_2, x64_6, x64_5, x64_3, x64_26, r64_7_l, s64_7_0, x64_27, x64_25, x64_2, x64_0, b_64, hl, weakL, hw]
  · simp only [hw, if_false] at hl
    simp only [seqX_normal, seqX_ret, bindR_some, regX_some, blockX_ret, bodyX_ret, run_nil, run_cons, fget_cons', fput_cons', forget_nil, forget_cons', frame0, gcM_c, stp, just, Rd.bind, Rd.run, upds, resA, resL, aLen, aBuiltin, Nat.reduceBEq, Nat.reduceEqDiff, Nat.reduceLeDiff, ↓reduceIte, reduceCtorEq, List.getElem?_toArray, putD_some, Option.map_some, List.elem_cons, List.elem_nil, List.getElem?_cons_zero, T_22, x64_1, r64_0_l, s64_0_0, x64_4, r64_1_l, s64_1_0, s64_1_1, s64_1_2, x64_6, x64_5, x64_3, x64_2, x64_0, b_64, hl, weakL]
theorem weak_call {d : Nat} {site : Nat → Nat} {seen : List Nat} {l : List Stone} {ex : Bool} (h : OkP l) : aBack site true seen (thaw (callA E fg 1000 (d + 5)) 64 [.imm (pcells l) l.length ex] [] 0) = .pure (.int .i64 (weakL l), []) :=
  aBack_int (rs_ex (weak_run h))
theorem isP_imm {a : AV} {l : List Stone} (h : IsP a l) (hl : 0 < l.length) : ∃ ex, a = .imm (pcells l) l.length ex := by
  rcases h with ⟨_, rfl⟩ | h
  · simp at hl
  · exact h
def standsB (l : List Stone) : Bool := if check l = 0 then decide (weakL l < 0) else false
theorem stands_run {d : Nat} {a : AV} {l : List Stone} (ha : IsP a l) : rsOf (callA E fg 1000 (d + 6) 32 [a] [] 0) = some (.tup [.bool (standsB l), .int .i64 (check l)]) := by
  change rsOf (bodyA E (callA E fg 1000 (d + 5)) fg 1000 32 _ _ _) = _
  have hc := fun (site : Nat → Nat) seen => check_call (d := d + 3) (site := site) (seen := seen) ha
  by_cases h0 : check l = 0
  · have h := check_zero.1 h0
    obtain ⟨ex, rfl⟩ := isP_imm ha h.ne
    simp only [seqX_normal, bindR_some, regX_some, condX_bool, bodyX_ret, run_nil, run_cons, fget_cons', fput_cons', forget_nil, forget_cons', frame0, gcM_c, stp, just, Rd.bind, Rd.run, Rd.opt, upds, resA, resL, aBin, aInt, Nat.reduceBEq, Nat.reduceEqDiff, Nat.reduceLeDiff, ↓reduceIte, reduceCtorEq, Nat.zero_add, bne_iff_ne, ne_eq, not_true_eq_false, putD_some, aCall, snaps, snap, List.append_nil, Option.map_some, List.elem_cons, List.elem_nil, x32_1, r32_0_l, s32_0_0, s32_0_1, x32_4, r32_1_l, s32_1_0, s32_1_1, s32_1_2, x32_6, r32_2_l, s32_2_0, s32_2_1, x32_9, r32_3_l, s32_3_0, s32_3_1, s32_3_2, x32_10, x32_8, x32_11, x32_7, x32_5, x32_3, x32_13, r32_4_l, s32_4_0, s32_4_1, s32_4_2, s32_4_3, s32_4_4, x32_14, x32_12, x32_2, x32_0, b_32, hc, h0, weak_call h, standsB]
  · rcases ha with ⟨rfl, rfl⟩ | ⟨ex, rfl⟩ <;> simp only [seqX_normal, seqX_ret, bindR_some, regX_some, condX_bool, bodyX_ret, run_nil, run_cons, fget_cons', fput_cons', forget_nil, forget_cons', frame0, gcM_c, stp, just, Rd.bind, Rd.run, Rd.opt, upds, resA, resL, aBin, aInt, Nat.reduceBEq, Nat.reduceEqDiff, Nat.reduceLeDiff, ↓reduceIte, reduceCtorEq, Nat.zero_add, bne_iff_ne, ne_eq, not_false_eq_true, putD_some, aCall, snaps, snap, List.append_nil, Option.map_some, List.elem_cons, List.elem_nil, x32_1, r32_0_l, s32_0_0, s32_0_1, x32_4, r32_1_l, s32_1_0, s32_1_1, s32_1_2, x32_6, r32_2_l, s32_2_0, s32_2_1, x32_9, r32_3_l, s32_3_0, s32_3_1, s32_3_2, x32_10, x32_8, x32_11, x32_7, x32_5, x32_3, x32_2, x32_0, b_32, hc, h0, standsB]
theorem stands_call {d : Nat} {site : Nat → Nat} {seen : List Nat} {a : AV} {l : List Stone} (ha : IsP a l) : aBack site true seen (thaw (callA E fg 1000 (d + 6)) 32 [a] [] 0) = .pure (.tup [.bool (standsB l), .int .i64 (check l)], []) :=
  aBack_boolint (rs_ex (stands_run ha))
end Go.AM.Ytmhbnflnlglljaa
end

section
namespace Go.AM.Ytmhbnflnlglljaa
open Go Go.AM
set_option maxRecDepth 100000
set_option maxHeartbeats 1000000
def foundE (l : List Stone) (z : Int) : Int := if check l = 0 then (if z < 0 then 2 else if z ≥ l.length then 2 else 0) else check l
theorem found_run {d : Nat} {a : AV} {l : List Stone} (ha : IsP a l) (z : Int) : rsOf (callA E fg 1000 (d + 3) 57 [a, .int .i64 z] [] 0) = some (.int .i64 (foundE l z)) := by
  change rsOf (bodyA E (callA E fg 1000 (d + 2)) fg 1000 57 _ _ _) = _
  have hc := fun (site : Nat → Nat) seen => check_call (d := d) (site := site) (seen := seen) ha
  by_cases h0 : check l = 0
  · have h := check_zero.1 h0
    obtain ⟨ex, rfl⟩ := isP_imm ha h.ne
    by_cases h1 : z < 0 <;> by_cases h2 : z ≥ l.length <;> simp only [seqX_normal, bindR_some, regX_some, condX_bool, ↓gd, fset_cons, Bool.not_false, bodyX_ret, run_nil, run_cons, fget_cons', fput_nil, fput_cons', forget_nil, forget_cons', frame0, gcM_c, stp, opPick, just, Rd.bind, Rd.run, Rd.opt, upds, resA, resL, aLen, aBuiltin, aBin, aInt, Nat.reduceBEq, Nat.reduceEqDiff, Nat.reduceLeDiff, ↓reduceIte, reduceCtorEq, Nat.zero_add, beq_iff_eq, List.getElem?_toArray, Bool.not_false, decide_true, decide_false, putD_some, aCall, snaps, snap, List.append_nil, Option.map_some, List.elem_cons, List.elem_nil, List.getElem?_cons_zero, T_22, x57_1, r57_0_l, s57_0_0, x57_3, r57_1_l, s57_1_0, s57_1_1, s57_1_2, x57_6, r57_2_l, s57_2_0, s57_2_1, s57_2_2, s57_2_3, s57_2_4, s57_2_5, s57_2_6, s57_2_7, s57_2_8, s57_2_9, s57_2_10, s57_2_11, x57_8, r57_3_l, s57_3_0, x57_9, x57_7, x57_5, x57_11, r57_4_l, s57_4_0, s57_4_1, x57_12, x57_10, x57_4, x57_2, x57_0, b_57, hc, h0, foundE, h1, h2]
  · rcases ha with ⟨rfl, rfl⟩ | ⟨ex, rfl⟩ <;> simp only [seqX_normal, bindR_some, regX_some, condX_bool, ↓gd, fset_cons, Bool.not_true, bodyX_ret, run_nil, run_cons, fget_cons', fput_nil, fput_cons', forget_nil, forget_cons', frame0, gcM_c, stp, opPick, just, Rd.bind, Rd.run, Rd.opt, upds, resA, resL, aBin, aInt, Nat.reduceBEq, Nat.reduceEqDiff, Nat.reduceLeDiff, ↓reduceIte, reduceCtorEq, Nat.zero_add, beq_iff_eq, Bool.not_true, putD_some, aCall, snaps, snap, List.append_nil, Option.map_some, List.elem_cons, List.elem_nil, x57_1, r57_0_l, s57_0_0, x57_3, r57_1_l, s57_1_0, s57_1_1, s57_1_2, x57_6, r57_2_l, s57_2_0, s57_2_1, s57_2_2, s57_2_3, s57_2_4, s57_2_5, s57_2_6, s57_2_7, s57_2_8, s57_2_9, s57_2_10, s57_2_11, x57_8, r57_3_l, s57_3_0, x57_9, x57_7, x57_5, x57_11, r57_4_l, s57_4_0, s57_4_1, x57_12, x57_10, x57_4, x57_2, x57_0, b_57, hc, h0, foundE]
theorem found_call {d : Nat} {site : Nat → Nat} {seen : List Nat} {a : AV} {l : List Stone} (ha : IsP a l) (z : Int) : aBack site true seen (thaw (callA E fg 1000 (d + 3)) 57 [a, .int .i64 z] [] 0) = .pure (.int .i64 (foundE l z), []) :=
  aBack_int (rs_ex (found_run ha z))
theorem found_zero {l : List Stone} {z : Int} : foundE l z = 0 ↔ OkP l ∧ 0 ≤ z ∧ z < l.length := by
  unfold foundE
  split
  · rename_i h
    have := check_zero.1 h
    split
    · simp; omega
    · split
      · simp; omega
      · simp [this]; omega
  · rename_i h
    constructor
    · intro h2; exact absurd h2 h
    · intro h2; exact absurd (check_zero.2 h2.1) h
def weighL : List Stone → List Int → Int
  | s :: l, w :: ws => if w < s.least then 1 else if w > s.most then 1 else weighL l ws
  | _, _ => 0
def weighE (l : List Stone) (ws : List Int) : Int := if (ws.length : Int) = l.length then weighL l ws else 5
end Go.AM.Ytmhbnflnlglljaa
end

section
namespace Go.AM.Ytmhbnflnlglljaa
open Go Go.AM
set_option maxRecDepth 100000
set_option maxHeartbeats 1000000
def momTerm (l : List Stone) (ws : List Int) (k : Nat) (side : Int) (i : Nat) : Int := ws.getD i 0 * far side (rightE l k) (leftE l k) (l.getD i default)
def momSum (l : List Stone) (ws : List Int) (k : Nat) (side : Int) : Int := sumF (momTerm l ws k side) k (l.length - k)
theorem weigh_len {l : List Stone} {ws : List Int} (hw : weighE l ws = 0) : ws.length = l.length := by
  unfold weighE at hw
  split at hw
  · omega
  · simp at hw
end Go.AM.Ytmhbnflnlglljaa
end

section
namespace Go.AM.Ytmhbnflnlglljaa
open Go Go.AM
set_option maxRecDepth 100000
set_option maxHeartbeats 1000000
theorem room3 {n : Nat} (h : n ≤ 1000000) : roomOk E.T 3 n = true := by
  simp only [roomOk, T_3, decide_eq_true_eq]; exact ⟨by decide, rfl, by omega⟩
theorem icells_snoc (l : List Int) (z : Int) : icells l ++ [.int .i64 z] = icells (l ++ [z]) := by simp [icells]
/-- A list that is being built, and its heap. -/
def outV (id : Nat) : List Int → AV
  | [] => .nilsl
  | z :: l => .ref id 0 (l.length + 1) (l.length + 1) (l.length + 1) 1 false
def outH (id : Nat) : List Int → AHeap
  | [] => []
  | z :: l => [(id, ⟨.row, icells (z :: l)⟩)]
theorem take_icells (a : Int) (o : List Int) : List.take (o.length + 1) (icells (a :: o)) = icells (a :: o) := List.take_of_length_le (by simp [icells])
theorem outV_ne {id : Nat} {l : List Int} (h : 0 < l.length) : outV id l = .ref id 0 l.length l.length l.length 1 false ∧ outH id l = [(id, ⟨.row, icells l⟩)] := by
  cases l with
  | nil => simp at h
  | cons a o => exact ⟨rfl, rfl⟩
end Go.AM.Ytmhbnflnlglljaa
end

section
namespace Go.AM.Ytmhbnflnlglljaa
open Go Go.AM
set_option maxRecDepth 100000
variable {C : Callee} {B N : Nat} {E0 : AHeap} (φ : AFr) (H : AHeap) (s : St)
noncomputable def c31_0 : Code := kBody Proofs.Try.f31
noncomputable def c31_1 : Code := kL c31_0
noncomputable def r31_0 : Array Oper := kO c31_1
noncomputable def o31_0_0 : Oper := opN r31_0 0
noncomputable def o31_0_1 : Oper := opN r31_0 1
theorem x31_1 : execA E C (fg 31) B 63 E0 N c31_1 s = regX (runA E C B 63 r31_0 r31_0.toList s) (fun s => gcM E0 [0, 4] (forget s.1 [0, 4], s.2)) := x_reg (ops := r31_0) (by rfl) (by rfl) s
theorem r31_0_l : r31_0.toList = [o31_0_0, o31_0_1] := nrfl rfl
theorem s31_0_0 : stepA E C B 63 r31_0 o31_0_0 (φ, H) = stp (some 2) φ H (opBox (B + 2) (acells (fget φ 0))) := nrfl rfl
theorem s31_0_1 : stepA E C B 63 r31_0 o31_0_1 (φ, H) = some (fput φ 4 (.nilsl), H) := nrfl rfl
noncomputable def c31_2 : Code := kR c31_0
noncomputable def c31_3 : Code := kL c31_2
noncomputable def r31_1 : Array Oper := kO c31_3
noncomputable def o31_1_0 : Oper := opN r31_1 0
theorem x31_3 : execA E C (fg 31) B 63 E0 N c31_3 s = regX (runA E C B 63 r31_1 r31_1.toList s) (fun s => gcM E0 [] (forget s.1 [], s.2)) := x_reg (ops := r31_1) (by rfl) (by rfl) s
theorem r31_1_l : r31_1.toList = [o31_1_0] := nrfl rfl
theorem s31_1_0 : stepA E C B 63 r31_1 o31_1_0 (φ, H) = some (fput φ 5 (.nilsl), H) := nrfl rfl
noncomputable def c31_4 : Code := kR c31_2
noncomputable def c31_5 : Code := kL c31_4
noncomputable def r31_2 : Array Oper := kO c31_5
noncomputable def o31_2_0 : Oper := opN r31_2 0
theorem x31_5 : execA E C (fg 31) B 63 E0 N c31_5 s = regX (runA E C B 63 r31_2 r31_2.toList s) (fun s => gcM E0 [] (forget s.1 [], s.2)) := x_reg (ops := r31_2) (by rfl) (by rfl) s
theorem r31_2_l : r31_2.toList = [o31_2_0] := nrfl rfl
theorem s31_2_0 : stepA E C B 63 r31_2 o31_2_0 (φ, H) = some (fput φ 6 (.int .i64 0), H) := nrfl rfl
noncomputable def c31_6 : Code := kR c31_4
noncomputable def c31_7 : Code := kL c31_6
noncomputable def c31_8 : Code := kL c31_7
noncomputable def r31_3 : Array Oper := kO c31_8
noncomputable def o31_3_0 : Oper := opN r31_3 0
noncomputable def o31_3_1 : Oper := opN r31_3 1
noncomputable def o31_3_2 : Oper := opN r31_3 2
noncomputable def o31_3_3 : Oper := opN r31_3 3
noncomputable def o31_3_4 : Oper := opN r31_3 4
noncomputable def o31_3_5 : Oper := opN r31_3 5
noncomputable def o31_3_6 : Oper := opN r31_3 6
noncomputable def o31_3_7 : Oper := opN r31_3 7
noncomputable def o31_3_8 : Oper := opN r31_3 8
noncomputable def o31_3_9 : Oper := opN r31_3 9
theorem x31_8 : execA E C (fg 31) B 63 E0 N c31_8 s = regX (runA E C B 63 r31_3 r31_3.toList s) (fun s => gcM E0 [1, 2, 10, 11, 12, 13, 14, 15, 16] (forget s.1 [1, 2, 10, 11, 12, 13, 14, 15, 16], s.2)) := x_reg (ops := r31_3) (by rfl) (by rfl) s
theorem r31_3_l : r31_3.toList = [o31_3_0, o31_3_1, o31_3_2, o31_3_3, o31_3_4, o31_3_5, o31_3_6, o31_3_7, o31_3_8, o31_3_9] := nrfl rfl
theorem s31_3_0 : stepA E C B 63 r31_3 o31_3_0 (φ, H) = stp (some 10) φ H (just (aFieldAddr E.T 70 (fget φ 2) 1)) := nrfl rfl
theorem s31_3_1 : stepA E C B 63 r31_3 o31_3_1 (φ, H) = stp (some 11) φ H (just (aFieldAddr E.T 70 (fget φ 2) 0)) := nrfl rfl
theorem s31_3_2 : stepA E C B 63 r31_3 o31_3_2 (φ, H) = stp (some 12) φ H (just (aLoad E.T 5 (fget φ 11))) := nrfl rfl
theorem s31_3_3 : stepA E C B 63 r31_3 o31_3_3 (φ, H) = stp (some 13) φ H (justO (aConv E.T 5 3 (fget φ 12))) := nrfl rfl
theorem s31_3_4 : stepA E C B 63 r31_3 o31_3_4 (φ, H) = some (fput φ 14 (fget φ 1), H) := nrfl rfl
theorem s31_3_5 : stepA E C B 63 r31_3 o31_3_5 (φ, H) = stp (some 15) φ H (just (aBin E.T .rem 3 (fget φ 13) (fget φ 14))) := nrfl rfl
theorem s31_3_6 : stepA E C B 63 r31_3 o31_3_6 (φ, H) = stp (some 16) φ H (just (aBin E.T .add 3 (.int .i64 1) (fget φ 15))) := nrfl rfl
theorem s31_3_7 : stepA E C B 63 r31_3 o31_3_7 (φ, H) = stp (some 17) φ H (just (aSlice E.T 68 (fget φ 10) none (some (fget φ 16)) none)) := nrfl rfl
theorem s31_3_8 : stepA E C B 63 r31_3 o31_3_8 (φ, H) = stp (some 18) φ H (aBuiltin E.T (B + 18) .len #[133] [(fget φ 17)]) := nrfl rfl
theorem s31_3_9 : stepA E C B 63 r31_3 o31_3_9 (φ, H) = some (fput φ 19 (.int .i64 0), H) := nrfl rfl
noncomputable def c31_9 : Code := kR c31_7
noncomputable def c31_10 : Code := kB c31_9
noncomputable def c31_11 : Code := kB c31_10
noncomputable def c31_12 : Code := kL c31_11
noncomputable def r31_4 : Array Oper := kO c31_12
noncomputable def o31_4_0 : Oper := opN r31_4 0
theorem x31_12 : execA E C (fg 31) B 63 E0 N c31_12 s = regX (runA E C B 63 r31_4 r31_4.toList s) (fun s => gcM E0 [] (forget s.1 [], s.2)) := x_reg (ops := r31_4) (by rfl) (by rfl) s
theorem r31_4_l : r31_4.toList = [o31_4_0] := nrfl rfl
theorem s31_4_0 : stepA E C B 63 r31_4 o31_4_0 (φ, H) = stp (some 20) φ H (just (aBin E.T .lss 3 (fget φ 19) (fget φ 18))) := nrfl rfl
noncomputable def c31_13 : Code := kR c31_11
noncomputable def c31_14 : Code := kL c31_13
noncomputable def c31_15 : Code := kT c31_14
theorem x31_15 : execA E C (fg 31) B 63 E0 N c31_15 s = some (.normal, s) := x_skip (by rfl) s
noncomputable def c31_16 : Code := kE c31_14
theorem x31_16 : execA E C (fg 31) B 63 E0 N c31_16 s = some (.exit 0, s) := x_exit (by rfl) s
theorem x31_14 : execA E C (fg 31) B 63 E0 N c31_14 (φ, H) = condX (fget φ 20) (execA E C (fg 31) B 63 E0 N c31_15 (φ, H)) (execA E C (fg 31) B 63 E0 N c31_16 (φ, H)) := x_cond (by rfl) _
noncomputable def c31_17 : Code := kR c31_13
noncomputable def c31_18 : Code := kL c31_17
noncomputable def c31_19 : Code := kB c31_18
noncomputable def c31_20 : Code := kL c31_19
noncomputable def r31_5 : Array Oper := kO c31_20
noncomputable def o31_5_0 : Oper := opN r31_5 0
noncomputable def o31_5_1 : Oper := opN r31_5 1
noncomputable def o31_5_2 : Oper := opN r31_5 2
noncomputable def o31_5_3 : Oper := opN r31_5 3
theorem x31_20 : execA E C (fg 31) B 63 E0 N c31_20 s = regX (runA E C B 63 r31_5 r31_5.toList s) (fun s => gcM E0 [20, 21, 22] (forget s.1 [20, 21, 22], s.2)) := x_reg (ops := r31_5) (by rfl) (by rfl) s
theorem r31_5_l : r31_5.toList = [o31_5_0, o31_5_1, o31_5_2, o31_5_3] := nrfl rfl
theorem s31_5_0 : stepA E C B 63 r31_5 o31_5_0 (φ, H) = stp (some 21) φ H (just (aIndexAddr E.T 133 (fget φ 17) (fget φ 19))) := nrfl rfl
theorem s31_5_1 : stepA E C B 63 r31_5 o31_5_1 (φ, H) = stp (some 22) φ H (just (aLoad E.T 67 (fget φ 21))) := nrfl rfl
theorem s31_5_2 : stepA E C B 63 r31_5 o31_5_2 (φ, H) = stp (some 8) φ H (opBox (B + 8) (zeroCells E.T 67)) := nrfl rfl
theorem s31_5_3 : stepA E C B 63 r31_5 o31_5_3 (φ, H) = stp none φ H (opStore E.T 67 (fget φ 8) (fget φ 22)) := nrfl rfl
noncomputable def c31_21 : Code := kR c31_19
noncomputable def c31_22 : Code := kL c31_21
noncomputable def r31_6 : Array Oper := kO c31_22
noncomputable def o31_6_0 : Oper := opN r31_6 0
noncomputable def o31_6_1 : Oper := opN r31_6 1
noncomputable def o31_6_2 : Oper := opN r31_6 2
noncomputable def o31_6_3 : Oper := opN r31_6 3
noncomputable def o31_6_4 : Oper := opN r31_6 4
noncomputable def o31_6_5 : Oper := opN r31_6 5
noncomputable def o31_6_6 : Oper := opN r31_6 6
noncomputable def o31_6_7 : Oper := opN r31_6 7
noncomputable def o31_6_8 : Oper := opN r31_6 8
noncomputable def o31_6_9 : Oper := opN r31_6 9
noncomputable def o31_6_10 : Oper := opN r31_6 10
noncomputable def o31_6_11 : Oper := opN r31_6 11
noncomputable def o31_6_12 : Oper := opN r31_6 12
noncomputable def o31_6_13 : Oper := opN r31_6 13
noncomputable def o31_6_14 : Oper := opN r31_6 14
noncomputable def o31_6_15 : Oper := opN r31_6 15
noncomputable def o31_6_16 : Oper := opN r31_6 16
noncomputable def o31_6_17 : Oper := opN r31_6 17
noncomputable def o31_6_18 : Oper := opN r31_6 18
noncomputable def o31_6_19 : Oper := opN r31_6 19
theorem x31_22 : execA E C (fg 31) B 63 E0 N c31_22 s = regX (runA E C B 63 r31_6 r31_6.toList s) (fun s => gcM E0 [6, 23, 24, 25, 26, 27, 28, 29, 30, 31, 32, 33, 34, 35, 36, 37, 38, 39, 40] (forget s.1 [6, 23, 24, 25, 26, 27, 28, 29, 30, 31, 32, 33, 34, 35, 36, 37, 38, 39, 40], s.2)) := x_reg (ops := r31_6) (by rfl) (by rfl) s
theorem r31_6_l : r31_6.toList = [o31_6_0, o31_6_1, o31_6_2, o31_6_3, o31_6_4, o31_6_5, o31_6_6, o31_6_7, o31_6_8, o31_6_9, o31_6_10, o31_6_11, o31_6_12, o31_6_13, o31_6_14, o31_6_15, o31_6_16, o31_6_17, o31_6_18, o31_6_19] := nrfl rfl
theorem s31_6_0 : stepA E C B 63 r31_6 o31_6_0 (φ, H) = stp (some 23) φ H (just (aIndexAddr E.T 67 (fget φ 8) (.int .i64 0))) := nrfl rfl
theorem s31_6_1 : stepA E C B 63 r31_6 o31_6_1 (φ, H) = stp (some 24) φ H (just (aLoad E.T 5 (fget φ 23))) := nrfl rfl
theorem s31_6_2 : stepA E C B 63 r31_6 o31_6_2 (φ, H) = stp (some 25) φ H (justO (aConv E.T 5 3 (fget φ 24))) := nrfl rfl
theorem s31_6_3 : stepA E C B 63 r31_6 o31_6_3 (φ, H) = stp (some 26) φ H (just (aBin E.T .rem 3 (fget φ 25) (.int .i64 12))) := nrfl rfl
theorem s31_6_4 : stepA E C B 63 r31_6 o31_6_4 (φ, H) = stp (some 27) φ H (just (aBin E.T .add 3 (.int .i64 1) (fget φ 26))) := nrfl rfl
theorem s31_6_5 : stepA E C B 63 r31_6 o31_6_5 (φ, H) = some (fput φ 28 (fget φ 6), H) := nrfl rfl
theorem s31_6_6 : stepA E C B 63 r31_6 o31_6_6 (φ, H) = stp (some 29) φ H (just (aBin E.T .add 3 (fget φ 28) (.int .i64 1))) := nrfl rfl
theorem s31_6_7 : stepA E C B 63 r31_6 o31_6_7 (φ, H) = stp (some 30) φ H (just (aIndexAddr E.T 67 (fget φ 8) (.int .i64 1))) := nrfl rfl
theorem s31_6_8 : stepA E C B 63 r31_6 o31_6_8 (φ, H) = stp (some 31) φ H (just (aLoad E.T 5 (fget φ 30))) := nrfl rfl
theorem s31_6_9 : stepA E C B 63 r31_6 o31_6_9 (φ, H) = stp (some 32) φ H (justO (aConv E.T 5 3 (fget φ 31))) := nrfl rfl
theorem s31_6_10 : stepA E C B 63 r31_6 o31_6_10 (φ, H) = stp (some 33) φ H (just (aBin E.T .rem 3 (fget φ 32) (.int .i64 15))) := nrfl rfl
theorem s31_6_11 : stepA E C B 63 r31_6 o31_6_11 (φ, H) = stp (some 34) φ H (just (aBin E.T .sub 3 (fget φ 29) (fget φ 33))) := nrfl rfl
theorem s31_6_12 : stepA E C B 63 r31_6 o31_6_12 (φ, H) = stp (some 35) φ H (just (aIndexAddr E.T 67 (fget φ 8) (.int .i64 2))) := nrfl rfl
theorem s31_6_13 : stepA E C B 63 r31_6 o31_6_13 (φ, H) = stp (some 36) φ H (just (aLoad E.T 5 (fget φ 35))) := nrfl rfl
theorem s31_6_14 : stepA E C B 63 r31_6 o31_6_14 (φ, H) = stp (some 37) φ H (justO (aConv E.T 5 3 (fget φ 36))) := nrfl rfl
theorem s31_6_15 : stepA E C B 63 r31_6 o31_6_15 (φ, H) = stp (some 38) φ H (just (aBin E.T .rem 3 (fget φ 37) (.int .i64 9))) := nrfl rfl
theorem s31_6_16 : stepA E C B 63 r31_6 o31_6_16 (φ, H) = stp (some 39) φ H (just (aBin E.T .add 3 (.int .i64 1) (fget φ 38))) := nrfl rfl
theorem s31_6_17 : stepA E C B 63 r31_6 o31_6_17 (φ, H) = stp (some 40) φ H (justO (aBuild E.T 45 (evO E φ) [(0, Operand.tmp 27), (1, Operand.tmp 34), (2, Operand.tmp 39)])) := nrfl rfl
theorem s31_6_18 : stepA E C B 63 r31_6 o31_6_18 (φ, H) = stp (some 9) φ H (opBox (B + 9) (zeroCells E.T 45)) := nrfl rfl
theorem s31_6_19 : stepA E C B 63 r31_6 o31_6_19 (φ, H) = stp none φ H (opStore E.T 45 (fget φ 9) (fget φ 40)) := nrfl rfl
noncomputable def c31_23 : Code := kR c31_21
noncomputable def c31_24 : Code := kL c31_23
noncomputable def r31_7 : Array Oper := kO c31_24
noncomputable def o31_7_0 : Oper := opN r31_7 0
noncomputable def o31_7_1 : Oper := opN r31_7 1
noncomputable def o31_7_2 : Oper := opN r31_7 2
noncomputable def o31_7_3 : Oper := opN r31_7 3
noncomputable def o31_7_4 : Oper := opN r31_7 4
noncomputable def o31_7_5 : Oper := opN r31_7 5
noncomputable def o31_7_6 : Oper := opN r31_7 6
noncomputable def o31_7_7 : Oper := opN r31_7 7
noncomputable def o31_7_8 : Oper := opN r31_7 8
noncomputable def o31_7_9 : Oper := opN r31_7 9
noncomputable def o31_7_10 : Oper := opN r31_7 10
noncomputable def o31_7_11 : Oper := opN r31_7 11
theorem x31_24 : execA E C (fg 31) B 63 E0 N c31_24 s = regX (drawA E C B 63 r31_7 s) (fun s => gcM E0 [8, 41, 42, 43, 44, 45, 46, 47, 48, 49, 50, 51] (forget s.1 [8, 41, 42, 43, 44, 45, 46, 47, 48, 49, 50, 51], s.2)) := x_draw (ops := r31_7) (by rfl) (by rfl) s
theorem r31_7_l : r31_7.toList = [o31_7_0, o31_7_1, o31_7_2, o31_7_3, o31_7_4, o31_7_5, o31_7_6, o31_7_7, o31_7_8, o31_7_9, o31_7_10, o31_7_11] := nrfl rfl
theorem r31_7_st : statOk r31_7 = true := by kernel_rfl
theorem r31_7_dr : drawA E C B 63 r31_7 s = if neat 63 s = true then drX r31_7 (runT E C B 63 r31_7 r31_7.toList 0 s) else none := draw_eq r31_7_st s
theorem r31_7_an (l : List (Nat × Tr)) : dynOk r31_7 l = (!writing l || dynPairs [[], [0], [], [2], [2, 3], [], [5], [5, 6], [2, 3, 4, 5, 6, 7], [0, 1, 2, 3, 4, 5, 6, 7, 8], [0, 1, 2, 3, 4, 5, 6, 7, 8, 9], [0, 1, 2, 3, 4, 5, 6, 7, 8, 9, 10]] (touching l)) := dynOk_eq (by kernel_rfl) l
theorem s31_7_0 : stepT E C B 63 r31_7 o31_7_0 (φ, H) = stpT (some 41) φ H (just (aFieldAddr E.T 45 (fget φ 9) 2)) := stT_go rfl (goT_R rfl rfl)
theorem s31_7_1 : stepT E C B 63 r31_7 o31_7_1 (φ, H) = stpT (some 42) φ H (just (aLoad E.T 3 (fget φ 41))) := stT_go rfl (goT_R rfl rfl)
theorem s31_7_2 : stepT E C B 63 r31_7 o31_7_2 (φ, H) = stpT (some 43) φ H (just (aIndexAddr E.T 67 (fget φ 8) (.int .i64 3))) := stT_go rfl (goT_R rfl rfl)
theorem s31_7_3 : stepT E C B 63 r31_7 o31_7_3 (φ, H) = stpT (some 44) φ H (just (aLoad E.T 5 (fget φ 43))) := stT_go rfl (goT_R rfl rfl)
theorem s31_7_4 : stepT E C B 63 r31_7 o31_7_4 (φ, H) = stpT (some 45) φ H (justO (aConv E.T 5 3 (fget φ 44))) := stT_go rfl (goT_R rfl rfl)
theorem s31_7_5 : stepT E C B 63 r31_7 o31_7_5 (φ, H) = stpT (some 46) φ H (just (aFieldAddr E.T 45 (fget φ 9) 2)) := stT_go rfl (goT_R rfl rfl)
theorem s31_7_6 : stepT E C B 63 r31_7 o31_7_6 (φ, H) = stpT (some 47) φ H (just (aLoad E.T 3 (fget φ 46))) := stT_go rfl (goT_R rfl rfl)
theorem s31_7_7 : stepT E C B 63 r31_7 o31_7_7 (φ, H) = stpT (some 48) φ H (just (aBin E.T .sub 3 (.int .i64 10) (fget φ 47))) := stT_go rfl (goT_R rfl rfl)
theorem s31_7_8 : stepT E C B 63 r31_7 o31_7_8 (φ, H) = stpT (some 49) φ H (just (aBin E.T .rem 3 (fget φ 45) (fget φ 48))) := stT_go rfl (goT_R rfl rfl)
theorem s31_7_9 : stepT E C B 63 r31_7 o31_7_9 (φ, H) = stpT (some 50) φ H (just (aBin E.T .add 3 (fget φ 42) (fget φ 49))) := stT_go rfl (goT_R rfl rfl)
theorem s31_7_10 : stepT E C B 63 r31_7 o31_7_10 (φ, H) = stpT (some 51) φ H (just (aFieldAddr E.T 45 (fget φ 9) 3)) := stT_go rfl (goT_R rfl rfl)
theorem s31_7_11 : stepT E C B 63 r31_7 o31_7_11 (φ, H) = stpT none φ H (opStore E.T 3 (fget φ 51) (fget φ 50)) := stT_go rfl (goT_R rfl rfl)
noncomputable def c31_25 : Code := kR c31_23
noncomputable def c31_26 : Code := kL c31_25
noncomputable def r31_8 : Array Oper := kO c31_26
noncomputable def o31_8_0 : Oper := opN r31_8 0
noncomputable def o31_8_1 : Oper := opN r31_8 1
noncomputable def o31_8_2 : Oper := opN r31_8 2
noncomputable def o31_8_3 : Oper := opN r31_8 3
noncomputable def o31_8_4 : Oper := opN r31_8 4
theorem x31_26 : execA E C (fg 31) B 63 E0 N c31_26 s = regX (runA E C B 63 r31_8 r31_8.toList s) (fun s => gcM E0 [52, 53, 54, 55] (forget s.1 [52, 53, 54, 55], s.2)) := x_reg (ops := r31_8) (by rfl) (by rfl) s
theorem r31_8_l : r31_8.toList = [o31_8_0, o31_8_1, o31_8_2, o31_8_3, o31_8_4] := nrfl rfl
theorem s31_8_0 : stepA E C B 63 r31_8 o31_8_0 (φ, H) = some (fput φ 52 (fget φ 5), H) := nrfl rfl
theorem s31_8_1 : stepA E C B 63 r31_8 o31_8_1 (φ, H) = stp (some 53) φ H (just (aLoad E.T 45 (fget φ 9))) := nrfl rfl
theorem s31_8_2 : stepA E C B 63 r31_8 o31_8_2 (φ, H) = stp (some 54) φ H (aBuildSlice E.T (B + 54) 22 1 (evO E φ) [(0, Operand.tmp 53)]) := nrfl rfl
theorem s31_8_3 : stepA E C B 63 r31_8 o31_8_3 (φ, H) = stp (some 55) φ H (aBuiltin E.T (B + 55) .append #[22, 22] [(fget φ 52), (fget φ 54)]) := nrfl rfl
theorem s31_8_4 : stepA E C B 63 r31_8 o31_8_4 (φ, H) = some (fput φ 5 (fget φ 55), H) := nrfl rfl
noncomputable def c31_27 : Code := kR c31_25
noncomputable def r31_9 : Array Oper := kO c31_27
noncomputable def o31_9_0 : Oper := opN r31_9 0
noncomputable def o31_9_1 : Oper := opN r31_9 1
noncomputable def o31_9_2 : Oper := opN r31_9 2
noncomputable def o31_9_3 : Oper := opN r31_9 3
noncomputable def o31_9_4 : Oper := opN r31_9 4
noncomputable def o31_9_5 : Oper := opN r31_9 5
theorem x31_27 : execA E C (fg 31) B 63 E0 N c31_27 s = regX (runA E C B 63 r31_9 r31_9.toList s) (fun s => gcM E0 [9, 56, 57, 58, 59, 60] (forget s.1 [9, 56, 57, 58, 59, 60], s.2)) := x_reg (ops := r31_9) (by rfl) (by rfl) s
theorem r31_9_l : r31_9.toList = [o31_9_0, o31_9_1, o31_9_2, o31_9_3, o31_9_4, o31_9_5] := nrfl rfl
theorem s31_9_0 : stepA E C B 63 r31_9 o31_9_0 (φ, H) = stp (some 56) φ H (just (aFieldAddr E.T 45 (fget φ 9) 1)) := nrfl rfl
theorem s31_9_1 : stepA E C B 63 r31_9 o31_9_1 (φ, H) = stp (some 57) φ H (just (aLoad E.T 3 (fget φ 56))) := nrfl rfl
theorem s31_9_2 : stepA E C B 63 r31_9 o31_9_2 (φ, H) = stp (some 58) φ H (just (aFieldAddr E.T 45 (fget φ 9) 0)) := nrfl rfl
theorem s31_9_3 : stepA E C B 63 r31_9 o31_9_3 (φ, H) = stp (some 59) φ H (just (aLoad E.T 3 (fget φ 58))) := nrfl rfl
theorem s31_9_4 : stepA E C B 63 r31_9 o31_9_4 (φ, H) = stp (some 60) φ H (just (aBin E.T .add 3 (fget φ 57) (fget φ 59))) := nrfl rfl
theorem s31_9_5 : stepA E C B 63 r31_9 o31_9_5 (φ, H) = some (fput φ 6 (fget φ 60), H) := nrfl rfl
theorem x31_25 : execA E C (fg 31) B 63 E0 N c31_25 s = seqX (execA E C (fg 31) B 63 E0 N c31_26 s) (execA E C (fg 31) B 63 E0 N c31_27) := x_seq (by rfl) s
theorem x31_23 : execA E C (fg 31) B 63 E0 N c31_23 s = seqX (execA E C (fg 31) B 63 E0 N c31_24 s) (execA E C (fg 31) B 63 E0 N c31_25) := x_seq (by rfl) s
theorem x31_21 : execA E C (fg 31) B 63 E0 N c31_21 s = seqX (execA E C (fg 31) B 63 E0 N c31_22 s) (execA E C (fg 31) B 63 E0 N c31_23) := x_seq (by rfl) s
theorem x31_19 : execA E C (fg 31) B 63 E0 N c31_19 s = seqX (execA E C (fg 31) B 63 E0 N c31_20 s) (execA E C (fg 31) B 63 E0 N c31_21) := x_seq (by rfl) s
theorem x31_18 : execA E C (fg 31) B 63 E0 N c31_18 s = blockX 1 (fun s => (forget s.1 [], s.2)) (execA E C (fg 31) B 63 E0 N c31_19 s) := x_block (by rfl) (by rfl) s
noncomputable def c31_28 : Code := kR c31_17
noncomputable def r31_10 : Array Oper := kO c31_28
noncomputable def o31_10_0 : Oper := opN r31_10 0
noncomputable def o31_10_1 : Oper := opN r31_10 1
theorem x31_28 : execA E C (fg 31) B 63 E0 N c31_28 s = regX (runA E C B 63 r31_10 r31_10.toList s) (fun s => gcM E0 [61] (forget s.1 [61], s.2)) := x_reg (ops := r31_10) (by rfl) (by rfl) s
theorem r31_10_l : r31_10.toList = [o31_10_0, o31_10_1] := nrfl rfl
theorem s31_10_0 : stepA E C B 63 r31_10 o31_10_0 (φ, H) = stp (some 61) φ H (just (aBin E.T .add 3 (fget φ 19) (.int .i64 1))) := nrfl rfl
theorem s31_10_1 : stepA E C B 63 r31_10 o31_10_1 (φ, H) = some (fput φ 19 (fget φ 61), H) := nrfl rfl
theorem x31_17 : execA E C (fg 31) B 63 E0 N c31_17 s = seqX (execA E C (fg 31) B 63 E0 N c31_18 s) (execA E C (fg 31) B 63 E0 N c31_28) := x_seq (by rfl) s
theorem x31_13 : execA E C (fg 31) B 63 E0 N c31_13 s = seqX (execA E C (fg 31) B 63 E0 N c31_14 s) (execA E C (fg 31) B 63 E0 N c31_17) := x_seq (by rfl) s
theorem x31_11 : execA E C (fg 31) B 63 E0 N c31_11 s = seqX (execA E C (fg 31) B 63 E0 N c31_12 s) (execA E C (fg 31) B 63 E0 N c31_13) := x_seq (by rfl) s
theorem x31_10 : execA E C (fg 31) B 63 E0 N c31_10 s = iterA (execA E C (fg 31) B 63 E0 N c31_11) (headA E0) N s := x_loop (by rfl) s
theorem x31_9 : execA E C (fg 31) B 63 E0 N c31_9 s = blockX 0 (fun s => (forget s.1 [6, 17, 18, 19, 20], s.2)) (execA E C (fg 31) B 63 E0 N c31_10 s) := x_block (by rfl) (by rfl) s
theorem x31_7 : execA E C (fg 31) B 63 E0 N c31_7 s = seqX (execA E C (fg 31) B 63 E0 N c31_8 s) (execA E C (fg 31) B 63 E0 N c31_9) := x_seq (by rfl) s
noncomputable def c31_29 : Code := kR c31_6
noncomputable def c31_30 : Code := kL c31_29
noncomputable def r31_11 : Array Oper := kO c31_30
noncomputable def o31_11_0 : Oper := opN r31_11 0
noncomputable def o31_11_1 : Oper := opN r31_11 1
theorem x31_30 : execA E C (fg 31) B 63 E0 N c31_30 s = regX (runA E C B 63 r31_11 r31_11.toList s) (fun s => gcM E0 [5, 62] (forget s.1 [5, 62], s.2)) := x_reg (ops := r31_11) (by rfl) (by rfl) s
theorem r31_11_l : r31_11.toList = [o31_11_0, o31_11_1] := nrfl rfl
theorem s31_11_0 : stepA E C B 63 r31_11 o31_11_0 (φ, H) = some (fput φ 62 (fget φ 5), H) := nrfl rfl
theorem s31_11_1 : stepA E C B 63 r31_11 o31_11_1 (φ, H) = some (fput φ 4 (fget φ 62), H) := nrfl rfl
noncomputable def c31_31 : Code := kR c31_29
theorem x31_31 : execA E C (fg 31) B 63 E0 N c31_31 s = some (.ret, s) := x_ret (by rfl) s
theorem x31_29 : execA E C (fg 31) B 63 E0 N c31_29 s = seqX (execA E C (fg 31) B 63 E0 N c31_30 s) (execA E C (fg 31) B 63 E0 N c31_31) := x_seq (by rfl) s
theorem x31_6 : execA E C (fg 31) B 63 E0 N c31_6 s = seqX (execA E C (fg 31) B 63 E0 N c31_7 s) (execA E C (fg 31) B 63 E0 N c31_29) := x_seq (by rfl) s
theorem x31_4 : execA E C (fg 31) B 63 E0 N c31_4 s = seqX (execA E C (fg 31) B 63 E0 N c31_5 s) (execA E C (fg 31) B 63 E0 N c31_6) := x_seq (by rfl) s
theorem x31_2 : execA E C (fg 31) B 63 E0 N c31_2 s = seqX (execA E C (fg 31) B 63 E0 N c31_3 s) (execA E C (fg 31) B 63 E0 N c31_4) := x_seq (by rfl) s
theorem x31_0 : execA E C (fg 31) B 63 E0 N c31_0 s = seqX (execA E C (fg 31) B 63 E0 N c31_1 s) (execA E C (fg 31) B 63 E0 N c31_2) := x_seq (by rfl) s
theorem fi_31 : fInfo E 31 = some ⟨63, #[.tmp 4], c31_0⟩ := nrfl rfl
theorem b_31 (args : List AV) : bodyA E C fg N 31 args H B = bodyX E [.tmp 4] (execA E C (fg 31) B 63 H N c31_0 (frame0 args 0 [], H)) := bodyA_eq fi_31 args H
end Go.AM.Ytmhbnflnlglljaa
end

section
namespace Go.AM
/-- A result that leads to one new block, at the first free place. -/
noncomputable def back1 (k : Nat) (seen : List Nat) (r : Nat → AV) (b : Blk) : Rd (AV × Ups) :=
  (freeOff [k] 6 0).bind fun off => (freeAll [k + off]).bind fun _ => (frz seen).bind fun us => .pure (r (k + off), us ++ [(k + off, b)])
theorem back1_eq (k : Nat) (seen : List Nat) (r : Nat → AV) (b : Blk) : ∃ no : Blk → Rd (AV × Ups), back1 k seen r b = .get k fun
    | none => .get k fun
      | none => (frz seen).bind fun us => .pure (r k, us ++ [(k, b)])
      | some _ => .fail
    | some b => no b := by
  refine ⟨fun _ => (freeOff [k] 5 1048576).bind fun off => (freeAll [k + off]).bind fun _ => (frz seen).bind fun us => .pure (r (k + off), us ++ [(k + off, b)]), ?_⟩
  simp only [back1, freeOff, List.map_cons, List.map_nil, allFree, Rd.bind, Nat.add_zero]
  congr 1
  funext x
  cases x with
  | none =>
    simp only [Rd.bind, freeAll, Nat.add_zero]
    congr 1
    funext y
    cases y <;> rfl
  | some _ => rfl
theorem back1_run {k : Nat} {seen : List Nat} {r : Nat → AV} {b : Blk} {H : AHeap} (h : hget H k = none) : (back1 k seen r b).run H = ((frz seen).bind fun us => .pure (r k, us ++ [(k, b)])).run H := by
  obtain ⟨no, e⟩ := back1_eq k seen r b
  rw [e]; simp only [Rd.run, h]
theorem back1_foot {k : Nat} {seen : List Nat} {r : Nat → AV} {b : Blk} {H : AHeap} (h : hget H k = none) : (back1 k seen r b).foot H = k :: k :: ((frz seen).bind fun us => .pure (r k, us ++ [(k, b)])).foot H := by
  obtain ⟨no, e⟩ := back1_eq k seen r b
  rw [e]; simp only [Rd.foot, h]
noncomputable def back1N (k : Nat) (seen : List Nat) (r : Nat → AV) (b : Blk) : Rd (AV × Ups) := back1 k seen r b
theorem back1_r {k : Nat} {seen : List Nat} {r : Nat → AV} {b : Blk} {H : AHeap} : (back1 k seen r b).run H = match hget H k with
    | none => ((frz seen).bind fun us => .pure (r k, us ++ [(k, b)])).run H
    | some _ => (back1N k seen r b).run H := by
  cases h : hget H k with
  | none => exact back1_run h
  | some _ => rfl
theorem back1_f {k : Nat} {seen : List Nat} {r : Nat → AV} {b : Blk} {H : AHeap} : (back1 k seen r b).foot H = match hget H k with
    | none => k :: k :: ((frz seen).bind fun us => .pure (r k, us ++ [(k, b)])).foot H
    | some _ => (back1N k seen r b).foot H := by
  cases h : hget H k with
  | none => exact back1_foot h
  | some _ => rfl
theorem aBack_ref {C : Callee} {site : Nat → Nat} {seen : List Nat} {f : FuncId} {args : List AV} {id n sz : Nat} {cells : List AV} {H' : AHeap} (h : C f args [] 0 = some (.ref id 0 n n cells.length sz false, H')) (hg : hget H' id = some ⟨.row, cells⟩) :
    aBack site true seen (thaw C f args [] 0) = back1 (site 0) seen (fun k => .ref k 0 n n cells.length sz false) ⟨.row, cells⟩ := by
  simp only [thaw, h, frzRet, aBack, sitesB, aBackAt, imp, hg, List.length_nil, List.not_mem_nil, not_false_eq_true, and_true, if_true, List.map_cons, List.map_nil, AM.apart, List.elem_nil, Bool.not_false, Bool.and_true, AV.leads, back1]
end Go.AM
end

section
namespace Go.AM
theorem seqN (s : St) (k) : seqX (some (.normal, s)) k = k s := nrfl rfl
theorem bindN (s : St) (k) : bindR (some s) k = k s := nrfl rfl
theorem regN (s : St) (k) : regX (some s) k = some (.normal, k s) := nrfl rfl
theorem snap_int (d : Nat) (k : IntKind) (z : Int) : snap (d + 1) (.int k z) = .pure (.int k z, []) := rfl
theorem snap_nilsl (d : Nat) : snap (d + 1) .nilsl = .pure (.nilsl, []) := rfl
theorem snap_imm (d : Nat) (c : List AV) (n : Nat) (ex : Bool) : snap (d + 1) (.imm c n ex) = .pure (.imm c n ex, []) := rfl
theorem snap_ref (d id off len cap gl sz : Nat) (ex : Bool) : snap (d + 1) (.ref id off len cap gl sz ex) = (Rd.liveBlk id gl).bind fun b =>
      if off + len * sz ≤ b.cells.length then
        match b.st with
        | .box => (snaps d ((b.cells.drop off).take (len * sz))).bind fun x =>
          .pure (.imm x.1 len (ex && decide (cap = len)), id :: x.2)
        | _ => .pure (.imm ((b.cells.drop off).take (len * sz)) len (ex && decide (cap = len)), [id])
      else .fail := rfl
theorem snap_ptr' (d id off gl : Nat) : snap (d + 1) (.ptr id off gl) = (Rd.liveBlk id gl).bind fun b =>
      match b.st with
      | .box => (snaps d b.cells).bind fun x => .pure (.iptr x.1 off, id :: x.2)
      | _ => .pure (.iptr b.cells off, [id]) := rfl
theorem snap_iptr (d : Nat) (c : List AV) (n : Nat) : snap (d + 1) (.iptr c n) = .pure (.iptr c n, []) := rfl
theorem snap_bool (d : Nat) (b : Bool) : snap (d + 1) (.bool b) = .pure (.bool b, []) := rfl
theorem snap_nilfunc (d : Nat) : snap (d + 1) .nilfunc = .pure (.nilfunc, []) := rfl
theorem snap_agg (d : Nat) (vs : List AV) : snap (d + 1) (.agg vs) = (snaps d vs).bind fun x => .pure (.agg x.1, x.2) := rfl
theorem snap_tup (d : Nat) (vs : List AV) : snap (d + 1) (.tup vs) = (snaps d vs).bind fun x => .pure (.tup x.1, x.2) := rfl
theorem snap_clo (d : Nat) (f : FuncId) (vs : List AV) : snap (d + 1) (.clo f vs) = (snaps d vs).bind fun x => .pure (.clo f x.1, x.2) := rfl
/-- A block is frozen. -/
def frzB (s : BS) (cs : List AV) (i : Nat) (r : Rd Ups) : Rd Ups :=
  match s, cs.all AV.flat with
  | .box, false => .fail
  | .mp, _ => .fail
  | _, _ => r.bind fun us => .pure ((i, ⟨.froz, cs⟩) :: us)
theorem frz_nil : frz [] = .pure [] := rfl
theorem frz_eq (i : Nat) (is : List Nat) : frz (i :: is) = .get i fun
    | some b => frzB b.st b.cells i (frz is)
    | none => .fail := rfl
theorem frzB_row (cs : List AV) (i : Nat) (r : Rd Ups) : frzB .row cs i r = r.bind fun us => .pure ((i, ⟨.froz, cs⟩) :: us) := rfl
theorem frzB_froz (cs : List AV) (i : Nat) (r : Rd Ups) : frzB .froz cs i r = r.bind fun us => .pure ((i, ⟨.froz, cs⟩) :: us) := rfl
theorem frzB_box (cs : List AV) (i : Nat) (r : Rd Ups) : frzB .box cs i r = if cs.all AV.flat = true then r.bind fun us => .pure ((i, ⟨.froz, cs⟩) :: us) else .fail := by
  unfold frzB; cases cs.all AV.flat <;> rfl
theorem snaps_flat : ∀ (l : List AV) (d : Nat), (∀ a ∈ l, ∃ k z, a = AV.int k z) → l.length + 2 ≤ d → snaps d l = .pure (l, [])
  | [], d + 1, _, _ => by simp only [snaps]
  | a :: l, d + 1, h, hd => by
    obtain ⟨k, z, rfl⟩ := h a (List.mem_cons_self ..)
    have hd2 : l.length + 2 ≤ d := by simp only [List.length_cons] at hd; omega
    have ih := snaps_flat l d (fun a ha => h a (List.mem_cons_of_mem _ ha)) hd2
    obtain ⟨e, rfl⟩ : ∃ e, d = e + 1 := ⟨d - 1, by omega⟩
    simp only [snaps, snap, ih, Rd.bind, List.nil_append]
end Go.AM
namespace Go.AM.Ytmhbnflnlglljaa
open Go Go.AM
theorem cl0 : ((0 : Nat) : Int) = 0 := rfl
theorem cl1 : ((1 : Nat) : Int) = 1 := rfl
theorem cl2 : ((2 : Nat) : Int) = 2 := rfl
theorem cl3 : ((3 : Nat) : Int) = 3 := rfl
theorem cl4 : ((4 : Nat) : Int) = 4 := rfl
theorem cl5 : ((5 : Nat) : Int) = 5 := rfl
end Go.AM.Ytmhbnflnlglljaa
end

section
namespace Go.AM.Ytmhbnflnlglljaa
open Go Go.AM
set_option maxRecDepth 100000
set_option maxHeartbeats 4000000
/-- Four numbers of eight bits. -/
structure Q where
  a : Int
  b : Int
  c : Int
  d : Int
deriving Inhabited
structure QOk (q : Q) : Prop where
  a : 0 ≤ q.a ∧ q.a ≤ 255
  b : 0 ≤ q.b ∧ q.b ≤ 255
  c : 0 ≤ q.c ∧ q.c ≤ 255
  d : 0 ≤ q.d ∧ q.d ≤ 255
def qc (q : Q) : List AV := [.int .u8 q.a, .int .u8 q.b, .int .u8 q.c, .int .u8 q.d]
def qcells : List Q → List AV
  | [] => []
  | q :: l => qc q ++ qcells l
def hcells (m : Int) (qs : List Q) : List AV := .int .u8 m :: qcells qs
theorem qcells_length : ∀ (l : List Q), (qcells l).length = l.length * 4
  | [] => rfl
  | s :: l => by simp [qcells, qc, qcells_length l]; omega
theorem hcells_length {m : Int} {qs : List Q} (h : qs.length = 5) : (hcells m qs).length = 21 := by
  simp [hcells, qcells_length, h]
theorem qcells_at : ∀ (l : List Q) (k : Nat) (s : Q), l[k]? = some s → ((qcells l).drop (k * 4)).take 4 = qc s
  | [], k, s, h => by simp at h
  | a :: l, 0, s, h => by simp at h; subst h; simp [qcells, qc]
  | a :: l, k + 1, s, h => by
    simp at h
    have := qcells_at l k s h
    have e : (k + 1) * 4 = k * 4 + 4 := by omega
    rw [e, qcells, show k * 4 + 4 = 4 + k * 4 by omega, ← List.drop_drop]
    simpa [qc] using this
theorem hcells_at {m : Int} {qs : List Q} {k : Nat} {q : Q} (h : qs[k]? = some q) : ((hcells m qs).drop (1 + k * 4)).take 4 = [.int .u8 q.a, .int .u8 q.b, .int .u8 q.c, .int .u8 q.d] := by
  have := qcells_at qs k q h
  rw [hcells, show 1 + k * 4 = k * 4 + 1 by omega, List.drop_succ_cons]
  exact this
def mk (e : Int) (q : Q) : Stone := ⟨1 + q.a.tmod 12, e + 1 - q.b.tmod 15, 1 + q.c.tmod 9, 1 + q.c.tmod 9 + q.d.tmod (10 - (1 + q.c.tmod 9))⟩
def edgeN (qs : List Q) : Nat → Int
  | 0 => 0
  | i + 1 => (mk (edgeN qs i) (qs.getD i default)).pos + (mk (edgeN qs i) (qs.getD i default)).half
def stN (qs : List Q) (i : Nat) : Stone := mk (edgeN qs i) (qs.getD i default)
def nOf (m : Int) : Nat := (1 + m.tmod 5).toNat
def madeI (qs : List Q) (i : Nat) : List Stone := (List.range i).map (stN qs)
def madeL (m : Int) (qs : List Q) : List Stone := madeI qs (nOf m)
theorem madeI_length (qs : List Q) (i : Nat) : (madeI qs i).length = i := by simp [madeI]
theorem madeI_succ (qs : List Q) (i : Nat) : madeI qs (i + 1) = madeI qs i ++ [stN qs i] := by simp [madeI, List.range_succ]
theorem tmod_b {x : Int} (h : 0 ≤ x) (k : Int) (hk : 0 < k) : 0 ≤ x.tmod k ∧ x.tmod k ≤ k - 1 := by
  rw [Int.tmod_eq_emod_of_nonneg h]
  exact ⟨Int.emod_nonneg _ (by omega), by have := Int.emod_lt_of_pos x hk; omega⟩
structure Mk (e : Int) (s : Stone) : Prop where
  h1 : 1 ≤ s.half
  h2 : s.half ≤ 12
  p1 : e - 13 ≤ s.pos
  p2 : s.pos ≤ e + 1
  l1 : 1 ≤ s.least
  l2 : s.least ≤ 9
  lm : s.least ≤ s.most
  m9 : s.most ≤ 9
theorem mk_ok {e : Int} {q : Q} (h : QOk q) : Mk e (mk e q) := by
  obtain ⟨a1, a2⟩ := tmod_b h.a.1 12 (by omega)
  obtain ⟨b1, b2⟩ := tmod_b h.b.1 15 (by omega)
  obtain ⟨c1, c2⟩ := tmod_b h.c.1 9 (by omega)
  obtain ⟨d1, d2⟩ := tmod_b h.d.1 (10 - (1 + q.c.tmod 9)) (by omega)
  constructor <;> simp only [mk] <;> omega
structure HOk (m : Int) (qs : List Q) : Prop where
  m : 0 ≤ m ∧ m ≤ 255
  l : qs.length = 5
  q : ∀ (i : Nat) (q : Q), qs[i]? = some q → QOk q
theorem edge_b {m : Int} {qs : List Q} (h : HOk m qs) : ∀ i : Nat, i ≤ 5 → -(13 * (i : Int)) ≤ edgeN qs i ∧ edgeN qs i ≤ 13 * i
  | 0, _ => by simp [edgeN]
  | i + 1, hi => by
    obtain ⟨q, hq⟩ := at_ex (l := qs) (k := i) (by have := h.l; omega)
    have e : qs.getD i default = q := by simp [hq]
    have := edge_b h i (by omega)
    obtain ⟨h1, h2, p1, p2, _, _, _, _⟩ := mk_ok (e := edgeN qs i) (h.q i q hq)
    simp only [edgeN, e]
    omega
theorem nOf_b {m : Int} {qs : List Q} (h : HOk m qs) : 1 ≤ nOf m ∧ nOf m ≤ 5 ∧ (1 + m.tmod 5) = (nOf m : Int) := by
  obtain ⟨a, b⟩ := tmod_b h.m.1 5 (by omega)
  unfold nOf
  omega
theorem made_okP {m : Int} {qs : List Q} (h : HOk m qs) : OkP (madeL m qs) := by
  obtain ⟨n1, n2, _⟩ := nOf_b h
  refine ⟨by rw [madeL, madeI_length]; exact n1, by rw [madeL, madeI_length]; exact n2, fun k s hs => ?_⟩
  have hk := at_lt hs
  rw [madeL, madeI_length] at hk
  simp only [madeL, madeI, List.getElem?_map, List.getElem?_range hk, Option.map_some, Option.some.injEq] at hs
  obtain ⟨q, hq⟩ := at_ex (l := qs) (k := k) (by have := h.l; omega)
  have e : qs.getD k default = q := by simp [hq]
  obtain ⟨h1, h2, p1, p2, l1, l2, lm, m9⟩ := mk_ok (e := edgeN qs k) (h.q k q hq)
  have := edge_b h k (by omega)
  rw [← hs, stN, e]
  exact ⟨h1, by omega, by omega, by omega, l1, lm, m9⟩
theorem room44 {n : Nat} (h : n ≤ 1000000) : roomOk E.T 45 n = true := by
  simp only [roomOk, T_45, decide_eq_true_eq]; exact ⟨by decide, rfl, by omega⟩
def poutV (id : Nat) : List Stone → AV
  | [] => .nilsl
  | s :: l => .ref id 0 (l.length + 1) (l.length + 1) ((l.length + 1) * 4) 4 false
def poutH (id : Nat) : List Stone → AHeap
  | [] => []
  | s :: l => [(id, ⟨.row, pcells (s :: l)⟩)]
theorem pcells_snoc : ∀ (l : List Stone) (s : Stone), pcells l ++ sc s = pcells (l ++ [s])
  | [], s => by simp [pcells]
  | a :: l, s => by simp only [pcells, List.append_assoc, List.cons_append]; rw [pcells_snoc l s]
theorem poutV_ne {id : Nat} {l : List Stone} (h : 0 < l.length) : poutV id l = .ref id 0 l.length l.length (l.length * 4) 4 false ∧ poutH id l = [(id, ⟨.row, pcells l⟩)] := by
  cases l with
  | nil => simp at h
  | cons a o => exact ⟨rfl, rfl⟩
theorem made_round {C : Callee} {m : Int} {qs : List Q} (h : HOk m qs) (n i : Nat) (hn : n ≤ 5) (hi : i < n) (out : List Stone) (ho : out.length = i) :
    ∃ s', execA E C (fg 31) 0 63 [] 1000 c31_11 ([(19, .int .i64 i), (18, .int .i64 n), (17, .ref 2 1 n 5 21 4 true), (6, .int .i64 (edgeN qs i)), (5, poutV 55 out)], (2, ⟨.box, hcells m qs⟩) :: poutH 55 out) = some (.normal, s') ∧
      headA [] s' = ([(19, .int .i64 (i + 1 : Nat)), (18, .int .i64 n), (17, .ref 2 1 n 5 21 4 true), (6, .int .i64 (edgeN qs (i + 1))), (5, poutV 55 (out ++ [stN qs i]))], (2, ⟨.box, hcells m qs⟩) :: poutH 55 (out ++ [stN qs i])) := by
  obtain ⟨q, hq⟩ := at_ex (l := qs) (k := i) (by have := h.l; omega)
  have eq : qs.getD i default = q := by simp [hq]
  have hqo := h.q i q hq
  obtain ⟨a1, a2⟩ := tmod_b hqo.a.1 12 (by omega)
  obtain ⟨b1, b2⟩ := tmod_b hqo.b.1 15 (by omega)
  obtain ⟨c1, c2⟩ := tmod_b hqo.c.1 9 (by omega)
  obtain ⟨d1, d2⟩ := tmod_b hqo.d.1 (10 - (1 + q.c.tmod 9)) (by omega)
  obtain ⟨e1, e2⟩ := edge_b h i (by omega)
  have w1 : wrp .i64 q.a = q.a := wrp64 (by have := hqo.a; omega)
  have w2 : wrp .i64 q.b = q.b := wrp64 (by have := hqo.b; omega)
  have w3 : wrp .i64 q.c = q.c := wrp64 (by have := hqo.c; omega)
  have w4 : wrp .i64 q.d = q.d := wrp64 (by have := hqo.d; omega)
  have w5 : wrp .i64 (1 + q.a.tmod 12) = 1 + q.a.tmod 12 := wrp64 (by omega)
  have w6 : wrp .i64 (edgeN qs i + 1) = edgeN qs i + 1 := wrp64 (by omega)
  have w7 : wrp .i64 (edgeN qs i + 1 - q.b.tmod 15) = edgeN qs i + 1 - q.b.tmod 15 := wrp64 (by omega)
  have w8 : wrp .i64 (1 + q.c.tmod 9) = 1 + q.c.tmod 9 := wrp64 (by omega)
  have w9 : wrp .i64 (10 - (1 + q.c.tmod 9)) = 10 - (1 + q.c.tmod 9) := wrp64 (by omega)
  have w10 : wrp .i64 (1 + q.c.tmod 9 + q.d.tmod (10 - (1 + q.c.tmod 9))) = 1 + q.c.tmod 9 + q.d.tmod (10 - (1 + q.c.tmod 9)) := wrp64 (by omega)
  have w11 : wrp .i64 (edgeN qs i + 1 - q.b.tmod 15 + (1 + q.a.tmod 12)) = edgeN qs i + 1 - q.b.tmod 15 + (1 + q.a.tmod 12) := wrp64 (by omega)
  have n1 : ¬ (10 - (1 + q.c.tmod 9) = 0) := by omega
  have hlen := hcells_length (m := m) h.l
  have hat := hcells_at (m := m) hq
  have hoff : 1 + i * 4 + 4 ≤ 21 := by omega
  have hst : stN qs i = ⟨1 + q.a.tmod 12, edgeN qs i + 1 - q.b.tmod 15, 1 + q.c.tmod 9, 1 + q.c.tmod 9 + q.d.tmod (10 - (1 + q.c.tmod 9))⟩ := by rw [stN, eq]; rfl
  have hed : edgeN qs (i + 1) = edgeN qs i + 1 - q.b.tmod 15 + (1 + q.a.tmod 12) := by simp only [edgeN, eq]; rfl
  have hin : (i : Int) < n := by omega
  rw [hst, hed]
  cases out with
  | nil =>
    simp only [poutV, poutH, List.nil_append]
    simp only [seqX_normal, bindR_some, regX_some, condX_bool, blockX_normal, Bool.not_true, Bool.not_false, run_nil, run_cons, fget_cons', fput_cons', forget_nil, forget_cons', hget_nil', hget_cons', hset_nil', hset_cons', gcM_n, gcM_c, stp, opBox, justO, just, Rd.bind, Rd.run, Rd.opt, upds, acells, zeroCells, tsz, elemT, rdCells, fieldOf, aFieldAddr, aLoad, aStore, opStore, fresh, aIndexAddr, aNum, aBuiltin, aBin, aInt, putC, evO, Nat.reduceAdd, Nat.reduceMul, Nat.reduceLT, Nat.reduceGT, Nat.reduceBEq, Nat.reduceEqDiff, Nat.reduceLeDiff, ↓reduceIte, reduceCtorEq, liveBlk_eq, Nat.zero_add, Nat.add_zero, ne_eq, List.nil_append, List.getElem?_toArray, rtX_some, addT_some, drX_some, runT_nil, runT_cons, neat_eq, descF_nil', descF_cons', ascH_nil', ascH_cons', stpT, Rd.foot, writing, touching, Tr.empty, dynPairs, apartT, disj, List.isEmpty_nil, List.isEmpty_cons, List.map_nil, List.map_cons, Bool.not_false, Bool.not_true, Bool.true_or, Bool.or_true, Bool.or_false, Bool.and_true, Bool.true_and, Bool.and_self, decide_true, not_true_eq_false, or_self, aBuildSlice, partsOf, fillA, repC, frz, isSliceT, aAppend, srcOf, window, putD_some, putD_none, and_true, Int.natCast_nonneg, Int.ofNat_lt, Int.toNat_natCast, snaps, snap, List.append_nil, Option.map_some, List.elem_cons, List.elem_nil, List.length_cons, List.length_nil, List.getElem?_cons_zero, List.getElem?_cons_succ, List.drop_zero, List.take_succ_cons, List.take_nil, List.set_cons_zero, List.set_cons_succ, T_3, T_22, T_45, T_5, T_67, T_133, x31_12, r31_4_l, s31_4_0, x31_15, x31_16, x31_14, x31_20, r31_5_l, s31_5_0, s31_5_1, s31_5_2, s31_5_3, x31_22, r31_6_l, s31_6_0, s31_6_1, s31_6_2, s31_6_3, s31_6_4, s31_6_5, s31_6_6, s31_6_7, s31_6_8, s31_6_9, s31_6_10, s31_6_11, s31_6_12, s31_6_13, s31_6_14, s31_6_15, s31_6_16, s31_6_17, s31_6_18, s31_6_19, x31_24, r31_7_l, r31_7_dr, r31_7_an, s31_7_0, s31_7_1, s31_7_2, s31_7_3, s31_7_4, s31_7_5, s31_7_6, s31_7_7, s31_7_8, s31_7_9, s31_7_10, s31_7_11, x31_26, r31_8_l, s31_8_0, s31_8_1, s31_8_2, s31_8_3, s31_8_4, x31_27, r31_9_l, s31_9_0, s31_9_1, s31_9_2, s31_9_3, s31_9_4, s31_9_5, x31_25, x31_23, x31_21, x31_19, x31_18, x31_28, r31_10_l, s31_10_0, s31_10_1, x31_17, x31_13, x31_11, hi, hlen, hat, hoff, w1, w2, w3, w4, w5, w6, w7, w8, w9, w10, w11, n1, aConv, aBuild, placeF, fillA, List.all_cons, List.all_nil, List.getD_cons_zero, List.getD_cons_succ, beq_self_eq_true, Int.reduceLE, Int.reduceLT, Int.reduceToNat, cl4, Int.le_refl, Int.reduceEq, wrp_succ (show i < 1000000 by omega), room44 (show 1 ≤ 1000000 by omega)]
    refine ⟨_, rfl, ?_⟩
    obtain ⟨_, hl, _⟩ := h
    match qs, hl with
    | [_, _, _, _, _], _ => rfl
  | cons a o =>
    have hlen2 : (pcells (a :: o)).length = (o.length + 1) * 4 := by rw [pcells_length]; rfl
    have htake : List.take ((o.length + 1) * 4) (pcells (a :: o)) = pcells (a :: o) := List.take_of_length_le (by omega)
    have hno : ¬ o.length + 1 + 1 ≤ o.length + 1 := by omega
    have ho2 : o.length + 1 = i := by simpa using ho
    have hsn := pcells_snoc (a :: o) ⟨1 + q.a.tmod 12, edgeN qs i + 1 - q.b.tmod 15, 1 + q.c.tmod 9, 1 + q.c.tmod 9 + q.d.tmod (10 - (1 + q.c.tmod 9))⟩
    simp only [sc] at hsn
    have hl2 : ∀ s : Stone, (o ++ [s]).length = o.length + 1 := fun s => by simp
    simp only [poutV, poutH, List.cons_append, hl2]
    simp only [seqX_normal, bindR_some, regX_some, condX_bool, blockX_normal, Bool.not_true, Bool.not_false, run_nil, run_cons, fget_cons', fput_cons', forget_nil, forget_cons', hget_nil', hget_cons', hset_cons', gcM_n, gcM_c, stp, opBox, justO, just, Rd.bind, Rd.run, Rd.opt, upds, acells, zeroCells, tsz, elemT, rdCells, fieldOf, aFieldAddr, aLoad, aStore, opStore, fresh, aIndexAddr, aNum, aBuiltin, aBin, aInt, putC, evO, Nat.reduceAdd, Nat.reduceMul, Nat.reduceLT, Nat.reduceGT, Nat.reduceBEq, Nat.reduceEqDiff, Nat.reduceLeDiff, ↓reduceIte, reduceCtorEq, liveBlk_eq, Nat.zero_add, Nat.add_zero, ne_eq, List.nil_append, List.getElem?_toArray, rtX_some, addT_some, drX_some, runT_nil, runT_cons, neat_eq, descF_nil', descF_cons', ascH_nil', ascH_cons', stpT, Rd.foot, writing, touching, Tr.empty, dynPairs, apartT, disj, List.isEmpty_nil, List.isEmpty_cons, List.map_nil, List.map_cons, Bool.not_false, Bool.not_true, Bool.true_or, Bool.or_true, Bool.or_false, Bool.and_true, Bool.true_and, Bool.and_self, decide_true, not_true_eq_false, or_self, aBuildSlice, partsOf, fillA, repC, frz, isSliceT, aAppend, srcOf, window, putD_some, putD_none, and_true, Int.natCast_nonneg, Int.ofNat_lt, Int.toNat_natCast, snaps, snap, List.append_nil, Option.map_some, List.elem_cons, List.elem_nil, List.length_cons, List.length_nil, List.getElem?_cons_zero, List.getElem?_cons_succ, List.drop_zero, List.take_succ_cons, List.take_nil, List.set_cons_zero, List.set_cons_succ, T_3, T_22, T_45, T_5, T_67, T_133, x31_12, r31_4_l, s31_4_0, x31_15, x31_16, x31_14, x31_20, r31_5_l, s31_5_0, s31_5_1, s31_5_2, s31_5_3, x31_22, r31_6_l, s31_6_0, s31_6_1, s31_6_2, s31_6_3, s31_6_4, s31_6_5, s31_6_6, s31_6_7, s31_6_8, s31_6_9, s31_6_10, s31_6_11, s31_6_12, s31_6_13, s31_6_14, s31_6_15, s31_6_16, s31_6_17, s31_6_18, s31_6_19, x31_24, r31_7_l, r31_7_dr, r31_7_an, s31_7_0, s31_7_1, s31_7_2, s31_7_3, s31_7_4, s31_7_5, s31_7_6, s31_7_7, s31_7_8, s31_7_9, s31_7_10, s31_7_11, x31_26, r31_8_l, s31_8_0, s31_8_1, s31_8_2, s31_8_3, s31_8_4, x31_27, r31_9_l, s31_9_0, s31_9_1, s31_9_2, s31_9_3, s31_9_4, s31_9_5, x31_25, x31_23, x31_21, x31_19, x31_18, x31_28, r31_10_l, s31_10_0, s31_10_1, x31_17, x31_13, x31_11, hi, hlen, hat, hoff, w1, w2, w3, w4, w5, w6, w7, w8, w9, w10, w11, n1, aConv, aBuild, placeF, fillA, List.all_cons, List.all_nil, List.getD_cons_zero, List.getD_cons_succ, beq_self_eq_true, Int.reduceLE, Int.reduceLT, Int.reduceToNat, cl4, Int.le_refl, Int.reduceEq, wrp_succ (show i < 1000000 by omega), room44 (show o.length + 1 + 1 ≤ 1000000 by omega), hlen2, hno, htake, hsn, Nat.le_refl, List.cons_append]
    refine ⟨_, rfl, ?_⟩
    obtain ⟨_, hl, _⟩ := h
    match qs, hl with
    | [_, _, _, _, _], _ => rfl
theorem made_run {C : Callee} {m : Int} {qs : List Q} (h : HOk m qs) : bodyA E C fg 1000 31 [.agg (hcells m qs), .int .i64 5] [] 0 = some (poutV 55 (madeL m qs), (2, ⟨.box, hcells m qs⟩) :: poutH 55 (madeL m qs)) := by
  obtain ⟨n1, n2, n3⟩ := nOf_b h
  have hloop := iter_all (f := execA E C (fg 31) 0 63 [] 1000 c31_11) (hd := headA []) (fun i => ([(19, .int .i64 i), (18, .int .i64 (nOf m)), (17, .ref 2 1 (nOf m) 5 21 4 true), (6, .int .i64 (edgeN qs i)), (5, poutV 55 (madeI qs i))], (2, ⟨.box, hcells m qs⟩) :: poutH 55 (madeI qs i))) (nOf m) 1000 0
    ([(19, .int .i64 0), (18, .int .i64 (nOf m)), (17, .ref 2 1 (nOf m) 5 21 4 true), (6, .int .i64 0), (5, .nilsl)], [(2, ⟨.box, hcells m qs⟩)]) (by
      obtain ⟨_, hl, _⟩ := h
      match qs, hl with
      | [_, _, _, _, _], _ => rfl) (by omega) (fun i h1 h2 => by
      have := made_round (C := C) h (nOf m) i n2 (by omega) (madeI qs i) (madeI_length qs i)
      rw [madeI_succ]
      exact this) (e := .exit 0) (se := ([(20, .bool false), (19, .int .i64 (nOf m)), (18, .int .i64 (nOf m)), (17, .ref 2 1 (nOf m) 5 21 4 true), (6, .int .i64 (edgeN qs (nOf m))), (5, poutV 55 (madeL m qs))], (2, ⟨.box, hcells m qs⟩) :: poutH 55 (madeL m qs))) (by
      rw [Nat.zero_add]
      have e : madeI qs (nOf m) = madeL m qs := rfl
      simp only [e]
      simp only [seqX_normal, seqX_exit, bindR_some, regX_some, condX_bool, run_nil, run_cons, fget_cons', fput_cons', forget_nil, forget_cons', gcM_n, stp, just, Rd.bind, Rd.run, Rd.opt, upds, aBin, aInt, Nat.reduceEqDiff, Nat.reduceLeDiff, ↓reduceIte, decide_false, putD_some, List.elem_nil, x31_12, r31_4_l, s31_4_0, x31_15, x31_16, x31_14, x31_13, x31_11, Int.lt_irrefl, decide_false, Bool.false_eq_true]) (by simp)
  have hlen := hcells_length (m := m) h.l
  have w1 : wrp .i64 m = m := wrp64 (by have := h.m; omega)
  have w2 : wrp .i64 (1 + m.tmod 5) = (nOf m : Int) := by rw [n3]; exact wrp64 (by omega)
  have hc : (hcells m qs)[0]? = some (.int .u8 m) := rfl
  have hn5 : (nOf m : Int) ≤ 5 := by omega
  simp only [seqX_normal, bindR_some, regX_some, blockX_exit, bodyX_ret, run_nil, run_cons, fget_cons', fput_nil, fput_cons', forget_nil, forget_cons', hget_nil', hget_cons', hset_nil', frame0, gcM_n, gcM_c, stp, opBox, justO, just, Rd.bind, Rd.run, Rd.opt, upds, acells, tsz, rdCells, fieldOf, aFieldAddr, aLoad, resA, resL, fresh, aNum, aLen, aBuiltin, aBin, aInt, Nat.reduceAdd, Nat.reduceMul, Nat.reduceLT, Nat.reduceBEq, Nat.reduceEqDiff, Nat.reduceLeDiff, ↓reduceIte, reduceCtorEq, liveBlk_eq, Nat.zero_add, Nat.add_zero, List.getElem?_toArray, putD_some, and_true, Int.natCast_nonneg, Int.toNat_natCast, Option.map_some, List.elem_cons, List.elem_nil, List.getElem?_cons_zero, List.getElem?_cons_succ, T_3, T_5, T_67, T_68, T_70, T_133, x31_1, r31_0_l, s31_0_0, s31_0_1, x31_3, r31_1_l, s31_1_0, x31_5, r31_2_l, s31_2_0, x31_8, r31_3_l, s31_3_0, s31_3_1, s31_3_2, s31_3_3, s31_3_4, s31_3_5, s31_3_6, s31_3_7, s31_3_8, s31_3_9, x31_10, x31_9, x31_7, x31_30, r31_11_l, s31_11_0, s31_11_1, x31_31, x31_29, x31_6, x31_4, x31_2, x31_0, b_31, hlen, w1, w2, hc, hn5, aConv, aSlice, aBounds, bMax, bHigh, bLow, cl5, Int.reduceEq, Option.getD_none, Nat.zero_mul, Nat.sub_zero, Nat.reduceMul, hloop]
theorem made_call {d : Nat} {site : Nat → Nat} {seen : List Nat} {m : Int} {qs : List Q} (h : HOk m qs) :
    aBack site true seen (thaw (callA E fg 1000 (d + 1)) 31 [.agg (hcells m qs), .int .i64 5] [] 0) = back1 (site 0) seen (fun k => .ref k 0 (nOf m) (nOf m) (nOf m * 4) 4 false) ⟨.row, pcells (madeL m qs)⟩ := by
  obtain ⟨n1, n2, n3⟩ := nOf_b h
  have hl : (madeL m qs).length = nOf m := madeI_length _ _
  obtain ⟨e1, e2⟩ := poutV_ne (id := 55) (l := madeL m qs) (by omega)
  have e := made_run (C := callA E fg 1000 d) h
  rw [e1, e2, hl] at e
  have := aBack_ref (site := site) (seen := seen) (n := nOf m) (sz := 4) (id := 55) (cells := pcells (madeL m qs)) (H' := [(2, ⟨.box, hcells m qs⟩), (55, ⟨.row, pcells (madeL m qs)⟩)]) (C := callA E fg 1000 (d + 1)) (f := 31) (args := [.agg (hcells m qs), .int .i64 5]) (by rw [pcells_length, hl]; exact e) (by rw [hget_cons', hget_cons']; simp)
  rw [pcells_length, hl] at this
  exact this
end Go.AM.Ytmhbnflnlglljaa
end

section
namespace Go.AM.Ytmhbnflnlglljaa
open Go Go.AM
set_option maxRecDepth 100000
set_option maxHeartbeats 4000000
theorem weigh_at : ∀ {l : List Stone} {ws : List Int}, weighL l ws = 0 → ∀ {i : Nat} {s : Stone} {w : Int}, l[i]? = some s → ws[i]? = some w → s.least ≤ w ∧ w ≤ s.most
  | [], _, _, i, s, w, h, _ => by simp at h
  | _ :: _, [], _, i, s, w, _, h => by simp at h
  | a :: l, b :: ws, h, i, s, w, h1, h2 => by
    simp only [weighL] at h
    split at h
    · simp at h
    · split at h
      · simp at h
      · cases i with
        | zero => simp at h1 h2; subst h1; subst h2; omega
        | succ i => exact weigh_at h (by simpa using h1) (by simpa using h2)
theorem weighE_at {l : List Stone} {ws : List Int} (hw : weighE l ws = 0) {i : Nat} {s : Stone} {w : Int} (h1 : l[i]? = some s) (h2 : ws[i]? = some w) : s.least ≤ w ∧ w ≤ s.most := by
  unfold weighE at hw
  split at hw
  · exact weigh_at hw h1 h2
  · simp at hw
end Go.AM.Ytmhbnflnlglljaa
end

section
namespace Go.AM.Ytmhbnflnlglljaa
open Go Go.AM
set_option maxRecDepth 100000
variable {C : Callee} {B N : Nat} {E0 : AHeap} (φ : AFr) (H : AHeap) (s : St)
noncomputable def c36_0 : Code := kBody Proofs.Try.f36
noncomputable def c36_1 : Code := kL c36_0
noncomputable def r36_0 : Array Oper := kO c36_1
noncomputable def o36_0_0 : Oper := opN r36_0 0
noncomputable def o36_0_1 : Oper := opN r36_0 1
theorem x36_1 : execA E C (fg 36) B 34 E0 N c36_1 s = regX (runA E C B 34 r36_0 r36_0.toList s) (fun s => gcM E0 [1, 4] (forget s.1 [1, 4], s.2)) := x_reg (ops := r36_0) (by rfl) (by rfl) s
theorem r36_0_l : r36_0.toList = [o36_0_0, o36_0_1] := nrfl rfl
theorem s36_0_0 : stepA E C B 34 r36_0 o36_0_0 (φ, H) = stp (some 3) φ H (opBox (B + 3) (acells (fget φ 1))) := nrfl rfl
theorem s36_0_1 : stepA E C B 34 r36_0 o36_0_1 (φ, H) = some (fput φ 4 (.nilsl), H) := nrfl rfl
noncomputable def c36_2 : Code := kR c36_0
noncomputable def c36_3 : Code := kL c36_2
noncomputable def r36_1 : Array Oper := kO c36_3
noncomputable def o36_1_0 : Oper := opN r36_1 0
theorem x36_3 : execA E C (fg 36) B 34 E0 N c36_3 s = regX (runA E C B 34 r36_1 r36_1.toList s) (fun s => gcM E0 [] (forget s.1 [], s.2)) := x_reg (ops := r36_1) (by rfl) (by rfl) s
theorem r36_1_l : r36_1.toList = [o36_1_0] := nrfl rfl
theorem s36_1_0 : stepA E C B 34 r36_1 o36_1_0 (φ, H) = some (fput φ 5 (.nilsl), H) := nrfl rfl
noncomputable def c36_4 : Code := kR c36_2
noncomputable def c36_5 : Code := kL c36_4
noncomputable def c36_6 : Code := kL c36_5
noncomputable def r36_2 : Array Oper := kO c36_6
noncomputable def o36_2_0 : Oper := opN r36_2 0
noncomputable def o36_2_1 : Oper := opN r36_2 1
noncomputable def o36_2_2 : Oper := opN r36_2 2
theorem x36_6 : execA E C (fg 36) B 34 E0 N c36_6 s = regX (runA E C B 34 r36_2 r36_2.toList s) (fun s => gcM E0 [0] (forget s.1 [0], s.2)) := x_reg (ops := r36_2) (by rfl) (by rfl) s
theorem r36_2_l : r36_2.toList = [o36_2_0, o36_2_1, o36_2_2] := nrfl rfl
theorem s36_2_0 : stepA E C B 34 r36_2 o36_2_0 (φ, H) = some (fput φ 8 (fget φ 0), H) := nrfl rfl
theorem s36_2_1 : stepA E C B 34 r36_2 o36_2_1 (φ, H) = stp (some 9) φ H (aBuiltin E.T (B + 9) .len #[22] [(fget φ 8)]) := nrfl rfl
theorem s36_2_2 : stepA E C B 34 r36_2 o36_2_2 (φ, H) = some (fput φ 10 (.int .i64 0), H) := nrfl rfl
noncomputable def c36_7 : Code := kR c36_5
noncomputable def c36_8 : Code := kB c36_7
noncomputable def c36_9 : Code := kB c36_8
noncomputable def c36_10 : Code := kL c36_9
noncomputable def r36_3 : Array Oper := kO c36_10
noncomputable def o36_3_0 : Oper := opN r36_3 0
theorem x36_10 : execA E C (fg 36) B 34 E0 N c36_10 s = regX (runA E C B 34 r36_3 r36_3.toList s) (fun s => gcM E0 [] (forget s.1 [], s.2)) := x_reg (ops := r36_3) (by rfl) (by rfl) s
theorem r36_3_l : r36_3.toList = [o36_3_0] := nrfl rfl
theorem s36_3_0 : stepA E C B 34 r36_3 o36_3_0 (φ, H) = stp (some 11) φ H (just (aBin E.T .lss 3 (fget φ 10) (fget φ 9))) := nrfl rfl
noncomputable def c36_11 : Code := kR c36_9
noncomputable def c36_12 : Code := kL c36_11
noncomputable def c36_13 : Code := kT c36_12
theorem x36_13 : execA E C (fg 36) B 34 E0 N c36_13 s = some (.normal, s) := x_skip (by rfl) s
noncomputable def c36_14 : Code := kE c36_12
theorem x36_14 : execA E C (fg 36) B 34 E0 N c36_14 s = some (.exit 0, s) := x_exit (by rfl) s
theorem x36_12 : execA E C (fg 36) B 34 E0 N c36_12 (φ, H) = condX (fget φ 11) (execA E C (fg 36) B 34 E0 N c36_13 (φ, H)) (execA E C (fg 36) B 34 E0 N c36_14 (φ, H)) := x_cond (by rfl) _
noncomputable def c36_15 : Code := kR c36_11
noncomputable def c36_16 : Code := kL c36_15
noncomputable def c36_17 : Code := kB c36_16
noncomputable def c36_18 : Code := kL c36_17
noncomputable def r36_4 : Array Oper := kO c36_18
noncomputable def o36_4_0 : Oper := opN r36_4 0
noncomputable def o36_4_1 : Oper := opN r36_4 1
noncomputable def o36_4_2 : Oper := opN r36_4 2
noncomputable def o36_4_3 : Oper := opN r36_4 3
noncomputable def o36_4_4 : Oper := opN r36_4 4
noncomputable def o36_4_5 : Oper := opN r36_4 5
theorem x36_18 : execA E C (fg 36) B 34 E0 N c36_18 s = regX (runA E C B 34 r36_4 r36_4.toList s) (fun s => gcM E0 [11, 12, 13, 14] (forget s.1 [11, 12, 13, 14], s.2)) := x_reg (ops := r36_4) (by rfl) (by rfl) s
theorem r36_4_l : r36_4.toList = [o36_4_0, o36_4_1, o36_4_2, o36_4_3, o36_4_4, o36_4_5] := nrfl rfl
theorem s36_4_0 : stepA E C B 34 r36_4 o36_4_0 (φ, H) = some (fput φ 12 (fget φ 10), H) := nrfl rfl
theorem s36_4_1 : stepA E C B 34 r36_4 o36_4_1 (φ, H) = stp (some 13) φ H (just (aIndexAddr E.T 22 (fget φ 8) (fget φ 10))) := nrfl rfl
theorem s36_4_2 : stepA E C B 34 r36_4 o36_4_2 (φ, H) = stp (some 14) φ H (just (aLoad E.T 45 (fget φ 13))) := nrfl rfl
theorem s36_4_3 : stepA E C B 34 r36_4 o36_4_3 (φ, H) = stp (some 7) φ H (opBox (B + 7) (zeroCells E.T 45)) := nrfl rfl
theorem s36_4_4 : stepA E C B 34 r36_4 o36_4_4 (φ, H) = some (fput φ 6 (fget φ 12), H) := nrfl rfl
theorem s36_4_5 : stepA E C B 34 r36_4 o36_4_5 (φ, H) = stp none φ H (opStore E.T 45 (fget φ 7) (fget φ 14)) := nrfl rfl
noncomputable def c36_19 : Code := kR c36_17
noncomputable def r36_5 : Array Oper := kO c36_19
noncomputable def o36_5_0 : Oper := opN r36_5 0
noncomputable def o36_5_1 : Oper := opN r36_5 1
noncomputable def o36_5_2 : Oper := opN r36_5 2
noncomputable def o36_5_3 : Oper := opN r36_5 3
noncomputable def o36_5_4 : Oper := opN r36_5 4
noncomputable def o36_5_5 : Oper := opN r36_5 5
noncomputable def o36_5_6 : Oper := opN r36_5 6
noncomputable def o36_5_7 : Oper := opN r36_5 7
noncomputable def o36_5_8 : Oper := opN r36_5 8
noncomputable def o36_5_9 : Oper := opN r36_5 9
noncomputable def o36_5_10 : Oper := opN r36_5 10
noncomputable def o36_5_11 : Oper := opN r36_5 11
noncomputable def o36_5_12 : Oper := opN r36_5 12
noncomputable def o36_5_13 : Oper := opN r36_5 13
noncomputable def o36_5_14 : Oper := opN r36_5 14
noncomputable def o36_5_15 : Oper := opN r36_5 15
noncomputable def o36_5_16 : Oper := opN r36_5 16
noncomputable def o36_5_17 : Oper := opN r36_5 17
theorem x36_19 : execA E C (fg 36) B 34 E0 N c36_19 s = regX (drawA E C B 34 r36_5 s) (fun s => gcM E0 [6, 7, 15, 16, 17, 18, 19, 20, 21, 22, 23, 24, 25, 26, 27, 28, 29, 30, 31] (forget s.1 [6, 7, 15, 16, 17, 18, 19, 20, 21, 22, 23, 24, 25, 26, 27, 28, 29, 30, 31], s.2)) := x_draw (ops := r36_5) (by rfl) (by rfl) s
theorem r36_5_l : r36_5.toList = [o36_5_0, o36_5_1, o36_5_2, o36_5_3, o36_5_4, o36_5_5, o36_5_6, o36_5_7, o36_5_8, o36_5_9, o36_5_10, o36_5_11, o36_5_12, o36_5_13, o36_5_14, o36_5_15, o36_5_16, o36_5_17] := nrfl rfl
theorem r36_5_st : statOk r36_5 = true := by kernel_rfl
theorem r36_5_dr : drawA E C B 34 r36_5 s = if neat 34 s = true then drX r36_5 (runT E C B 34 r36_5 r36_5.toList 0 s) else none := draw_eq r36_5_st s
theorem r36_5_an (l : List (Nat × Tr)) : dynOk r36_5 l = (!writing l || dynPairs [[], [], [1], [], [3], [3, 4], [3, 4, 5], [], [7], [], [9], [7, 8, 9, 10], [7, 8, 9, 10, 11], [3, 4, 5, 6, 7, 8, 9, 10, 11, 12], [1, 2, 3, 4, 5, 6, 7, 8, 9, 10, 11, 12, 13], [1, 2, 3, 4, 5, 6, 7, 8, 9, 10, 11, 12, 13, 14], [0, 1, 2, 3, 4, 5, 6, 7, 8, 9, 10, 11, 12, 13, 14, 15], [0, 1, 2, 3, 4, 5, 6, 7, 8, 9, 10, 11, 12, 13, 14, 15, 16]] (touching l)) := dynOk_eq (by kernel_rfl) l
theorem s36_5_0 : stepT E C B 34 r36_5 o36_5_0 (φ, H) = some ((fput φ 15 (fget φ 5), H), ⟨false, [], []⟩) := stT_go rfl (goT_mv rfl rfl)
theorem s36_5_1 : stepT E C B 34 r36_5 o36_5_1 (φ, H) = stpT (some 16) φ H (just (aFieldAddr E.T 45 (fget φ 7) 2)) := stT_go rfl (goT_R rfl rfl)
theorem s36_5_2 : stepT E C B 34 r36_5 o36_5_2 (φ, H) = stpT (some 17) φ H (just (aLoad E.T 3 (fget φ 16))) := stT_go rfl (goT_R rfl rfl)
theorem s36_5_3 : stepT E C B 34 r36_5 o36_5_3 (φ, H) = some ((fput φ 18 (fget φ 6), H), ⟨false, [], []⟩) := stT_go rfl (goT_mv rfl rfl)
theorem s36_5_4 : stepT E C B 34 r36_5 o36_5_4 (φ, H) = stpT (some 19) φ H (just (aIndexAddr E.T 71 (fget φ 3) (fget φ 18))) := stT_go rfl (goT_R rfl rfl)
theorem s36_5_5 : stepT E C B 34 r36_5 o36_5_5 (φ, H) = stpT (some 20) φ H (just (aLoad E.T 5 (fget φ 19))) := stT_go rfl (goT_R rfl rfl)
theorem s36_5_6 : stepT E C B 34 r36_5 o36_5_6 (φ, H) = stpT (some 21) φ H (justO (aConv E.T 5 3 (fget φ 20))) := stT_go rfl (goT_R rfl rfl)
theorem s36_5_7 : stepT E C B 34 r36_5 o36_5_7 (φ, H) = stpT (some 22) φ H (just (aFieldAddr E.T 45 (fget φ 7) 3)) := stT_go rfl (goT_R rfl rfl)
theorem s36_5_8 : stepT E C B 34 r36_5 o36_5_8 (φ, H) = stpT (some 23) φ H (just (aLoad E.T 3 (fget φ 22))) := stT_go rfl (goT_R rfl rfl)
theorem s36_5_9 : stepT E C B 34 r36_5 o36_5_9 (φ, H) = stpT (some 24) φ H (just (aFieldAddr E.T 45 (fget φ 7) 2)) := stT_go rfl (goT_R rfl rfl)
theorem s36_5_10 : stepT E C B 34 r36_5 o36_5_10 (φ, H) = stpT (some 25) φ H (just (aLoad E.T 3 (fget φ 24))) := stT_go rfl (goT_R rfl rfl)
theorem s36_5_11 : stepT E C B 34 r36_5 o36_5_11 (φ, H) = stpT (some 26) φ H (just (aBin E.T .sub 3 (fget φ 23) (fget φ 25))) := stT_go rfl (goT_R rfl rfl)
theorem s36_5_12 : stepT E C B 34 r36_5 o36_5_12 (φ, H) = stpT (some 27) φ H (just (aBin E.T .add 3 (fget φ 26) (.int .i64 1))) := stT_go rfl (goT_R rfl rfl)
theorem s36_5_13 : stepT E C B 34 r36_5 o36_5_13 (φ, H) = stpT (some 28) φ H (just (aBin E.T .rem 3 (fget φ 21) (fget φ 27))) := stT_go rfl (goT_R rfl rfl)
theorem s36_5_14 : stepT E C B 34 r36_5 o36_5_14 (φ, H) = stpT (some 29) φ H (just (aBin E.T .add 3 (fget φ 17) (fget φ 28))) := stT_go rfl (goT_R rfl rfl)
theorem s36_5_15 : stepT E C B 34 r36_5 o36_5_15 (φ, H) = stpT (some 30) φ H (aBuildSlice E.T (B + 30) 47 1 (evO E φ) [(0, Operand.tmp 29)]) := stT_go rfl (goT_R rfl rfl)
theorem s36_5_16 : stepT E C B 34 r36_5 o36_5_16 (φ, H) = stpT (some 31) φ H (aBuiltin E.T (B + 31) .append #[47, 47] [(fget φ 15), (fget φ 30)]) := stT_go rfl (goT_R rfl rfl)
theorem s36_5_17 : stepT E C B 34 r36_5 o36_5_17 (φ, H) = some ((fput φ 5 (fget φ 31), H), ⟨false, [], []⟩) := stT_go rfl (goT_mv rfl rfl)
theorem x36_17 : execA E C (fg 36) B 34 E0 N c36_17 s = seqX (execA E C (fg 36) B 34 E0 N c36_18 s) (execA E C (fg 36) B 34 E0 N c36_19) := x_seq (by rfl) s
theorem x36_16 : execA E C (fg 36) B 34 E0 N c36_16 s = blockX 1 (fun s => (forget s.1 [], s.2)) (execA E C (fg 36) B 34 E0 N c36_17 s) := x_block (by rfl) (by rfl) s
noncomputable def c36_20 : Code := kR c36_15
noncomputable def r36_6 : Array Oper := kO c36_20
noncomputable def o36_6_0 : Oper := opN r36_6 0
noncomputable def o36_6_1 : Oper := opN r36_6 1
theorem x36_20 : execA E C (fg 36) B 34 E0 N c36_20 s = regX (runA E C B 34 r36_6 r36_6.toList s) (fun s => gcM E0 [32] (forget s.1 [32], s.2)) := x_reg (ops := r36_6) (by rfl) (by rfl) s
theorem r36_6_l : r36_6.toList = [o36_6_0, o36_6_1] := nrfl rfl
theorem s36_6_0 : stepA E C B 34 r36_6 o36_6_0 (φ, H) = stp (some 32) φ H (just (aBin E.T .add 3 (fget φ 10) (.int .i64 1))) := nrfl rfl
theorem s36_6_1 : stepA E C B 34 r36_6 o36_6_1 (φ, H) = some (fput φ 10 (fget φ 32), H) := nrfl rfl
theorem x36_15 : execA E C (fg 36) B 34 E0 N c36_15 s = seqX (execA E C (fg 36) B 34 E0 N c36_16 s) (execA E C (fg 36) B 34 E0 N c36_20) := x_seq (by rfl) s
theorem x36_11 : execA E C (fg 36) B 34 E0 N c36_11 s = seqX (execA E C (fg 36) B 34 E0 N c36_12 s) (execA E C (fg 36) B 34 E0 N c36_15) := x_seq (by rfl) s
theorem x36_9 : execA E C (fg 36) B 34 E0 N c36_9 s = seqX (execA E C (fg 36) B 34 E0 N c36_10 s) (execA E C (fg 36) B 34 E0 N c36_11) := x_seq (by rfl) s
theorem x36_8 : execA E C (fg 36) B 34 E0 N c36_8 s = iterA (execA E C (fg 36) B 34 E0 N c36_9) (headA E0) N s := x_loop (by rfl) s
theorem x36_7 : execA E C (fg 36) B 34 E0 N c36_7 s = blockX 0 (fun s => (forget s.1 [3, 8, 9, 10, 11], s.2)) (execA E C (fg 36) B 34 E0 N c36_8 s) := x_block (by rfl) (by rfl) s
theorem x36_5 : execA E C (fg 36) B 34 E0 N c36_5 s = seqX (execA E C (fg 36) B 34 E0 N c36_6 s) (execA E C (fg 36) B 34 E0 N c36_7) := x_seq (by rfl) s
noncomputable def c36_21 : Code := kR c36_4
noncomputable def c36_22 : Code := kL c36_21
noncomputable def r36_7 : Array Oper := kO c36_22
noncomputable def o36_7_0 : Oper := opN r36_7 0
noncomputable def o36_7_1 : Oper := opN r36_7 1
theorem x36_22 : execA E C (fg 36) B 34 E0 N c36_22 s = regX (runA E C B 34 r36_7 r36_7.toList s) (fun s => gcM E0 [5, 33] (forget s.1 [5, 33], s.2)) := x_reg (ops := r36_7) (by rfl) (by rfl) s
theorem r36_7_l : r36_7.toList = [o36_7_0, o36_7_1] := nrfl rfl
theorem s36_7_0 : stepA E C B 34 r36_7 o36_7_0 (φ, H) = some (fput φ 33 (fget φ 5), H) := nrfl rfl
theorem s36_7_1 : stepA E C B 34 r36_7 o36_7_1 (φ, H) = some (fput φ 4 (fget φ 33), H) := nrfl rfl
noncomputable def c36_23 : Code := kR c36_21
theorem x36_23 : execA E C (fg 36) B 34 E0 N c36_23 s = some (.ret, s) := x_ret (by rfl) s
theorem x36_21 : execA E C (fg 36) B 34 E0 N c36_21 s = seqX (execA E C (fg 36) B 34 E0 N c36_22 s) (execA E C (fg 36) B 34 E0 N c36_23) := x_seq (by rfl) s
theorem x36_4 : execA E C (fg 36) B 34 E0 N c36_4 s = seqX (execA E C (fg 36) B 34 E0 N c36_5 s) (execA E C (fg 36) B 34 E0 N c36_21) := x_seq (by rfl) s
theorem x36_2 : execA E C (fg 36) B 34 E0 N c36_2 s = seqX (execA E C (fg 36) B 34 E0 N c36_3 s) (execA E C (fg 36) B 34 E0 N c36_4) := x_seq (by rfl) s
theorem x36_0 : execA E C (fg 36) B 34 E0 N c36_0 s = seqX (execA E C (fg 36) B 34 E0 N c36_1 s) (execA E C (fg 36) B 34 E0 N c36_2) := x_seq (by rfl) s
theorem fi_36 : fInfo E 36 = some ⟨34, #[.tmp 4], c36_0⟩ := nrfl rfl
theorem b_36 (args : List AV) : bodyA E C fg N 36 args H B = bodyX E [.tmp 4] (execA E C (fg 36) B 34 H N c36_0 (frame0 args 0 [], H)) := bodyA_eq fi_36 args H
noncomputable def c37_0 : Code := kBody Proofs.Try.f37
noncomputable def c37_1 : Code := kL c37_0
noncomputable def r37_0 : Array Oper := kO c37_1
noncomputable def o37_0_0 : Oper := opN r37_0 0
noncomputable def o37_0_1 : Oper := opN r37_0 1
noncomputable def o37_0_2 : Oper := opN r37_0 2
noncomputable def o37_0_3 : Oper := opN r37_0 3
theorem x37_1 : execA E C (fg 37) B 41 E0 N c37_1 s = regX (runA E C B 41 r37_0 r37_0.toList s) (fun s => gcM E0 [8, 9] (forget s.1 [8, 9], s.2)) := x_reg (ops := r37_0) (by rfl) (by rfl) s
theorem r37_0_l : r37_0.toList = [o37_0_0, o37_0_1, o37_0_2, o37_0_3] := nrfl rfl
theorem s37_0_0 : stepA E C B 41 r37_0 o37_0_0 (φ, H) = some (fput φ 8 (fget φ 0), H) := nrfl rfl
theorem s37_0_1 : stepA E C B 41 r37_0 o37_0_1 (φ, H) = stp (some 9) φ H (aBuiltin E.T (B + 9) .len #[22] [(fget φ 8)]) := nrfl rfl
theorem s37_0_2 : stepA E C B 41 r37_0 o37_0_2 (φ, H) = stp (some 10) φ H (just (aBin E.T .shl 3 (.int .i64 1) (fget φ 9))) := nrfl rfl
theorem s37_0_3 : stepA E C B 41 r37_0 o37_0_3 (φ, H) = some (fput φ 11 (.int .i64 0), H) := nrfl rfl
noncomputable def c37_2 : Code := kR c37_0
noncomputable def c37_3 : Code := kB c37_2
noncomputable def c37_4 : Code := kB c37_3
noncomputable def c37_5 : Code := kL c37_4
noncomputable def r37_1 : Array Oper := kO c37_5
noncomputable def o37_1_0 : Oper := opN r37_1 0
theorem x37_5 : execA E C (fg 37) B 41 E0 N c37_5 s = regX (runA E C B 41 r37_1 r37_1.toList s) (fun s => gcM E0 [] (forget s.1 [], s.2)) := x_reg (ops := r37_1) (by rfl) (by rfl) s
theorem r37_1_l : r37_1.toList = [o37_1_0] := nrfl rfl
theorem s37_1_0 : stepA E C B 41 r37_1 o37_1_0 (φ, H) = stp (some 12) φ H (just (aBin E.T .lss 3 (fget φ 11) (fget φ 10))) := nrfl rfl
noncomputable def c37_6 : Code := kR c37_4
noncomputable def c37_7 : Code := kL c37_6
noncomputable def c37_8 : Code := kT c37_7
theorem x37_8 : execA E C (fg 37) B 41 E0 N c37_8 s = some (.normal, s) := x_skip (by rfl) s
noncomputable def c37_9 : Code := kE c37_7
theorem x37_9 : execA E C (fg 37) B 41 E0 N c37_9 s = some (.exit 0, s) := x_exit (by rfl) s
theorem x37_7 : execA E C (fg 37) B 41 E0 N c37_7 (φ, H) = condX (fget φ 12) (execA E C (fg 37) B 41 E0 N c37_8 (φ, H)) (execA E C (fg 37) B 41 E0 N c37_9 (φ, H)) := x_cond (by rfl) _
noncomputable def c37_10 : Code := kR c37_6
noncomputable def c37_11 : Code := kL c37_10
noncomputable def c37_12 : Code := kB c37_11
noncomputable def c37_13 : Code := kL c37_12
noncomputable def r37_2 : Array Oper := kO c37_13
noncomputable def o37_2_0 : Oper := opN r37_2 0
noncomputable def o37_2_1 : Oper := opN r37_2 1
theorem x37_13 : execA E C (fg 37) B 41 E0 N c37_13 s = regX (runA E C B 41 r37_2 r37_2.toList s) (fun s => gcM E0 [12, 13] (forget s.1 [12, 13], s.2)) := x_reg (ops := r37_2) (by rfl) (by rfl) s
theorem r37_2_l : r37_2.toList = [o37_2_0, o37_2_1] := nrfl rfl
theorem s37_2_0 : stepA E C B 41 r37_2 o37_2_0 (φ, H) = some (fput φ 13 (fget φ 11), H) := nrfl rfl
theorem s37_2_1 : stepA E C B 41 r37_2 o37_2_1 (φ, H) = some (fput φ 4 (fget φ 13), H) := nrfl rfl
noncomputable def c37_14 : Code := kR c37_12
noncomputable def c37_15 : Code := kL c37_14
noncomputable def r37_3 : Array Oper := kO c37_15
noncomputable def o37_3_0 : Oper := opN r37_3 0
theorem x37_15 : execA E C (fg 37) B 41 E0 N c37_15 s = regX (runA E C B 41 r37_3 r37_3.toList s) (fun s => gcM E0 [] (forget s.1 [], s.2)) := x_reg (ops := r37_3) (by rfl) (by rfl) s
theorem r37_3_l : r37_3.toList = [o37_3_0] := nrfl rfl
theorem s37_3_0 : stepA E C B 41 r37_3 o37_3_0 (φ, H) = some (fput φ 5 (.nilsl), H) := nrfl rfl
noncomputable def c37_16 : Code := kR c37_14
noncomputable def c37_17 : Code := kL c37_16
noncomputable def c37_18 : Code := kL c37_17
noncomputable def r37_4 : Array Oper := kO c37_18
noncomputable def o37_4_0 : Oper := opN r37_4 0
noncomputable def o37_4_1 : Oper := opN r37_4 1
noncomputable def o37_4_2 : Oper := opN r37_4 2
theorem x37_18 : execA E C (fg 37) B 41 E0 N c37_18 s = regX (runA E C B 41 r37_4 r37_4.toList s) (fun s => gcM E0 [] (forget s.1 [], s.2)) := x_reg (ops := r37_4) (by rfl) (by rfl) s
theorem r37_4_l : r37_4.toList = [o37_4_0, o37_4_1, o37_4_2] := nrfl rfl
theorem s37_4_0 : stepA E C B 41 r37_4 o37_4_0 (φ, H) = some (fput φ 14 (fget φ 0), H) := nrfl rfl
theorem s37_4_1 : stepA E C B 41 r37_4 o37_4_1 (φ, H) = stp (some 15) φ H (aBuiltin E.T (B + 15) .len #[22] [(fget φ 14)]) := nrfl rfl
theorem s37_4_2 : stepA E C B 41 r37_4 o37_4_2 (φ, H) = some (fput φ 16 (.int .i64 0), H) := nrfl rfl
noncomputable def c37_19 : Code := kR c37_17
noncomputable def c37_20 : Code := kB c37_19
noncomputable def c37_21 : Code := kB c37_20
noncomputable def c37_22 : Code := kL c37_21
noncomputable def r37_5 : Array Oper := kO c37_22
noncomputable def o37_5_0 : Oper := opN r37_5 0
theorem x37_22 : execA E C (fg 37) B 41 E0 N c37_22 s = regX (runA E C B 41 r37_5 r37_5.toList s) (fun s => gcM E0 [] (forget s.1 [], s.2)) := x_reg (ops := r37_5) (by rfl) (by rfl) s
theorem r37_5_l : r37_5.toList = [o37_5_0] := nrfl rfl
theorem s37_5_0 : stepA E C B 41 r37_5 o37_5_0 (φ, H) = stp (some 17) φ H (just (aBin E.T .lss 3 (fget φ 16) (fget φ 15))) := nrfl rfl
noncomputable def c37_23 : Code := kR c37_21
noncomputable def c37_24 : Code := kL c37_23
noncomputable def c37_25 : Code := kT c37_24
theorem x37_25 : execA E C (fg 37) B 41 E0 N c37_25 s = some (.normal, s) := x_skip (by rfl) s
noncomputable def c37_26 : Code := kE c37_24
theorem x37_26 : execA E C (fg 37) B 41 E0 N c37_26 s = some (.exit 2, s) := x_exit (by rfl) s
theorem x37_24 : execA E C (fg 37) B 41 E0 N c37_24 (φ, H) = condX (fget φ 17) (execA E C (fg 37) B 41 E0 N c37_25 (φ, H)) (execA E C (fg 37) B 41 E0 N c37_26 (φ, H)) := x_cond (by rfl) _
noncomputable def c37_27 : Code := kR c37_23
noncomputable def c37_28 : Code := kL c37_27
noncomputable def c37_29 : Code := kB c37_28
noncomputable def c37_30 : Code := kL c37_29
noncomputable def r37_6 : Array Oper := kO c37_30
noncomputable def o37_6_0 : Oper := opN r37_6 0
noncomputable def o37_6_1 : Oper := opN r37_6 1
noncomputable def o37_6_2 : Oper := opN r37_6 2
noncomputable def o37_6_3 : Oper := opN r37_6 3
noncomputable def o37_6_4 : Oper := opN r37_6 4
noncomputable def o37_6_5 : Oper := opN r37_6 5
theorem x37_30 : execA E C (fg 37) B 41 E0 N c37_30 s = regX (runA E C B 41 r37_6 r37_6.toList s) (fun s => gcM E0 [17, 18, 19, 20] (forget s.1 [17, 18, 19, 20], s.2)) := x_reg (ops := r37_6) (by rfl) (by rfl) s
theorem r37_6_l : r37_6.toList = [o37_6_0, o37_6_1, o37_6_2, o37_6_3, o37_6_4, o37_6_5] := nrfl rfl
theorem s37_6_0 : stepA E C B 41 r37_6 o37_6_0 (φ, H) = some (fput φ 18 (fget φ 16), H) := nrfl rfl
theorem s37_6_1 : stepA E C B 41 r37_6 o37_6_1 (φ, H) = stp (some 19) φ H (just (aIndexAddr E.T 22 (fget φ 14) (fget φ 16))) := nrfl rfl
theorem s37_6_2 : stepA E C B 41 r37_6 o37_6_2 (φ, H) = stp (some 20) φ H (just (aLoad E.T 45 (fget φ 19))) := nrfl rfl
theorem s37_6_3 : stepA E C B 41 r37_6 o37_6_3 (φ, H) = stp (some 7) φ H (opBox (B + 7) (zeroCells E.T 45)) := nrfl rfl
theorem s37_6_4 : stepA E C B 41 r37_6 o37_6_4 (φ, H) = some (fput φ 6 (fget φ 18), H) := nrfl rfl
theorem s37_6_5 : stepA E C B 41 r37_6 o37_6_5 (φ, H) = stp none φ H (opStore E.T 45 (fget φ 7) (fget φ 20)) := nrfl rfl
noncomputable def c37_31 : Code := kR c37_29
noncomputable def c37_32 : Code := kL c37_31
noncomputable def r37_7 : Array Oper := kO c37_32
noncomputable def o37_7_0 : Oper := opN r37_7 0
noncomputable def o37_7_1 : Oper := opN r37_7 1
noncomputable def o37_7_2 : Oper := opN r37_7 2
noncomputable def o37_7_3 : Oper := opN r37_7 3
noncomputable def o37_7_4 : Oper := opN r37_7 4
theorem x37_32 : execA E C (fg 37) B 41 E0 N c37_32 s = regX (runA E C B 41 r37_7 r37_7.toList s) (fun s => gcM E0 [6, 21, 22, 23, 24] (forget s.1 [6, 21, 22, 23, 24], s.2)) := x_reg (ops := r37_7) (by rfl) (by rfl) s
theorem r37_7_l : r37_7.toList = [o37_7_0, o37_7_1, o37_7_2, o37_7_3, o37_7_4] := nrfl rfl
theorem s37_7_0 : stepA E C B 41 r37_7 o37_7_0 (φ, H) = some (fput φ 21 (fget φ 4), H) := nrfl rfl
theorem s37_7_1 : stepA E C B 41 r37_7 o37_7_1 (φ, H) = some (fput φ 22 (fget φ 6), H) := nrfl rfl
theorem s37_7_2 : stepA E C B 41 r37_7 o37_7_2 (φ, H) = stp (some 23) φ H (just (aBin E.T .shr 3 (fget φ 21) (fget φ 22))) := nrfl rfl
theorem s37_7_3 : stepA E C B 41 r37_7 o37_7_3 (φ, H) = stp (some 24) φ H (just (aBin E.T .and 3 (fget φ 23) (.int .i64 1))) := nrfl rfl
theorem s37_7_4 : stepA E C B 41 r37_7 o37_7_4 (φ, H) = stp (some 25) φ H (just (aBin E.T .eql 3 (fget φ 24) (.int .i64 1))) := nrfl rfl
noncomputable def c37_33 : Code := kR c37_31
noncomputable def c37_34 : Code := kT c37_33
noncomputable def r37_8 : Array Oper := kO c37_34
noncomputable def o37_8_0 : Oper := opN r37_8 0
noncomputable def o37_8_1 : Oper := opN r37_8 1
noncomputable def o37_8_2 : Oper := opN r37_8 2
noncomputable def o37_8_3 : Oper := opN r37_8 3
noncomputable def o37_8_4 : Oper := opN r37_8 4
noncomputable def o37_8_5 : Oper := opN r37_8 5
theorem x37_34 : execA E C (fg 37) B 41 E0 N c37_34 s = regX (runA E C B 41 r37_8 r37_8.toList s) (fun s => gcM E0 [7, 25, 26, 27, 28, 29, 30] (forget s.1 [7, 25, 26, 27, 28, 29, 30], s.2)) := x_reg (ops := r37_8) (by rfl) (by rfl) s
theorem r37_8_l : r37_8.toList = [o37_8_0, o37_8_1, o37_8_2, o37_8_3, o37_8_4, o37_8_5] := nrfl rfl
theorem s37_8_0 : stepA E C B 41 r37_8 o37_8_0 (φ, H) = some (fput φ 26 (fget φ 5), H) := nrfl rfl
theorem s37_8_1 : stepA E C B 41 r37_8 o37_8_1 (φ, H) = stp (some 27) φ H (just (aFieldAddr E.T 45 (fget φ 7) 3)) := nrfl rfl
theorem s37_8_2 : stepA E C B 41 r37_8 o37_8_2 (φ, H) = stp (some 28) φ H (just (aLoad E.T 3 (fget φ 27))) := nrfl rfl
theorem s37_8_3 : stepA E C B 41 r37_8 o37_8_3 (φ, H) = stp (some 29) φ H (aBuildSlice E.T (B + 29) 47 1 (evO E φ) [(0, Operand.tmp 28)]) := nrfl rfl
theorem s37_8_4 : stepA E C B 41 r37_8 o37_8_4 (φ, H) = stp (some 30) φ H (aBuiltin E.T (B + 30) .append #[47, 47] [(fget φ 26), (fget φ 29)]) := nrfl rfl
theorem s37_8_5 : stepA E C B 41 r37_8 o37_8_5 (φ, H) = some (fput φ 5 (fget φ 30), H) := nrfl rfl
noncomputable def c37_35 : Code := kE c37_33
noncomputable def r37_9 : Array Oper := kO c37_35
noncomputable def o37_9_0 : Oper := opN r37_9 0
noncomputable def o37_9_1 : Oper := opN r37_9 1
noncomputable def o37_9_2 : Oper := opN r37_9 2
noncomputable def o37_9_3 : Oper := opN r37_9 3
noncomputable def o37_9_4 : Oper := opN r37_9 4
noncomputable def o37_9_5 : Oper := opN r37_9 5
theorem x37_35 : execA E C (fg 37) B 41 E0 N c37_35 s = regX (runA E C B 41 r37_9 r37_9.toList s) (fun s => gcM E0 [7, 25, 31, 32, 33, 34, 35] (forget s.1 [7, 25, 31, 32, 33, 34, 35], s.2)) := x_reg (ops := r37_9) (by rfl) (by rfl) s
theorem r37_9_l : r37_9.toList = [o37_9_0, o37_9_1, o37_9_2, o37_9_3, o37_9_4, o37_9_5] := nrfl rfl
theorem s37_9_0 : stepA E C B 41 r37_9 o37_9_0 (φ, H) = some (fput φ 31 (fget φ 5), H) := nrfl rfl
theorem s37_9_1 : stepA E C B 41 r37_9 o37_9_1 (φ, H) = stp (some 32) φ H (just (aFieldAddr E.T 45 (fget φ 7) 2)) := nrfl rfl
theorem s37_9_2 : stepA E C B 41 r37_9 o37_9_2 (φ, H) = stp (some 33) φ H (just (aLoad E.T 3 (fget φ 32))) := nrfl rfl
theorem s37_9_3 : stepA E C B 41 r37_9 o37_9_3 (φ, H) = stp (some 34) φ H (aBuildSlice E.T (B + 34) 47 1 (evO E φ) [(0, Operand.tmp 33)]) := nrfl rfl
theorem s37_9_4 : stepA E C B 41 r37_9 o37_9_4 (φ, H) = stp (some 35) φ H (aBuiltin E.T (B + 35) .append #[47, 47] [(fget φ 31), (fget φ 34)]) := nrfl rfl
theorem s37_9_5 : stepA E C B 41 r37_9 o37_9_5 (φ, H) = some (fput φ 5 (fget φ 35), H) := nrfl rfl
theorem x37_33 : execA E C (fg 37) B 41 E0 N c37_33 (φ, H) = condX (fget φ 25) (execA E C (fg 37) B 41 E0 N c37_34 (φ, H)) (execA E C (fg 37) B 41 E0 N c37_35 (φ, H)) := x_cond (by rfl) _
theorem x37_31 : execA E C (fg 37) B 41 E0 N c37_31 s = seqX (execA E C (fg 37) B 41 E0 N c37_32 s) (execA E C (fg 37) B 41 E0 N c37_33) := x_seq (by rfl) s
theorem x37_29 : execA E C (fg 37) B 41 E0 N c37_29 s = seqX (execA E C (fg 37) B 41 E0 N c37_30 s) (execA E C (fg 37) B 41 E0 N c37_31) := x_seq (by rfl) s
theorem x37_28 : execA E C (fg 37) B 41 E0 N c37_28 s = blockX 3 (fun s => (forget s.1 [], s.2)) (execA E C (fg 37) B 41 E0 N c37_29 s) := x_block (by rfl) (by rfl) s
noncomputable def c37_36 : Code := kR c37_27
noncomputable def r37_10 : Array Oper := kO c37_36
noncomputable def o37_10_0 : Oper := opN r37_10 0
noncomputable def o37_10_1 : Oper := opN r37_10 1
theorem x37_36 : execA E C (fg 37) B 41 E0 N c37_36 s = regX (runA E C B 41 r37_10 r37_10.toList s) (fun s => gcM E0 [36] (forget s.1 [36], s.2)) := x_reg (ops := r37_10) (by rfl) (by rfl) s
theorem r37_10_l : r37_10.toList = [o37_10_0, o37_10_1] := nrfl rfl
theorem s37_10_0 : stepA E C B 41 r37_10 o37_10_0 (φ, H) = stp (some 36) φ H (just (aBin E.T .add 3 (fget φ 16) (.int .i64 1))) := nrfl rfl
theorem s37_10_1 : stepA E C B 41 r37_10 o37_10_1 (φ, H) = some (fput φ 16 (fget φ 36), H) := nrfl rfl
theorem x37_27 : execA E C (fg 37) B 41 E0 N c37_27 s = seqX (execA E C (fg 37) B 41 E0 N c37_28 s) (execA E C (fg 37) B 41 E0 N c37_36) := x_seq (by rfl) s
theorem x37_23 : execA E C (fg 37) B 41 E0 N c37_23 s = seqX (execA E C (fg 37) B 41 E0 N c37_24 s) (execA E C (fg 37) B 41 E0 N c37_27) := x_seq (by rfl) s
theorem x37_21 : execA E C (fg 37) B 41 E0 N c37_21 s = seqX (execA E C (fg 37) B 41 E0 N c37_22 s) (execA E C (fg 37) B 41 E0 N c37_23) := x_seq (by rfl) s
theorem x37_20 : execA E C (fg 37) B 41 E0 N c37_20 s = iterA (execA E C (fg 37) B 41 E0 N c37_21) (headA E0) N s := x_loop (by rfl) s
theorem x37_19 : execA E C (fg 37) B 41 E0 N c37_19 s = blockX 2 (fun s => (forget s.1 [4, 14, 15, 16, 17], s.2)) (execA E C (fg 37) B 41 E0 N c37_20 s) := x_block (by rfl) (by rfl) s
theorem x37_17 : execA E C (fg 37) B 41 E0 N c37_17 s = seqX (execA E C (fg 37) B 41 E0 N c37_18 s) (execA E C (fg 37) B 41 E0 N c37_19) := x_seq (by rfl) s
noncomputable def c37_37 : Code := kR c37_16
noncomputable def r37_11 : Array Oper := kO c37_37
noncomputable def o37_11_0 : Oper := opN r37_11 0
noncomputable def o37_11_1 : Oper := opN r37_11 1
noncomputable def o37_11_2 : Oper := opN r37_11 2
theorem x37_37 : execA E C (fg 37) B 41 E0 N c37_37 s = regX (runA E C B 41 r37_11 r37_11.toList s) (fun s => gcM E0 [5, 37, 38, 39] (forget s.1 [5, 37, 38, 39], s.2)) := x_reg (ops := r37_11) (by rfl) (by rfl) s
theorem r37_11_l : r37_11.toList = [o37_11_0, o37_11_1, o37_11_2] := nrfl rfl
theorem s37_11_0 : stepA E C B 41 r37_11 o37_11_0 (φ, H) = some (fput φ 37 (fget φ 1), H) := nrfl rfl
theorem s37_11_1 : stepA E C B 41 r37_11 o37_11_1 (φ, H) = some (fput φ 38 (fget φ 5), H) := nrfl rfl
theorem s37_11_2 : stepA E C B 41 r37_11 o37_11_2 (φ, H) = callV E C (B + 41 * 8) (some 39) (fun j => B + j * 41 + 39) φ H (fget φ 37) [(fget φ 38)] true := nrfl rfl
theorem x37_16 : execA E C (fg 37) B 41 E0 N c37_16 s = seqX (execA E C (fg 37) B 41 E0 N c37_17 s) (execA E C (fg 37) B 41 E0 N c37_37) := x_seq (by rfl) s
theorem x37_14 : execA E C (fg 37) B 41 E0 N c37_14 s = seqX (execA E C (fg 37) B 41 E0 N c37_15 s) (execA E C (fg 37) B 41 E0 N c37_16) := x_seq (by rfl) s
theorem x37_12 : execA E C (fg 37) B 41 E0 N c37_12 s = seqX (execA E C (fg 37) B 41 E0 N c37_13 s) (execA E C (fg 37) B 41 E0 N c37_14) := x_seq (by rfl) s
theorem x37_11 : execA E C (fg 37) B 41 E0 N c37_11 s = blockX 1 (fun s => (forget s.1 [], s.2)) (execA E C (fg 37) B 41 E0 N c37_12 s) := x_block (by rfl) (by rfl) s
noncomputable def c37_38 : Code := kR c37_10
noncomputable def r37_12 : Array Oper := kO c37_38
noncomputable def o37_12_0 : Oper := opN r37_12 0
noncomputable def o37_12_1 : Oper := opN r37_12 1
theorem x37_38 : execA E C (fg 37) B 41 E0 N c37_38 s = regX (runA E C B 41 r37_12 r37_12.toList s) (fun s => gcM E0 [40] (forget s.1 [40], s.2)) := x_reg (ops := r37_12) (by rfl) (by rfl) s
theorem r37_12_l : r37_12.toList = [o37_12_0, o37_12_1] := nrfl rfl
theorem s37_12_0 : stepA E C B 41 r37_12 o37_12_0 (φ, H) = stp (some 40) φ H (just (aBin E.T .add 3 (fget φ 11) (.int .i64 1))) := nrfl rfl
theorem s37_12_1 : stepA E C B 41 r37_12 o37_12_1 (φ, H) = some (fput φ 11 (fget φ 40), H) := nrfl rfl
theorem x37_10 : execA E C (fg 37) B 41 E0 N c37_10 s = seqX (execA E C (fg 37) B 41 E0 N c37_11 s) (execA E C (fg 37) B 41 E0 N c37_38) := x_seq (by rfl) s
theorem x37_6 : execA E C (fg 37) B 41 E0 N c37_6 s = seqX (execA E C (fg 37) B 41 E0 N c37_7 s) (execA E C (fg 37) B 41 E0 N c37_10) := x_seq (by rfl) s
theorem x37_4 : execA E C (fg 37) B 41 E0 N c37_4 s = seqX (execA E C (fg 37) B 41 E0 N c37_5 s) (execA E C (fg 37) B 41 E0 N c37_6) := x_seq (by rfl) s
theorem x37_3 : execA E C (fg 37) B 41 E0 N c37_3 s = iterA (execA E C (fg 37) B 41 E0 N c37_4) (headA E0) N s := x_loop (by rfl) s
theorem x37_2 : execA E C (fg 37) B 41 E0 N c37_2 s = blockX 0 (fun s => (forget s.1 [0, 1, 10, 11, 12], s.2)) (execA E C (fg 37) B 41 E0 N c37_3 s) := x_block (by rfl) (by rfl) s
theorem x37_0 : execA E C (fg 37) B 41 E0 N c37_0 s = seqX (execA E C (fg 37) B 41 E0 N c37_1 s) (execA E C (fg 37) B 41 E0 N c37_2) := x_seq (by rfl) s
theorem fi_37 : fInfo E 37 = some ⟨41, #[], c37_0⟩ := nrfl rfl
theorem b_37 (args : List AV) : bodyA E C fg N 37 args H B = bodyX E [] (execA E C (fg 37) B 41 H N c37_0 (frame0 args 0 [], H)) := bodyA_eq fi_37 args H
end Go.AM.Ytmhbnflnlglljaa
end

section
namespace Go.AM.Ytmhbnflnlglljaa
open Go Go.AM
set_option maxRecDepth 100000
set_option maxHeartbeats 4000000
def bitI (set i : Nat) : Int := if set.testBit i = true then 1 else 0
theorem bit_and : ∀ set : Nat, set < 32 → ∀ i : Nat, i < 5 → bk .i64 (bt .i64 ((set : Int).fdiv (pw2 (min i 64))) &&& bt .i64 1) = .int .i64 (bitI set i) := by
  intro set hs i hi
  have key : ∀ (set : Fin 32) (i : Fin 5), bk .i64 (bt .i64 (((set : Nat) : Int).fdiv (pw2 (min (i : Nat) 64))) &&& bt .i64 1) = .int .i64 (bitI set i) := by
    intro set i
    simp only [bk, AV.int.injEq, true_and]
    revert set i
    decide +kernel
  exact key ⟨set, hs⟩ ⟨i, hi⟩
def cw (l : List Stone) (set i : Nat) : Int := if set.testBit i = true then (l.getD i default).most else (l.getD i default).least
def cwI (l : List Stone) (set i : Nat) : List Int := (List.range i).map (cw l set)
theorem cwI_length (l set i) : (cwI l set i).length = i := by simp [cwI]
theorem cwI_succ (l set i) : cwI l set (i + 1) = cwI l set i ++ [cw l set i] := by simp [cwI, List.range_succ]
theorem cwI_at {l : List Stone} {set n i : Nat} (h : i < n) : (cwI l set n)[i]? = some (cw l set i) := by simp [cwI, h]
theorem cw_weigh {l : List Stone} (h : OkP l) (set : Nat) : weighE l (cwI l set l.length) = 0 := by
  have hz : ∀ {l : List Stone} {ws : List Int}, (∀ (i : Nat) (s : Stone) (w : Int), l[i]? = some s → ws[i]? = some w → s.least ≤ w ∧ w ≤ s.most) → weighL l ws = 0 := by
    intro l
    induction l with
    | nil => intro ws _; unfold weighL; rfl
    | cons s l ih =>
      intro ws hh
      cases ws with
      | nil => unfold weighL; rfl
      | cons w ws =>
        have h0 := hh 0 s w rfl rfl
        simp only [weighL]
        rw [if_neg (by omega), if_neg (by omega)]
        exact ih fun i s w h1 h2 => hh (i + 1) s w (by simpa using h1) (by simpa using h2)
  unfold weighE
  rw [if_pos (by rw [cwI_length])]
  refine hz fun i s w h1 h2 => ?_
  have hi := at_lt h1
  rw [cwI_at hi] at h2
  obtain rfl := Option.some.inj h2
  obtain ⟨_, _, _, _, l1, lm, m9⟩ := h.fits i s h1
  simp only [cw, List.getD_eq_getElem?_getD, h1, Option.getD_some]
  split <;> omega
end Go.AM.Ytmhbnflnlglljaa
end

section
namespace Go.AM
theorem callV_mut {E : Env} {C : Callee} {f : AV} {args : List AV} {g : FuncId} {xs : List AV} (h : mutV E f args = some (g, xs)) (Bn : Nat) (d : Option Nat) (site) (φ H) (keep) : callV E C Bn d site φ H f args keep = mutX d φ (C g xs H Bn) := by
  simp only [callV, h]
end Go.AM
namespace Go.AM.Ytmhbnflnlglljaa
open Go Go.AM
set_option maxRecDepth 100000
set_option maxHeartbeats 4000000
theorem sumF_eq (F G : Nat → Int) (k : Nat) : ∀ m, (∀ i, k ≤ i → i < k + m → F i = G i) → sumF F k m = sumF G k m
  | 0, _ => rfl
  | m + 1, h => by simp only [sumF, sumF_eq F G k m (fun i h1 h2 => h i h1 (by omega)), h (k + m) (by omega) (by omega)]
/-- The bits of the worst truth. -/
def bitsOf (f : Nat → Bool) : Nat → Nat
  | 0 => 0
  | n + 1 => bitsOf f n + if f n = true then 2 ^ n else 0
theorem bitsOf_lt (f : Nat → Bool) : ∀ n, bitsOf f n < 2 ^ n
  | 0 => by simp [bitsOf]
  | n + 1 => by
    have := bitsOf_lt f n
    simp only [bitsOf, Nat.pow_succ]
    split <;> omega
theorem bitsOf_bit (f : Nat → Bool) : ∀ n i, i < n → (bitsOf f n).testBit i = f i
  | 0, i, h => by omega
  | n + 1, i, h => by
    have hlt := bitsOf_lt f n
    simp only [bitsOf]
    by_cases hin : i = n
    · subst hin
      cases hf : f i
      · simp only [Bool.false_eq_true, if_false, Nat.add_zero]
        exact Nat.testBit_lt_two_pow hlt
      · simp only [if_true]
        rw [Nat.add_comm, Nat.testBit_two_pow_add_eq, Nat.testBit_lt_two_pow hlt]; rfl
    · have hi : i < n := by omega
      have ih := bitsOf_bit f n i hi
      split
      · rw [Nat.add_comm, Nat.testBit_two_pow_add_gt hi, ih]
      · simpa using ih
theorem worst_corner {l : List Stone} (k : Nat) (side : Int) (h : OkP l) : ∃ set, set < 2 ^ l.length ∧ momSum l (cwI l set l.length) k side = worstSum l k side := by
  refine ⟨bitsOf (fun i => decide (far side (rightE l k) (leftE l k) (l.getD i default) > 0)) l.length, bitsOf_lt _ _, ?_⟩
  refine sumF_eq _ _ _ _ fun i h1 h2 => ?_
  have hi : i < l.length := by omega
  simp only [momTerm, List.getD_eq_getElem?_getD, cwI_at hi, Option.getD_some, cw, bitsOf_bit _ _ i hi, term, wt, decide_eq_true_eq]
theorem worst_left0 {l : List Stone} (h : OkP l) : worstSum l 0 (-1) ≤ 0 := by
  obtain ⟨set, _, e⟩ := worst_corner 0 (-1) h
  rw [← e]
  have hw := cw_weigh h set
  have hnp : ∀ (F : Nat → Int) (k m : Nat), (∀ i, k ≤ i → i < k + m → F i ≤ 0) → sumF F k m ≤ 0 := by
    intro F k m
    induction m with
    | zero => intro _; simp [sumF]
    | succ m ih =>
      intro hh
      have := hh (k + m) (by omega) (by omega)
      have := ih (fun i h1 h2 => hh i h1 (by omega))
      simp only [sumF]; omega
  refine hnp _ _ _ fun i h1 h2 => ?_
  have hi : i < l.length := by omega
  obtain ⟨s, hs⟩ := at_ex hi
  obtain ⟨w, hws⟩ := at_ex (l := cwI l set l.length) (k := i) (by rw [weigh_len hw]; exact hi)
  obtain ⟨_, _, p1, p2, l1, lm, m9⟩ := h.fits i s hs
  have hwt := weighE_at hw hs hws
  simp only [momTerm, far, leftE, List.getD_eq_getElem?_getD, hs, hws, Option.getD_some]
  rw [if_neg (by omega)]
  exact Int.mul_nonpos_of_nonneg_of_nonpos (by omega) (by omega)
end Go.AM.Ytmhbnflnlglljaa
end

section
namespace Go.AM.Ytmhbnflnlglljaa
open Go Go.AM
set_option maxRecDepth 100000
set_option maxHeartbeats 4000000
structure BOk (bs : List Int) : Prop where
  l : bs.length = 5
  b : ∀ (i : Nat) (b : Int), bs[i]? = some b → 0 ≤ b ∧ b ≤ 255
def bcells (bs : List Int) : List AV := bs.map (AV.int .u8)
theorem bcells_length (bs : List Int) : (bcells bs).length = bs.length := by simp [bcells]
theorem bcells_at {bs : List Int} {k : Nat} {z : Int} (h : bs[k]? = some z) : (bcells bs)[k]? = some (.int .u8 z) := by simp [bcells, h]
def tN (l : List Stone) (bs : List Int) (i : Nat) : Int := (l.getD i default).least + (bs.getD i 0).tmod ((l.getD i default).most - (l.getD i default).least + 1)
def truI (l : List Stone) (bs : List Int) (i : Nat) : List Int := (List.range i).map (tN l bs)
theorem truI_length (l bs i) : (truI l bs i).length = i := by simp [truI]
theorem truI_succ (l bs i) : truI l bs (i + 1) = truI l bs i ++ [tN l bs i] := by simp [truI, List.range_succ]
theorem truI_at {l : List Stone} {bs : List Int} {n i : Nat} (h : i < n) : (truI l bs n)[i]? = some (tN l bs i) := by simp [truI, h]
theorem weighL_all : ∀ {l : List Stone} {ws : List Int}, (∀ (i : Nat) (s : Stone) (w : Int), l[i]? = some s → ws[i]? = some w → s.least ≤ w ∧ w ≤ s.most) → weighL l ws = 0
  | [], _, _ => by unfold weighL; rfl
  | _ :: _, [], _ => by unfold weighL; rfl
  | s :: l, w :: ws, h => by
    have h0 := h 0 s w rfl rfl
    simp only [weighL]
    rw [if_neg (by omega), if_neg (by omega)]
    exact weighL_all fun i s w h1 h2 => h (i + 1) s w (by simpa using h1) (by simpa using h2)
theorem tru_weigh {l : List Stone} {bs : List Int} (h : OkP l) (hbs : BOk bs) : weighE l (truI l bs l.length) = 0 := by
  unfold weighE
  rw [if_pos (by rw [truI_length])]
  refine weighL_all fun i s w h1 h2 => ?_
  have hi := at_lt h1
  have hle := h.le
  rw [truI_at hi] at h2
  obtain rfl := Option.some.inj h2
  obtain ⟨_, _, _, _, l1, lm, m9⟩ := h.fits i s h1
  obtain ⟨b, hb⟩ := at_ex (l := bs) (k := i) (by have := hbs.l; omega)
  obtain ⟨b0, b1⟩ := hbs.b i b hb
  obtain ⟨t1, t2⟩ := tmod_b b0 (s.most - s.least + 1) (by omega)
  simp only [tN, List.getD_eq_getElem?_getD, h1, hb, Option.getD_some]
  omega
theorem tru_round {C : Callee} {l : List Stone} {ex : Bool} {bs : List Int} (h : OkP l) (hbs : BOk bs) (i : Nat) (hi : i < l.length) (out : List Int) (ho : out.length = i) :
    ∃ s', execA E C (fg 36) 0 34 [] 1000 c36_9 ([(10, .int .i64 i), (9, .int .i64 l.length), (8, .imm (pcells l) l.length ex), (5, outV 31 out), (3, .ptr 3 0 5)], (3, ⟨.box, bcells bs⟩) :: outH 31 out) = some (.normal, s') ∧
      headA [] s' = ([(10, .int .i64 (i + 1 : Nat)), (9, .int .i64 l.length), (8, .imm (pcells l) l.length ex), (5, outV 31 (out ++ [tN l bs i])), (3, .ptr 3 0 5)], (3, ⟨.box, bcells bs⟩) :: outH 31 (out ++ [tN l bs i])) := by
  obtain ⟨s, hs⟩ := at_ex hi
  have hle := h.le
  have hi5 : i < 5 := by omega
  obtain ⟨b, hb⟩ := at_ex (l := bs) (k := i) (by have := hbs.l; omega)
  have hs' : l.getD i default = s := by simp [hs]
  have hb' : bs.getD i 0 = b := by simp [hb]
  obtain ⟨_, _, _, _, l1, lm, m9⟩ := h.fits i s hs
  obtain ⟨b0, b1⟩ := hbs.b i b hb
  obtain ⟨t1, t2⟩ := tmod_b b0 (s.most - s.least + 1) (by omega)
  have w1 : wrp .i64 b = b := wrp64 (by omega)
  have w2 : wrp .i64 (s.most - s.least) = s.most - s.least := wrp64 (by omega)
  have w3 : wrp .i64 (s.most - s.least + 1) = s.most - s.least + 1 := wrp64 (by omega)
  have w4 : wrp .i64 (s.least + b.tmod (s.most - s.least + 1)) = s.least + b.tmod (s.most - s.least + 1) := wrp64 (by omega)
  have n1 : ¬ (s.most - s.least + 1 = 0) := by omega
  have hbl : (bcells bs).length = 5 := by rw [bcells_length, hbs.l]
  have hbi : (i : Int) < 5 := by omega
  have hx : tN l bs i = s.least + b.tmod (s.most - s.least + 1) := by rw [tN, hs', hb']
  rw [hx]
  obtain ⟨hl5, _⟩ := hbs
  cases out with
  | nil =>
    simp only [outV, outH, List.nil_append]
    simp only [seqX_normal, bindR_some, regX_some, condX_bool, blockX_normal, Bool.not_true, Bool.not_false, run_nil, run_cons, fget_cons', fput_cons', forget_nil, forget_cons', hget_nil', hget_cons', hset_nil', hset_cons', gcM_n, gcM_c, stp, opBox, justO, just, Rd.bind, Rd.run, Rd.opt, upds, acells, zeroCells, tsz, elemT, rdCells, fieldOf, aFieldAddr, aLoad, aStore, opStore, fresh, aIndexAddr, aNum, aBuiltin, aBin, aInt, putC, evO, Nat.reduceAdd, Nat.reduceLT, Nat.reduceGT, Nat.reduceBEq, Nat.reduceEqDiff, Nat.reduceLeDiff, ↓reduceIte, reduceCtorEq, liveBlk_eq, Nat.zero_add, ne_eq, List.nil_append, List.getElem?_toArray, rtX_some, addT_some, drX_some, runT_nil, runT_cons, neat_eq, descF_nil', descF_cons', ascH_nil', ascH_cons', stpT, Rd.foot, writing, touching, Tr.empty, dynPairs, apartT, disj, List.isEmpty_nil, List.isEmpty_cons, List.map_nil, List.map_cons, Bool.not_false, Bool.not_true, Bool.true_or, Bool.or_true, Bool.or_false, Bool.and_true, Bool.true_and, Bool.and_self, decide_true, not_true_eq_false, or_self, aBuildSlice, partsOf, fillA, repC, frz, isSliceT, aAppend, srcOf, window, putD_some, putD_none, and_true, Int.natCast_nonneg, Int.ofNat_lt, Int.toNat_natCast, snaps, snap, List.append_nil, List.elem_cons, List.elem_nil, List.length_cons, List.length_nil, List.getElem?_cons_zero, List.getElem?_cons_succ, List.drop_zero, List.take_succ_cons, List.take_nil, List.set_cons_zero, List.set_cons_succ, T_3, T_22, T_45, T_47, T_5, T_71, x36_10, r36_3_l, s36_3_0, x36_13, x36_14, x36_12, x36_18, r36_4_l, s36_4_0, s36_4_1, s36_4_2, s36_4_3, s36_4_4, s36_4_5, x36_19, r36_5_l, r36_5_dr, r36_5_an, s36_5_0, s36_5_1, s36_5_2, s36_5_3, s36_5_4, s36_5_5, s36_5_6, s36_5_7, s36_5_8, s36_5_9, s36_5_10, s36_5_11, s36_5_12, s36_5_13, s36_5_14, s36_5_15, s36_5_16, s36_5_17, x36_17, x36_16, x36_20, r36_6_l, s36_6_0, s36_6_1, x36_15, x36_11, x36_9, hi, hbi, hbl, pcells_length, pcells_at l i s hs, sc, pcells_off l i hi, bcells_at hb, Nat.mul_one, w1, w2, w3, w4, n1, aConv, wrp_succ (show i < 1000000 by omega), fillA, List.all_cons, List.all_nil, List.getD_cons_zero, List.getD_cons_succ, beq_self_eq_true, cl5, room3 (show 1 ≤ 1000000 by omega)]
    match bs, hl5 with
    | [_, _, _, _, _], _ => exact ⟨_, rfl, rfl⟩
  | cons a o =>
    have hlen : (icells (a :: o)).length = o.length + 1 := by simp [icells]
    have hno : ¬ o.length + 1 + 1 ≤ o.length + 1 := by omega
    have ho2 : o.length + 1 = i := by simpa using ho
    have hl2 : ∀ z : Int, (o ++ [z]).length = o.length + 1 := fun z => by simp
    simp only [outV, outH, List.cons_append, hl2]
    simp only [seqX_normal, bindR_some, regX_some, condX_bool, blockX_normal, Bool.not_true, Bool.not_false, run_nil, run_cons, fget_cons', fput_cons', forget_nil, forget_cons', hget_nil', hget_cons', hset_cons', gcM_n, gcM_c, stp, opBox, justO, just, Rd.bind, Rd.run, Rd.opt, upds, acells, zeroCells, tsz, elemT, rdCells, fieldOf, aFieldAddr, aLoad, aStore, opStore, fresh, aIndexAddr, aNum, aBuiltin, aBin, aInt, putC, evO, Nat.reduceAdd, Nat.reduceLT, Nat.reduceGT, Nat.reduceBEq, Nat.reduceEqDiff, Nat.reduceLeDiff, ↓reduceIte, reduceCtorEq, liveBlk_eq, Nat.zero_add, ne_eq, List.nil_append, List.getElem?_toArray, rtX_some, addT_some, drX_some, runT_nil, runT_cons, neat_eq, descF_nil', descF_cons', ascH_nil', ascH_cons', stpT, Rd.foot, writing, touching, Tr.empty, dynPairs, apartT, disj, List.isEmpty_nil, List.isEmpty_cons, List.map_nil, List.map_cons, Bool.not_false, Bool.not_true, Bool.true_or, Bool.or_true, Bool.or_false, Bool.and_true, Bool.true_and, Bool.and_self, decide_true, not_true_eq_false, or_self, aBuildSlice, partsOf, fillA, repC, frz, isSliceT, aAppend, srcOf, window, putD_some, putD_none, and_true, Int.natCast_nonneg, Int.ofNat_lt, Int.toNat_natCast, snaps, snap, List.append_nil, List.elem_cons, List.elem_nil, List.length_cons, List.length_nil, List.getElem?_cons_zero, List.getElem?_cons_succ, List.drop_zero, List.take_succ_cons, List.take_nil, List.set_cons_zero, List.set_cons_succ, T_3, T_22, T_45, T_47, T_5, T_71, x36_10, r36_3_l, s36_3_0, x36_13, x36_14, x36_12, x36_18, r36_4_l, s36_4_0, s36_4_1, s36_4_2, s36_4_3, s36_4_4, s36_4_5, x36_19, r36_5_l, r36_5_dr, r36_5_an, s36_5_0, s36_5_1, s36_5_2, s36_5_3, s36_5_4, s36_5_5, s36_5_6, s36_5_7, s36_5_8, s36_5_9, s36_5_10, s36_5_11, s36_5_12, s36_5_13, s36_5_14, s36_5_15, s36_5_16, s36_5_17, x36_17, x36_16, x36_20, r36_6_l, s36_6_0, s36_6_1, x36_15, x36_11, x36_9, hi, hbi, hbl, pcells_length, pcells_at l i s hs, sc, pcells_off l i hi, bcells_at hb, Nat.mul_one, w1, w2, w3, w4, n1, aConv, wrp_succ (show i < 1000000 by omega), fillA, List.all_cons, List.all_nil, List.getD_cons_zero, List.getD_cons_succ, beq_self_eq_true, cl5, room3 (show o.length + 1 + 1 ≤ 1000000 by omega), hlen, hno, take_icells, icells_snoc, Nat.le_refl, List.cons_append]
    match bs, hl5 with
    | [_, _, _, _, _], _ => exact ⟨_, rfl, rfl⟩
theorem truth_run {C : Callee} {l : List Stone} {ex : Bool} {bs : List Int} (h : OkP l) (hbs : BOk bs) : bodyA E C fg 1000 36 [.imm (pcells l) l.length ex, .agg (bcells bs)] [] 0 = some (.ref 31 0 l.length l.length l.length 1 false, [(3, ⟨.box, bcells bs⟩), (31, ⟨.row, icells (truI l bs l.length)⟩)]) := by
  have hle := h.le
  obtain ⟨e1, e2⟩ := outV_ne (id := 31) (l := truI l bs l.length) (by rw [truI_length]; exact h.ne)
  rw [truI_length] at e1
  have hbl : (bcells bs).length = 5 := by rw [bcells_length, hbs.l]
  have hloop := iter_all (f := execA E C (fg 36) 0 34 [] 1000 c36_9) (hd := headA []) (fun i => ([(10, .int .i64 i), (9, .int .i64 l.length), (8, .imm (pcells l) l.length ex), (5, outV 31 (truI l bs i)), (3, .ptr 3 0 5)], (3, ⟨.box, bcells bs⟩) :: outH 31 (truI l bs i))) l.length 1000 0
    ([(10, .int .i64 0), (9, .int .i64 l.length), (8, .imm (pcells l) l.length ex), (5, .nilsl), (3, .ptr 3 0 5)], [(3, ⟨.box, bcells bs⟩)]) (by
      obtain ⟨hl5, _⟩ := hbs
      match bs, hl5 with
      | [_, _, _, _, _], _ => rfl) (by omega) (fun i h1 h2 => by
      have := tru_round (C := C) (ex := ex) h hbs i (by omega) (truI l bs i) (truI_length l bs i)
      rw [truI_succ]
      exact this) (e := .exit 0) (se := ([(11, .bool false), (10, .int .i64 l.length), (9, .int .i64 l.length), (8, .imm (pcells l) l.length ex), (5, .ref 31 0 l.length l.length l.length 1 false), (3, .ptr 3 0 5)], [(3, ⟨.box, bcells bs⟩), (31, ⟨.row, icells (truI l bs l.length)⟩)])) (by
      rw [Nat.zero_add]
      simp only [e1, e2]
      simp only [seqX_normal, seqX_exit, bindR_some, regX_some, condX_bool, run_nil, run_cons, fget_cons', fput_cons', forget_nil, forget_cons', gcM_n, stp, just, Rd.bind, Rd.run, Rd.opt, upds, aBin, aInt, Nat.reduceEqDiff, Nat.reduceLeDiff, ↓reduceIte, decide_false, putD_some, List.elem_nil, x36_10, r36_3_l, s36_3_0, x36_13, x36_14, x36_12, x36_11, x36_9, Int.lt_irrefl, decide_false, Bool.false_eq_true]) (by simp)
  simp only [seqX_normal, bindR_some, regX_some, blockX_exit, bodyX_ret, run_nil, run_cons, fget_cons', fput_nil, fput_cons', forget_nil, forget_cons', hget_nil', hset_nil', frame0, gcM_n, gcM_c, stp, opBox, just, Rd.bind, Rd.run, upds, acells, resA, resL, fresh, aLen, aBuiltin, Nat.reduceBEq, Nat.reduceEqDiff, Nat.reduceLeDiff, ↓reduceIte, reduceCtorEq, Nat.zero_add, List.getElem?_toArray, putD_some, Option.map_some, List.elem_cons, List.elem_nil, List.getElem?_cons_zero, T_22, x36_1, r36_0_l, s36_0_0, s36_0_1, x36_3, r36_1_l, s36_1_0, x36_6, r36_2_l, s36_2_0, s36_2_1, s36_2_2, x36_8, x36_7, x36_5, x36_22, r36_7_l, s36_7_0, s36_7_1, x36_23, x36_21, x36_4, x36_2, x36_0, b_36, hbl, hloop]
theorem truth_call {d : Nat} {site : Nat → Nat} {seen : List Nat} {l : List Stone} {ex : Bool} {bs : List Int} (h : OkP l) (hbs : BOk bs) :
    aBack site true seen (thaw (callA E fg 1000 (d + 1)) 36 [.imm (pcells l) l.length ex, .agg (bcells bs)] [] 0) = back1 (site 0) seen (fun k => .ref k 0 l.length l.length l.length 1 false) ⟨.row, icells (truI l bs l.length)⟩ := by
  have e := truth_run (C := callA E fg 1000 d) (ex := ex) h hbs
  have hl : (icells (truI l bs l.length)).length = l.length := by rw [icells_length, truI_length]
  have := aBack_ref (site := site) (seen := seen) (n := l.length) (sz := 1) (id := 31) (cells := icells (truI l bs l.length)) (H' := [(3, ⟨.box, bcells bs⟩), (31, ⟨.row, icells (truI l bs l.length)⟩)]) (C := callA E fg 1000 (d + 1)) (f := 36) (args := [.imm (pcells l) l.length ex, .agg (bcells bs)]) (by rw [hl]; exact e) (by rw [hget_cons', hget_cons']; simp)
  rw [hl] at this
  exact this
end Go.AM.Ytmhbnflnlglljaa
end
