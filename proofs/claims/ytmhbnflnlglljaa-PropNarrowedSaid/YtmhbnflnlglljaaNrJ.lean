/- A part of the proof of propNarrowed_holds: PropD, PropE, SyC, AmBk, Bas, MadeA, SpA, SpB, SpL, SpC, SyG, SerA, SerC, SyF. Own work of this project; texts printed by own programs among it. -/
import Derived.KernelRfl
import Derived.Test.YtmhbnflnlglljaaNrI
section
namespace Go.AM.Ytmhbnflnlglljaa
open Go Go.AM
set_option maxRecDepth 100000
set_option maxHeartbeats 1000000
/-- The sum of a level's moments to a side, in the worst truth. -/
def worstSum (l : List Stone) (k : Nat) (side : Int) : Int := sumF (fun i => term side (rightE l k) (leftE l k) (l.getD i default)) k (l.length - k)
def mayTip (l : List Stone) (k : Nat) (side : Int) : Bool := decide (worstSum l k side > 0)
theorem may_asks {d : Nat} {l : List Stone} (h : OkP l) {k : Nat} (hk : k ≤ l.length) (side : Int) :
    Asks (callA E fg 1000 (d + 2)) (.clo 115 [.iptr [farV side (rightE l k) (leftE l k)] 0]) (fun i => [.agg (sc (l.getD i default))]) (fun i => term side (rightE l k) (leftE l k) (l.getD i default)) k l.length := by
  refine ⟨fun _ => rfl, fun site i _ hi => ?_⟩
  obtain ⟨s, hs⟩ := at_ex hi
  have hg : l.getD i default = s := by simp [hs]
  have := aBack_int (site := site) (seen := []) (rs_ex (mayTerm_run (d := d) i s side (rightE l k) (leftE l k) (h.fits i s hs) (edge_bounds h hk)))
  simp only [hg]
  simp only [sc] at this
  simp only [sc, opCallV, fi_115, aCall, List.cons_append, List.nil_append, snaps, snap, Rd.bind]
  exact this
theorem may_run {d : Nat} {l : List Stone} {ex : Bool} (h : OkP l) {k : Nat} (hk : k ≤ l.length) (side : Int) : rsOf (callA E fg 1000 (d + 4) 96 [.imm (pcells l) l.length ex, .int .i64 k, .int .i64 side] [] 0) = some (.bool (mayTip l k side)) := by
  have hsum := fun site seen => aBack_int (site := site) (seen := seen) (rs_ex (sumP_run (ex := ex) hk h.le (may_asks (d := d) h hk side) (by rfl) (fun i h1 h2 => by
    obtain ⟨s, hs⟩ := at_ex h2
    have hg : l.getD i default = s := by simp [hs]
    obtain ⟨b1, b2⟩ := term_bound (side := side) (h.fits i s hs) (edge_bounds h hk)
    simp only [hg]
    omega)))
  have hs2 : ∀ (args : List AV), bodyA E (callA E fg 1000 (d + 2)) fg 1000 114 args [] 0 = callA E fg 1000 (d + 3) 114 args [] 0 := fun _ => rfl
  have hsum2 : ∀ site seen, aBack site true seen (thaw (callA E fg 1000 (d + 3)) 114 [.imm (pcells l) l.length ex, .int .i64 k, .clo 115 [.iptr [farV side (rightE l k) (leftE l k)] 0]] [] 0) = .pure (.int .i64 (worstSum l k side), []) := fun site seen => hsum site seen
  change rsOf (bodyA E (callA E fg 1000 (d + 3)) fg 1000 96 _ _ _) = _
  have hbc := fun site => beyond_call (d := d + 1) (site := site) (ex := ex) h hk side
  simp only [farV] at hbc hsum2
  simp only [seqX_normal, bindR_some, regX_some, bodyX_ret, run_nil, run_cons, fget_cons', fput_cons', forget_nil, forget_cons', hget_nil', hget_cons', hset_nil', hset_cons', frame0, gcM_c, stp, opBox, just, Rd.bind, Rd.run, Rd.opt, upds, acells, zeroCells, tsz, aStore, opStore, resA, resL, fresh, aBin, aInt, putC, Nat.reduceAdd, Nat.reduceBEq, Nat.reduceEqDiff, Nat.reduceLeDiff, ↓reduceIte, reduceCtorEq, liveBlk_eq, Nat.zero_add, List.nil_append, frz, putD_some, putD_none, and_true, aCall, snaps, snap, List.append_nil, Option.map_some, List.elem_cons, List.elem_nil, List.length_cons, List.length_nil, List.set_cons_zero, T_138, x96_1, r96_0_l, s96_0_0, x96_3, r96_1_l, s96_1_0, s96_1_1, s96_1_2, s96_1_3, s96_1_4, s96_1_5, x96_5, r96_2_l, s96_2_0, s96_2_1, s96_2_2, s96_2_3, s96_2_4, s96_2_5, x96_6, x96_4, x96_2, x96_0, b_96, hbc, hsum2, mayTip]
theorem may_call {d : Nat} {site : Nat → Nat} {seen : List Nat} {l : List Stone} {ex : Bool} (h : OkP l) {k : Nat} (hk : k ≤ l.length) (side : Int) :
    aBack site true seen (thaw (callA E fg 1000 (d + 4)) 96 [.imm (pcells l) l.length ex, .int .i64 k, .int .i64 side] [] 0) = .pure (.bool (mayTip l k side), []) :=
  aBack_bool (rs_ex (may_run h hk side))
/-- The lowest level that may tip, from one on. -/
def weakFrom (l : List Stone) (k : Nat) : Nat → Int
  | 0 => -1
  | m + 1 => if mayTip l k 1 = true ∨ mayTip l k (-1) = true then k else weakFrom l (k + 1) m
def weakL (l : List Stone) : Int := weakFrom l 0 l.length
theorem weak_loop {d : Nat} {l : List Stone} {ex : Bool} (h : OkP l) : ∀ (m k F : Nat) (H : AHeap), k + m = l.length → m < F →
    iterA (execA E (callA E fg 1000 (d + 4)) (fg 64) 0 19 [] 1000 c64_7) (headA []) F ([(6, .int .i64 k), (5, .int .i64 l.length), (0, .imm (pcells l) l.length ex)], H) =
      if weakFrom l k m = -1 then some (.exit 0, [(7, .bool false), (6, .int .i64 l.length), (5, .int .i64 l.length), (0, .imm (pcells l) l.length ex)], []) else some (.ret, [(2, .int .i64 (weakFrom l k m))], [])
  | 0, k, F + 1, H, hk, _ => by
    obtain rfl : k = l.length := by omega
    rw [iterA_succ]
    simp only [seqX_normal, seqX_exit, bindR_some, regX_some, condX_bool, run_nil, run_cons, fget_cons', fput_cons', forget_nil, forget_cons', gcM_n, stp, just, Rd.bind, Rd.run, Rd.opt, upds, aBin, aInt, Nat.reduceEqDiff, Nat.reduceLeDiff, Int.reduceNeg, ↓reduceIte, headA_drop, refsF, refsOf, decide_false, putD_some, List.append_nil, List.elem_nil, x64_8, r64_2_l, s64_2_0, x64_11, x64_12, x64_10, x64_9, x64_7, Int.lt_irrefl, decide_false, Bool.false_eq_true, weakFrom]
  | m + 1, k, F + 1, H, hk, hF => by
    have hkl : k < l.length := by omega
    have ih := weak_loop (d := d) (ex := ex) h m (k + 1) F [] (by omega) (by omega)
    have hne : (k : Int) ≠ -1 := by omega
    rw [iterA_succ]
    simp only [seqX_normal, seqX_ret, seqX_ite, bindR_some, bindR_ite, regX_some, regX_ite, condX_bool, blockX_normal, blockX_ret, blockX_ite, ↓gd, fset_cons, Bool.not_false, run_nil, run_cons, fget_cons', fput_cons', forget_nil, forget_cons', gcM_n, gcM_c, stp, opPick, just, Rd.bind, Rd.run, Rd.opt, upds, aBin, aInt, Nat.reduceBEq, Nat.reduceEqDiff, Nat.reduceLeDiff, Int.reduceNeg, ↓reduceIte, reduceCtorEq, Nat.zero_add, headA_drop, refsF, refsOf, Bool.not_false, decide_true, putD_some, Int.ofNat_lt, aCall, snaps, snap, List.append_nil, List.elem_cons, List.elem_nil, x64_8, r64_2_l, s64_2_0, x64_11, x64_12, x64_10, x64_16, r64_3_l, s64_3_0, s64_3_1, x64_18, r64_4_l, s64_4_0, s64_4_1, s64_4_2, s64_4_3, s64_4_4, s64_4_5, s64_4_6, s64_4_7, x64_21, r64_5_l, s64_5_0, s64_5_1, x64_22, x64_20, x64_23, x64_19, x64_17, x64_15, x64_14, x64_24, r64_6_l, s64_6_0, s64_6_1, x64_13, x64_9, x64_7, hkl, may_call h (Nat.le_of_lt hkl), wrp_succ (show k < 1000000 by have := h.le; omega), ih, weakFrom]
    by_cases h1 : mayTip l k 1 = true <;> by_cases h2 : mayTip l k (-1) = true <;> simp [h1, h2, hne]
theorem weak_run {d : Nat} {l : List Stone} {ex : Bool} (h : OkP l) : rsOf (callA E fg 1000 (d + 5) 64 [.imm (pcells l) l.length ex] [] 0) = some (.int .i64 (weakL l)) := by
  change rsOf (bodyA E (callA E fg 1000 (d + 4)) fg 1000 64 _ _ _) = _
  have hl := weak_loop (d := d) (ex := ex) h l.length 0 1000 [] (by omega) (by have := h.le; omega)
  simp only [Int.natCast_zero] at hl
  by_cases hw : weakFrom l 0 l.length = -1
  · simp only [hw, if_true] at hl
    simp only [seqX_normal, bindR_some, regX_some, blockX_exit, bodyX_ret, run_nil, run_cons, fget_cons', fput_nil, fput_cons', forget_nil, forget_cons', frame0, gcM_n, gcM_c, stp, just, Rd.bind, Rd.run, upds, resA, resL, aLen, aBuiltin, Nat.reduceBEq, Nat.reduceEqDiff, Nat.reduceLeDiff, Int.reduceNeg, ↓reduceIte, reduceCtorEq, List.getElem?_toArray, putD_some, Option.map_some, List.elem_cons, List.elem_nil, List.getElem?_cons_zero, T_22, x64_1, r64_0_l, s64_0_0, x64_4, r64_1_l, s64_1_0, s64_1_1, s64_1_2, x64_6, x64_5, x64_3, x64_26, r64_7_l, s64_7_0, x64_27, x64_25, x64_2, x64_0, b_64, hl, weakL, hw]
  · simp only [hw, if_false] at hl
    simp only [seqX_normal, seqX_ret, bindR_some, regX_some, blockX_ret, bodyX_ret, run_nil, run_cons, fget_cons', fput_cons', forget_nil, forget_cons', frame0, gcM_c, stp, just, Rd.bind, Rd.run, upds, resA, resL, aLen, aBuiltin, Nat.reduceBEq, Nat.reduceEqDiff, Nat.reduceLeDiff, ↓reduceIte, reduceCtorEq, List.getElem?_toArray, putD_some, Option.map_some, List.elem_cons, List.elem_nil, List.getElem?_cons_zero, T_22, x64_1, r64_0_l, s64_0_0, x64_4, r64_1_l, s64_1_0, s64_1_1, s64_1_2, x64_6, x64_5, x64_3, x64_2, x64_0, b_64, hl, weakL]
theorem weak_call {d : Nat} {site : Nat → Nat} {seen : List Nat} {l : List Stone} {ex : Bool} (h : OkP l) : aBack site true seen (thaw (callA E fg 1000 (d + 5)) 64 [.imm (pcells l) l.length ex] [] 0) = .pure (.int .i64 (weakL l), []) :=
  aBack_int (rs_ex (weak_run h))
theorem isP_imm {a : AV} {l : List Stone} (h : IsP a l) (hl : 0 < l.length) : ∃ ex, a = .imm (pcells l) l.length ex := by
  rcases h with ⟨_, rfl⟩ | h
  · simp at hl
  · exact h
def standsB (l : List Stone) : Bool := if check l = 0 then decide (weakL l < 0) else false
theorem stands_run {d : Nat} {a : AV} {l : List Stone} (ha : IsP a l) : rsOf (callA E fg 1000 (d + 6) 32 [a] [] 0) = some (.tup [.bool (standsB l), .int .i64 (check l)]) := by
  change rsOf (bodyA E (callA E fg 1000 (d + 5)) fg 1000 32 _ _ _) = _
  have hc := fun (site : Nat → Nat) seen => check_call (d := d + 3) (site := site) (seen := seen) ha
  by_cases h0 : check l = 0
  · have h := check_zero.1 h0
    obtain ⟨ex, rfl⟩ := isP_imm ha h.ne
    simp only [seqX_normal, bindR_some, regX_some, condX_bool, bodyX_ret, run_nil, run_cons, fget_cons', fput_cons', forget_nil, forget_cons', frame0, gcM_c, stp, just, Rd.bind, Rd.run, Rd.opt, upds, resA, resL, aBin, aInt, Nat.reduceBEq, Nat.reduceEqDiff, Nat.reduceLeDiff, ↓reduceIte, reduceCtorEq, Nat.zero_add, bne_iff_ne, ne_eq, not_true_eq_false, putD_some, aCall, snaps, snap, List.append_nil, Option.map_some, List.elem_cons, List.elem_nil, x32_1, r32_0_l, s32_0_0, s32_0_1, x32_4, r32_1_l, s32_1_0, s32_1_1, s32_1_2, x32_6, r32_2_l, s32_2_0, s32_2_1, x32_9, r32_3_l, s32_3_0, s32_3_1, s32_3_2, x32_10, x32_8, x32_11, x32_7, x32_5, x32_3, x32_13, r32_4_l, s32_4_0, s32_4_1, s32_4_2, s32_4_3, s32_4_4, x32_14, x32_12, x32_2, x32_0, b_32, hc, h0, weak_call h, standsB]
  · rcases ha with ⟨rfl, rfl⟩ | ⟨ex, rfl⟩ <;> simp only [seqX_normal, seqX_ret, bindR_some, regX_some, condX_bool, bodyX_ret, run_nil, run_cons, fget_cons', fput_cons', forget_nil, forget_cons', frame0, gcM_c, stp, just, Rd.bind, Rd.run, Rd.opt, upds, resA, resL, aBin, aInt, Nat.reduceBEq, Nat.reduceEqDiff, Nat.reduceLeDiff, ↓reduceIte, reduceCtorEq, Nat.zero_add, bne_iff_ne, ne_eq, not_false_eq_true, putD_some, aCall, snaps, snap, List.append_nil, Option.map_some, List.elem_cons, List.elem_nil, x32_1, r32_0_l, s32_0_0, s32_0_1, x32_4, r32_1_l, s32_1_0, s32_1_1, s32_1_2, x32_6, r32_2_l, s32_2_0, s32_2_1, x32_9, r32_3_l, s32_3_0, s32_3_1, s32_3_2, x32_10, x32_8, x32_11, x32_7, x32_5, x32_3, x32_2, x32_0, b_32, hc, h0, standsB]
theorem stands_call {d : Nat} {site : Nat → Nat} {seen : List Nat} {a : AV} {l : List Stone} (ha : IsP a l) : aBack site true seen (thaw (callA E fg 1000 (d + 6)) 32 [a] [] 0) = .pure (.tup [.bool (standsB l), .int .i64 (check l)], []) :=
  aBack_boolint (rs_ex (stands_run ha))
end Go.AM.Ytmhbnflnlglljaa
end

section
namespace Go.AM.Ytmhbnflnlglljaa
open Go Go.AM
set_option maxRecDepth 100000
set_option maxHeartbeats 1000000
def foundE (l : List Stone) (z : Int) : Int := if check l = 0 then (if z < 0 then 2 else if z ≥ l.length then 2 else 0) else check l
theorem found_run {d : Nat} {a : AV} {l : List Stone} (ha : IsP a l) (z : Int) : rsOf (callA E fg 1000 (d + 3) 57 [a, .int .i64 z] [] 0) = some (.int .i64 (foundE l z)) := by
  change rsOf (bodyA E (callA E fg 1000 (d + 2)) fg 1000 57 _ _ _) = _
  have hc := fun (site : Nat → Nat) seen => check_call (d := d) (site := site) (seen := seen) ha
  by_cases h0 : check l = 0
  · have h := check_zero.1 h0
    obtain ⟨ex, rfl⟩ := isP_imm ha h.ne
    by_cases h1 : z < 0 <;> by_cases h2 : z ≥ l.length <;> simp only [seqX_normal, bindR_some, regX_some, condX_bool, ↓gd, fset_cons, Bool.not_false, bodyX_ret, run_nil, run_cons, fget_cons', fput_nil, fput_cons', forget_nil, forget_cons', frame0, gcM_c, stp, opPick, just, Rd.bind, Rd.run, Rd.opt, upds, resA, resL, aLen, aBuiltin, aBin, aInt, Nat.reduceBEq, Nat.reduceEqDiff, Nat.reduceLeDiff, ↓reduceIte, reduceCtorEq, Nat.zero_add, beq_iff_eq, List.getElem?_toArray, Bool.not_false, decide_true, decide_false, putD_some, aCall, snaps, snap, List.append_nil, Option.map_some, List.elem_cons, List.elem_nil, List.getElem?_cons_zero, T_22, x57_1, r57_0_l, s57_0_0, x57_3, r57_1_l, s57_1_0, s57_1_1, s57_1_2, x57_6, r57_2_l, s57_2_0, s57_2_1, s57_2_2, s57_2_3, s57_2_4, s57_2_5, s57_2_6, s57_2_7, s57_2_8, s57_2_9, s57_2_10, s57_2_11, x57_8, r57_3_l, s57_3_0, x57_9, x57_7, x57_5, x57_11, r57_4_l, s57_4_0, s57_4_1, x57_12, x57_10, x57_4, x57_2, x57_0, b_57, hc, h0, foundE, h1, h2]
  · rcases ha with ⟨rfl, rfl⟩ | ⟨ex, rfl⟩ <;> simp only [seqX_normal, bindR_some, regX_some, condX_bool, ↓gd, fset_cons, Bool.not_true, bodyX_ret, run_nil, run_cons, fget_cons', fput_nil, fput_cons', forget_nil, forget_cons', frame0, gcM_c, stp, opPick, just, Rd.bind, Rd.run, Rd.opt, upds, resA, resL, aBin, aInt, Nat.reduceBEq, Nat.reduceEqDiff, Nat.reduceLeDiff, ↓reduceIte, reduceCtorEq, Nat.zero_add, beq_iff_eq, Bool.not_true, putD_some, aCall, snaps, snap, List.append_nil, Option.map_some, List.elem_cons, List.elem_nil, x57_1, r57_0_l, s57_0_0, x57_3, r57_1_l, s57_1_0, s57_1_1, s57_1_2, x57_6, r57_2_l, s57_2_0, s57_2_1, s57_2_2, s57_2_3, s57_2_4, s57_2_5, s57_2_6, s57_2_7, s57_2_8, s57_2_9, s57_2_10, s57_2_11, x57_8, r57_3_l, s57_3_0, x57_9, x57_7, x57_5, x57_11, r57_4_l, s57_4_0, s57_4_1, x57_12, x57_10, x57_4, x57_2, x57_0, b_57, hc, h0, foundE]
theorem found_call {d : Nat} {site : Nat → Nat} {seen : List Nat} {a : AV} {l : List Stone} (ha : IsP a l) (z : Int) : aBack site true seen (thaw (callA E fg 1000 (d + 3)) 57 [a, .int .i64 z] [] 0) = .pure (.int .i64 (foundE l z), []) :=
  aBack_int (rs_ex (found_run ha z))
theorem found_zero {l : List Stone} {z : Int} : foundE l z = 0 ↔ OkP l ∧ 0 ≤ z ∧ z < l.length := by
  unfold foundE
  split
  · rename_i h
    have := check_zero.1 h
    split
    · simp; omega
    · split
      · simp; omega
      · simp [this]; omega
  · rename_i h
    constructor
    · intro h2; exact absurd h2 h
    · intro h2; exact absurd (check_zero.2 h2.1) h
end Go.AM.Ytmhbnflnlglljaa
end

section
namespace Go.AM.Ytmhbnflnlglljaa
open Go Go.AM
set_option maxRecDepth 100000
variable {C : Callee} {B N : Nat} {E0 : AHeap} (φ : AFr) (H : AHeap) (s : St)
noncomputable def c31_0 : Code := kBody Proofs.Try.f31
noncomputable def c31_1 : Code := kL c31_0
noncomputable def r31_0 : Array Oper := kO c31_1
noncomputable def o31_0_0 : Oper := opN r31_0 0
noncomputable def o31_0_1 : Oper := opN r31_0 1
theorem x31_1 : execA E C (fg 31) B 63 E0 N c31_1 s = regX (runA E C B 63 r31_0 r31_0.toList s) (fun s => gcM E0 [0, 4] (forget s.1 [0, 4], s.2)) := x_reg (ops := r31_0) (by rfl) (by rfl) s
theorem r31_0_l : r31_0.toList = [o31_0_0, o31_0_1] := nrfl rfl
theorem s31_0_0 : stepA E C B 63 r31_0 o31_0_0 (φ, H) = stp (some 2) φ H (opBox (B + 2) (acells (fget φ 0))) := nrfl rfl
theorem s31_0_1 : stepA E C B 63 r31_0 o31_0_1 (φ, H) = some (fput φ 4 (.nilsl), H) := nrfl rfl
noncomputable def c31_2 : Code := kR c31_0
noncomputable def c31_3 : Code := kL c31_2
noncomputable def r31_1 : Array Oper := kO c31_3
noncomputable def o31_1_0 : Oper := opN r31_1 0
theorem x31_3 : execA E C (fg 31) B 63 E0 N c31_3 s = regX (runA E C B 63 r31_1 r31_1.toList s) (fun s => gcM E0 [] (forget s.1 [], s.2)) := x_reg (ops := r31_1) (by rfl) (by rfl) s
theorem r31_1_l : r31_1.toList = [o31_1_0] := nrfl rfl
theorem s31_1_0 : stepA E C B 63 r31_1 o31_1_0 (φ, H) = some (fput φ 5 (.nilsl), H) := nrfl rfl
noncomputable def c31_4 : Code := kR c31_2
noncomputable def c31_5 : Code := kL c31_4
noncomputable def r31_2 : Array Oper := kO c31_5
noncomputable def o31_2_0 : Oper := opN r31_2 0
theorem x31_5 : execA E C (fg 31) B 63 E0 N c31_5 s = regX (runA E C B 63 r31_2 r31_2.toList s) (fun s => gcM E0 [] (forget s.1 [], s.2)) := x_reg (ops := r31_2) (by rfl) (by rfl) s
theorem r31_2_l : r31_2.toList = [o31_2_0] := nrfl rfl
theorem s31_2_0 : stepA E C B 63 r31_2 o31_2_0 (φ, H) = some (fput φ 6 (.int .i64 0), H) := nrfl rfl
noncomputable def c31_6 : Code := kR c31_4
noncomputable def c31_7 : Code := kL c31_6
noncomputable def c31_8 : Code := kL c31_7
noncomputable def r31_3 : Array Oper := kO c31_8
noncomputable def o31_3_0 : Oper := opN r31_3 0
noncomputable def o31_3_1 : Oper := opN r31_3 1
noncomputable def o31_3_2 : Oper := opN r31_3 2
noncomputable def o31_3_3 : Oper := opN r31_3 3
noncomputable def o31_3_4 : Oper := opN r31_3 4
noncomputable def o31_3_5 : Oper := opN r31_3 5
noncomputable def o31_3_6 : Oper := opN r31_3 6
noncomputable def o31_3_7 : Oper := opN r31_3 7
noncomputable def o31_3_8 : Oper := opN r31_3 8
noncomputable def o31_3_9 : Oper := opN r31_3 9
theorem x31_8 : execA E C (fg 31) B 63 E0 N c31_8 s = regX (runA E C B 63 r31_3 r31_3.toList s) (fun s => gcM E0 [1, 2, 10, 11, 12, 13, 14, 15, 16] (forget s.1 [1, 2, 10, 11, 12, 13, 14, 15, 16], s.2)) := x_reg (ops := r31_3) (by rfl) (by rfl) s
theorem r31_3_l : r31_3.toList = [o31_3_0, o31_3_1, o31_3_2, o31_3_3, o31_3_4, o31_3_5, o31_3_6, o31_3_7, o31_3_8, o31_3_9] := nrfl rfl
theorem s31_3_0 : stepA E C B 63 r31_3 o31_3_0 (φ, H) = stp (some 10) φ H (just (aFieldAddr E.T 70 (fget φ 2) 1)) := nrfl rfl
theorem s31_3_1 : stepA E C B 63 r31_3 o31_3_1 (φ, H) = stp (some 11) φ H (just (aFieldAddr E.T 70 (fget φ 2) 0)) := nrfl rfl
theorem s31_3_2 : stepA E C B 63 r31_3 o31_3_2 (φ, H) = stp (some 12) φ H (just (aLoad E.T 5 (fget φ 11))) := nrfl rfl
theorem s31_3_3 : stepA E C B 63 r31_3 o31_3_3 (φ, H) = stp (some 13) φ H (justO (aConv E.T 5 3 (fget φ 12))) := nrfl rfl
theorem s31_3_4 : stepA E C B 63 r31_3 o31_3_4 (φ, H) = some (fput φ 14 (fget φ 1), H) := nrfl rfl
theorem s31_3_5 : stepA E C B 63 r31_3 o31_3_5 (φ, H) = stp (some 15) φ H (just (aBin E.T .rem 3 (fget φ 13) (fget φ 14))) := nrfl rfl
theorem s31_3_6 : stepA E C B 63 r31_3 o31_3_6 (φ, H) = stp (some 16) φ H (just (aBin E.T .add 3 (.int .i64 1) (fget φ 15))) := nrfl rfl
theorem s31_3_7 : stepA E C B 63 r31_3 o31_3_7 (φ, H) = stp (some 17) φ H (just (aSlice E.T 68 (fget φ 10) none (some (fget φ 16)) none)) := nrfl rfl
theorem s31_3_8 : stepA E C B 63 r31_3 o31_3_8 (φ, H) = stp (some 18) φ H (aBuiltin E.T (B + 18) .len #[133] [(fget φ 17)]) := nrfl rfl
theorem s31_3_9 : stepA E C B 63 r31_3 o31_3_9 (φ, H) = some (fput φ 19 (.int .i64 0), H) := nrfl rfl
noncomputable def c31_9 : Code := kR c31_7
noncomputable def c31_10 : Code := kB c31_9
noncomputable def c31_11 : Code := kB c31_10
noncomputable def c31_12 : Code := kL c31_11
noncomputable def r31_4 : Array Oper := kO c31_12
noncomputable def o31_4_0 : Oper := opN r31_4 0
theorem x31_12 : execA E C (fg 31) B 63 E0 N c31_12 s = regX (runA E C B 63 r31_4 r31_4.toList s) (fun s => gcM E0 [] (forget s.1 [], s.2)) := x_reg (ops := r31_4) (by rfl) (by rfl) s
theorem r31_4_l : r31_4.toList = [o31_4_0] := nrfl rfl
theorem s31_4_0 : stepA E C B 63 r31_4 o31_4_0 (φ, H) = stp (some 20) φ H (just (aBin E.T .lss 3 (fget φ 19) (fget φ 18))) := nrfl rfl
noncomputable def c31_13 : Code := kR c31_11
noncomputable def c31_14 : Code := kL c31_13
noncomputable def c31_15 : Code := kT c31_14
theorem x31_15 : execA E C (fg 31) B 63 E0 N c31_15 s = some (.normal, s) := x_skip (by rfl) s
noncomputable def c31_16 : Code := kE c31_14
theorem x31_16 : execA E C (fg 31) B 63 E0 N c31_16 s = some (.exit 0, s) := x_exit (by rfl) s
theorem x31_14 : execA E C (fg 31) B 63 E0 N c31_14 (φ, H) = condX (fget φ 20) (execA E C (fg 31) B 63 E0 N c31_15 (φ, H)) (execA E C (fg 31) B 63 E0 N c31_16 (φ, H)) := x_cond (by rfl) _
noncomputable def c31_17 : Code := kR c31_13
noncomputable def c31_18 : Code := kL c31_17
noncomputable def c31_19 : Code := kB c31_18
noncomputable def c31_20 : Code := kL c31_19
noncomputable def r31_5 : Array Oper := kO c31_20
noncomputable def o31_5_0 : Oper := opN r31_5 0
noncomputable def o31_5_1 : Oper := opN r31_5 1
noncomputable def o31_5_2 : Oper := opN r31_5 2
noncomputable def o31_5_3 : Oper := opN r31_5 3
theorem x31_20 : execA E C (fg 31) B 63 E0 N c31_20 s = regX (runA E C B 63 r31_5 r31_5.toList s) (fun s => gcM E0 [20, 21, 22] (forget s.1 [20, 21, 22], s.2)) := x_reg (ops := r31_5) (by rfl) (by rfl) s
theorem r31_5_l : r31_5.toList = [o31_5_0, o31_5_1, o31_5_2, o31_5_3] := nrfl rfl
theorem s31_5_0 : stepA E C B 63 r31_5 o31_5_0 (φ, H) = stp (some 21) φ H (just (aIndexAddr E.T 133 (fget φ 17) (fget φ 19))) := nrfl rfl
theorem s31_5_1 : stepA E C B 63 r31_5 o31_5_1 (φ, H) = stp (some 22) φ H (just (aLoad E.T 67 (fget φ 21))) := nrfl rfl
theorem s31_5_2 : stepA E C B 63 r31_5 o31_5_2 (φ, H) = stp (some 8) φ H (opBox (B + 8) (zeroCells E.T 67)) := nrfl rfl
theorem s31_5_3 : stepA E C B 63 r31_5 o31_5_3 (φ, H) = stp none φ H (opStore E.T 67 (fget φ 8) (fget φ 22)) := nrfl rfl
noncomputable def c31_21 : Code := kR c31_19
noncomputable def c31_22 : Code := kL c31_21
noncomputable def r31_6 : Array Oper := kO c31_22
noncomputable def o31_6_0 : Oper := opN r31_6 0
noncomputable def o31_6_1 : Oper := opN r31_6 1
noncomputable def o31_6_2 : Oper := opN r31_6 2
noncomputable def o31_6_3 : Oper := opN r31_6 3
noncomputable def o31_6_4 : Oper := opN r31_6 4
noncomputable def o31_6_5 : Oper := opN r31_6 5
noncomputable def o31_6_6 : Oper := opN r31_6 6
noncomputable def o31_6_7 : Oper := opN r31_6 7
noncomputable def o31_6_8 : Oper := opN r31_6 8
noncomputable def o31_6_9 : Oper := opN r31_6 9
noncomputable def o31_6_10 : Oper := opN r31_6 10
noncomputable def o31_6_11 : Oper := opN r31_6 11
noncomputable def o31_6_12 : Oper := opN r31_6 12
noncomputable def o31_6_13 : Oper := opN r31_6 13
noncomputable def o31_6_14 : Oper := opN r31_6 14
noncomputable def o31_6_15 : Oper := opN r31_6 15
noncomputable def o31_6_16 : Oper := opN r31_6 16
noncomputable def o31_6_17 : Oper := opN r31_6 17
noncomputable def o31_6_18 : Oper := opN r31_6 18
noncomputable def o31_6_19 : Oper := opN r31_6 19
theorem x31_22 : execA E C (fg 31) B 63 E0 N c31_22 s = regX (runA E C B 63 r31_6 r31_6.toList s) (fun s => gcM E0 [6, 23, 24, 25, 26, 27, 28, 29, 30, 31, 32, 33, 34, 35, 36, 37, 38, 39, 40] (forget s.1 [6, 23, 24, 25, 26, 27, 28, 29, 30, 31, 32, 33, 34, 35, 36, 37, 38, 39, 40], s.2)) := x_reg (ops := r31_6) (by rfl) (by rfl) s
theorem r31_6_l : r31_6.toList = [o31_6_0, o31_6_1, o31_6_2, o31_6_3, o31_6_4, o31_6_5, o31_6_6, o31_6_7, o31_6_8, o31_6_9, o31_6_10, o31_6_11, o31_6_12, o31_6_13, o31_6_14, o31_6_15, o31_6_16, o31_6_17, o31_6_18, o31_6_19] := nrfl rfl
theorem s31_6_0 : stepA E C B 63 r31_6 o31_6_0 (φ, H) = stp (some 23) φ H (just (aIndexAddr E.T 67 (fget φ 8) (.int .i64 0))) := nrfl rfl
theorem s31_6_1 : stepA E C B 63 r31_6 o31_6_1 (φ, H) = stp (some 24) φ H (just (aLoad E.T 5 (fget φ 23))) := nrfl rfl
theorem s31_6_2 : stepA E C B 63 r31_6 o31_6_2 (φ, H) = stp (some 25) φ H (justO (aConv E.T 5 3 (fget φ 24))) := nrfl rfl
theorem s31_6_3 : stepA E C B 63 r31_6 o31_6_3 (φ, H) = stp (some 26) φ H (just (aBin E.T .rem 3 (fget φ 25) (.int .i64 12))) := nrfl rfl
theorem s31_6_4 : stepA E C B 63 r31_6 o31_6_4 (φ, H) = stp (some 27) φ H (just (aBin E.T .add 3 (.int .i64 1) (fget φ 26))) := nrfl rfl
theorem s31_6_5 : stepA E C B 63 r31_6 o31_6_5 (φ, H) = some (fput φ 28 (fget φ 6), H) := nrfl rfl
theorem s31_6_6 : stepA E C B 63 r31_6 o31_6_6 (φ, H) = stp (some 29) φ H (just (aBin E.T .add 3 (fget φ 28) (.int .i64 1))) := nrfl rfl
theorem s31_6_7 : stepA E C B 63 r31_6 o31_6_7 (φ, H) = stp (some 30) φ H (just (aIndexAddr E.T 67 (fget φ 8) (.int .i64 1))) := nrfl rfl
theorem s31_6_8 : stepA E C B 63 r31_6 o31_6_8 (φ, H) = stp (some 31) φ H (just (aLoad E.T 5 (fget φ 30))) := nrfl rfl
theorem s31_6_9 : stepA E C B 63 r31_6 o31_6_9 (φ, H) = stp (some 32) φ H (justO (aConv E.T 5 3 (fget φ 31))) := nrfl rfl
theorem s31_6_10 : stepA E C B 63 r31_6 o31_6_10 (φ, H) = stp (some 33) φ H (just (aBin E.T .rem 3 (fget φ 32) (.int .i64 15))) := nrfl rfl
theorem s31_6_11 : stepA E C B 63 r31_6 o31_6_11 (φ, H) = stp (some 34) φ H (just (aBin E.T .sub 3 (fget φ 29) (fget φ 33))) := nrfl rfl
theorem s31_6_12 : stepA E C B 63 r31_6 o31_6_12 (φ, H) = stp (some 35) φ H (just (aIndexAddr E.T 67 (fget φ 8) (.int .i64 2))) := nrfl rfl
theorem s31_6_13 : stepA E C B 63 r31_6 o31_6_13 (φ, H) = stp (some 36) φ H (just (aLoad E.T 5 (fget φ 35))) := nrfl rfl
theorem s31_6_14 : stepA E C B 63 r31_6 o31_6_14 (φ, H) = stp (some 37) φ H (justO (aConv E.T 5 3 (fget φ 36))) := nrfl rfl
theorem s31_6_15 : stepA E C B 63 r31_6 o31_6_15 (φ, H) = stp (some 38) φ H (just (aBin E.T .rem 3 (fget φ 37) (.int .i64 9))) := nrfl rfl
theorem s31_6_16 : stepA E C B 63 r31_6 o31_6_16 (φ, H) = stp (some 39) φ H (just (aBin E.T .add 3 (.int .i64 1) (fget φ 38))) := nrfl rfl
theorem s31_6_17 : stepA E C B 63 r31_6 o31_6_17 (φ, H) = stp (some 40) φ H (justO (aBuild E.T 45 (evO E φ) [(0, Operand.tmp 27), (1, Operand.tmp 34), (2, Operand.tmp 39)])) := nrfl rfl
theorem s31_6_18 : stepA E C B 63 r31_6 o31_6_18 (φ, H) = stp (some 9) φ H (opBox (B + 9) (zeroCells E.T 45)) := nrfl rfl
theorem s31_6_19 : stepA E C B 63 r31_6 o31_6_19 (φ, H) = stp none φ H (opStore E.T 45 (fget φ 9) (fget φ 40)) := nrfl rfl
noncomputable def c31_23 : Code := kR c31_21
noncomputable def c31_24 : Code := kL c31_23
noncomputable def r31_7 : Array Oper := kO c31_24
noncomputable def o31_7_0 : Oper := opN r31_7 0
noncomputable def o31_7_1 : Oper := opN r31_7 1
noncomputable def o31_7_2 : Oper := opN r31_7 2
noncomputable def o31_7_3 : Oper := opN r31_7 3
noncomputable def o31_7_4 : Oper := opN r31_7 4
noncomputable def o31_7_5 : Oper := opN r31_7 5
noncomputable def o31_7_6 : Oper := opN r31_7 6
noncomputable def o31_7_7 : Oper := opN r31_7 7
noncomputable def o31_7_8 : Oper := opN r31_7 8
noncomputable def o31_7_9 : Oper := opN r31_7 9
noncomputable def o31_7_10 : Oper := opN r31_7 10
noncomputable def o31_7_11 : Oper := opN r31_7 11
theorem x31_24 : execA E C (fg 31) B 63 E0 N c31_24 s = regX (drawA E C B 63 r31_7 s) (fun s => gcM E0 [8, 41, 42, 43, 44, 45, 46, 47, 48, 49, 50, 51] (forget s.1 [8, 41, 42, 43, 44, 45, 46, 47, 48, 49, 50, 51], s.2)) := x_draw (ops := r31_7) (by rfl) (by rfl) s
theorem r31_7_l : r31_7.toList = [o31_7_0, o31_7_1, o31_7_2, o31_7_3, o31_7_4, o31_7_5, o31_7_6, o31_7_7, o31_7_8, o31_7_9, o31_7_10, o31_7_11] := nrfl rfl
theorem r31_7_st : statOk r31_7 = true := by kernel_rfl
theorem r31_7_dr : drawA E C B 63 r31_7 s = if neat 63 s = true then drX r31_7 (runT E C B 63 r31_7 r31_7.toList 0 s) else none := draw_eq r31_7_st s
theorem r31_7_an (l : List (Nat × Tr)) : dynOk r31_7 l = (!writing l || dynPairs [[], [0], [], [2], [2, 3], [], [5], [5, 6], [2, 3, 4, 5, 6, 7], [0, 1, 2, 3, 4, 5, 6, 7, 8], [0, 1, 2, 3, 4, 5, 6, 7, 8, 9], [0, 1, 2, 3, 4, 5, 6, 7, 8, 9, 10]] (touching l)) := dynOk_eq (by kernel_rfl) l
theorem s31_7_0 : stepT E C B 63 r31_7 o31_7_0 (φ, H) = stpT (some 41) φ H (just (aFieldAddr E.T 45 (fget φ 9) 2)) := stT_go rfl (goT_R rfl rfl)
theorem s31_7_1 : stepT E C B 63 r31_7 o31_7_1 (φ, H) = stpT (some 42) φ H (just (aLoad E.T 3 (fget φ 41))) := stT_go rfl (goT_R rfl rfl)
theorem s31_7_2 : stepT E C B 63 r31_7 o31_7_2 (φ, H) = stpT (some 43) φ H (just (aIndexAddr E.T 67 (fget φ 8) (.int .i64 3))) := stT_go rfl (goT_R rfl rfl)
theorem s31_7_3 : stepT E C B 63 r31_7 o31_7_3 (φ, H) = stpT (some 44) φ H (just (aLoad E.T 5 (fget φ 43))) := stT_go rfl (goT_R rfl rfl)
theorem s31_7_4 : stepT E C B 63 r31_7 o31_7_4 (φ, H) = stpT (some 45) φ H (justO (aConv E.T 5 3 (fget φ 44))) := stT_go rfl (goT_R rfl rfl)
theorem s31_7_5 : stepT E C B 63 r31_7 o31_7_5 (φ, H) = stpT (some 46) φ H (just (aFieldAddr E.T 45 (fget φ 9) 2)) := stT_go rfl (goT_R rfl rfl)
theorem s31_7_6 : stepT E C B 63 r31_7 o31_7_6 (φ, H) = stpT (some 47) φ H (just (aLoad E.T 3 (fget φ 46))) := stT_go rfl (goT_R rfl rfl)
theorem s31_7_7 : stepT E C B 63 r31_7 o31_7_7 (φ, H) = stpT (some 48) φ H (just (aBin E.T .sub 3 (.int .i64 10) (fget φ 47))) := stT_go rfl (goT_R rfl rfl)
theorem s31_7_8 : stepT E C B 63 r31_7 o31_7_8 (φ, H) = stpT (some 49) φ H (just (aBin E.T .rem 3 (fget φ 45) (fget φ 48))) := stT_go rfl (goT_R rfl rfl)
theorem s31_7_9 : stepT E C B 63 r31_7 o31_7_9 (φ, H) = stpT (some 50) φ H (just (aBin E.T .add 3 (fget φ 42) (fget φ 49))) := stT_go rfl (goT_R rfl rfl)
theorem s31_7_10 : stepT E C B 63 r31_7 o31_7_10 (φ, H) = stpT (some 51) φ H (just (aFieldAddr E.T 45 (fget φ 9) 3)) := stT_go rfl (goT_R rfl rfl)
theorem s31_7_11 : stepT E C B 63 r31_7 o31_7_11 (φ, H) = stpT none φ H (opStore E.T 3 (fget φ 51) (fget φ 50)) := stT_go rfl (goT_R rfl rfl)
noncomputable def c31_25 : Code := kR c31_23
noncomputable def c31_26 : Code := kL c31_25
noncomputable def r31_8 : Array Oper := kO c31_26
noncomputable def o31_8_0 : Oper := opN r31_8 0
noncomputable def o31_8_1 : Oper := opN r31_8 1
noncomputable def o31_8_2 : Oper := opN r31_8 2
noncomputable def o31_8_3 : Oper := opN r31_8 3
noncomputable def o31_8_4 : Oper := opN r31_8 4
theorem x31_26 : execA E C (fg 31) B 63 E0 N c31_26 s = regX (runA E C B 63 r31_8 r31_8.toList s) (fun s => gcM E0 [52, 53, 54, 55] (forget s.1 [52, 53, 54, 55], s.2)) := x_reg (ops := r31_8) (by rfl) (by rfl) s
theorem r31_8_l : r31_8.toList = [o31_8_0, o31_8_1, o31_8_2, o31_8_3, o31_8_4] := nrfl rfl
theorem s31_8_0 : stepA E C B 63 r31_8 o31_8_0 (φ, H) = some (fput φ 52 (fget φ 5), H) := nrfl rfl
theorem s31_8_1 : stepA E C B 63 r31_8 o31_8_1 (φ, H) = stp (some 53) φ H (just (aLoad E.T 45 (fget φ 9))) := nrfl rfl
theorem s31_8_2 : stepA E C B 63 r31_8 o31_8_2 (φ, H) = stp (some 54) φ H (aBuildSlice E.T (B + 54) 22 1 (evO E φ) [(0, Operand.tmp 53)]) := nrfl rfl
theorem s31_8_3 : stepA E C B 63 r31_8 o31_8_3 (φ, H) = stp (some 55) φ H (aBuiltin E.T (B + 55) .append #[22, 22] [(fget φ 52), (fget φ 54)]) := nrfl rfl
theorem s31_8_4 : stepA E C B 63 r31_8 o31_8_4 (φ, H) = some (fput φ 5 (fget φ 55), H) := nrfl rfl
noncomputable def c31_27 : Code := kR c31_25
noncomputable def r31_9 : Array Oper := kO c31_27
noncomputable def o31_9_0 : Oper := opN r31_9 0
noncomputable def o31_9_1 : Oper := opN r31_9 1
noncomputable def o31_9_2 : Oper := opN r31_9 2
noncomputable def o31_9_3 : Oper := opN r31_9 3
noncomputable def o31_9_4 : Oper := opN r31_9 4
noncomputable def o31_9_5 : Oper := opN r31_9 5
theorem x31_27 : execA E C (fg 31) B 63 E0 N c31_27 s = regX (runA E C B 63 r31_9 r31_9.toList s) (fun s => gcM E0 [9, 56, 57, 58, 59, 60] (forget s.1 [9, 56, 57, 58, 59, 60], s.2)) := x_reg (ops := r31_9) (by rfl) (by rfl) s
theorem r31_9_l : r31_9.toList = [o31_9_0, o31_9_1, o31_9_2, o31_9_3, o31_9_4, o31_9_5] := nrfl rfl
theorem s31_9_0 : stepA E C B 63 r31_9 o31_9_0 (φ, H) = stp (some 56) φ H (just (aFieldAddr E.T 45 (fget φ 9) 1)) := nrfl rfl
theorem s31_9_1 : stepA E C B 63 r31_9 o31_9_1 (φ, H) = stp (some 57) φ H (just (aLoad E.T 3 (fget φ 56))) := nrfl rfl
theorem s31_9_2 : stepA E C B 63 r31_9 o31_9_2 (φ, H) = stp (some 58) φ H (just (aFieldAddr E.T 45 (fget φ 9) 0)) := nrfl rfl
theorem s31_9_3 : stepA E C B 63 r31_9 o31_9_3 (φ, H) = stp (some 59) φ H (just (aLoad E.T 3 (fget φ 58))) := nrfl rfl
theorem s31_9_4 : stepA E C B 63 r31_9 o31_9_4 (φ, H) = stp (some 60) φ H (just (aBin E.T .add 3 (fget φ 57) (fget φ 59))) := nrfl rfl
theorem s31_9_5 : stepA E C B 63 r31_9 o31_9_5 (φ, H) = some (fput φ 6 (fget φ 60), H) := nrfl rfl
theorem x31_25 : execA E C (fg 31) B 63 E0 N c31_25 s = seqX (execA E C (fg 31) B 63 E0 N c31_26 s) (execA E C (fg 31) B 63 E0 N c31_27) := x_seq (by rfl) s
theorem x31_23 : execA E C (fg 31) B 63 E0 N c31_23 s = seqX (execA E C (fg 31) B 63 E0 N c31_24 s) (execA E C (fg 31) B 63 E0 N c31_25) := x_seq (by rfl) s
theorem x31_21 : execA E C (fg 31) B 63 E0 N c31_21 s = seqX (execA E C (fg 31) B 63 E0 N c31_22 s) (execA E C (fg 31) B 63 E0 N c31_23) := x_seq (by rfl) s
theorem x31_19 : execA E C (fg 31) B 63 E0 N c31_19 s = seqX (execA E C (fg 31) B 63 E0 N c31_20 s) (execA E C (fg 31) B 63 E0 N c31_21) := x_seq (by rfl) s
theorem x31_18 : execA E C (fg 31) B 63 E0 N c31_18 s = blockX 1 (fun s => (forget s.1 [], s.2)) (execA E C (fg 31) B 63 E0 N c31_19 s) := x_block (by rfl) (by rfl) s
noncomputable def c31_28 : Code := kR c31_17
noncomputable def r31_10 : Array Oper := kO c31_28
noncomputable def o31_10_0 : Oper := opN r31_10 0
noncomputable def o31_10_1 : Oper := opN r31_10 1
theorem x31_28 : execA E C (fg 31) B 63 E0 N c31_28 s = regX (runA E C B 63 r31_10 r31_10.toList s) (fun s => gcM E0 [61] (forget s.1 [61], s.2)) := x_reg (ops := r31_10) (by rfl) (by rfl) s
theorem r31_10_l : r31_10.toList = [o31_10_0, o31_10_1] := nrfl rfl
theorem s31_10_0 : stepA E C B 63 r31_10 o31_10_0 (φ, H) = stp (some 61) φ H (just (aBin E.T .add 3 (fget φ 19) (.int .i64 1))) := nrfl rfl
theorem s31_10_1 : stepA E C B 63 r31_10 o31_10_1 (φ, H) = some (fput φ 19 (fget φ 61), H) := nrfl rfl
theorem x31_17 : execA E C (fg 31) B 63 E0 N c31_17 s = seqX (execA E C (fg 31) B 63 E0 N c31_18 s) (execA E C (fg 31) B 63 E0 N c31_28) := x_seq (by rfl) s
theorem x31_13 : execA E C (fg 31) B 63 E0 N c31_13 s = seqX (execA E C (fg 31) B 63 E0 N c31_14 s) (execA E C (fg 31) B 63 E0 N c31_17) := x_seq (by rfl) s
theorem x31_11 : execA E C (fg 31) B 63 E0 N c31_11 s = seqX (execA E C (fg 31) B 63 E0 N c31_12 s) (execA E C (fg 31) B 63 E0 N c31_13) := x_seq (by rfl) s
theorem x31_10 : execA E C (fg 31) B 63 E0 N c31_10 s = iterA (execA E C (fg 31) B 63 E0 N c31_11) (headA E0) N s := x_loop (by rfl) s
theorem x31_9 : execA E C (fg 31) B 63 E0 N c31_9 s = blockX 0 (fun s => (forget s.1 [6, 17, 18, 19, 20], s.2)) (execA E C (fg 31) B 63 E0 N c31_10 s) := x_block (by rfl) (by rfl) s
theorem x31_7 : execA E C (fg 31) B 63 E0 N c31_7 s = seqX (execA E C (fg 31) B 63 E0 N c31_8 s) (execA E C (fg 31) B 63 E0 N c31_9) := x_seq (by rfl) s
noncomputable def c31_29 : Code := kR c31_6
noncomputable def c31_30 : Code := kL c31_29
noncomputable def r31_11 : Array Oper := kO c31_30
noncomputable def o31_11_0 : Oper := opN r31_11 0
noncomputable def o31_11_1 : Oper := opN r31_11 1
theorem x31_30 : execA E C (fg 31) B 63 E0 N c31_30 s = regX (runA E C B 63 r31_11 r31_11.toList s) (fun s => gcM E0 [5, 62] (forget s.1 [5, 62], s.2)) := x_reg (ops := r31_11) (by rfl) (by rfl) s
theorem r31_11_l : r31_11.toList = [o31_11_0, o31_11_1] := nrfl rfl
theorem s31_11_0 : stepA E C B 63 r31_11 o31_11_0 (φ, H) = some (fput φ 62 (fget φ 5), H) := nrfl rfl
theorem s31_11_1 : stepA E C B 63 r31_11 o31_11_1 (φ, H) = some (fput φ 4 (fget φ 62), H) := nrfl rfl
noncomputable def c31_31 : Code := kR c31_29
theorem x31_31 : execA E C (fg 31) B 63 E0 N c31_31 s = some (.ret, s) := x_ret (by rfl) s
theorem x31_29 : execA E C (fg 31) B 63 E0 N c31_29 s = seqX (execA E C (fg 31) B 63 E0 N c31_30 s) (execA E C (fg 31) B 63 E0 N c31_31) := x_seq (by rfl) s
theorem x31_6 : execA E C (fg 31) B 63 E0 N c31_6 s = seqX (execA E C (fg 31) B 63 E0 N c31_7 s) (execA E C (fg 31) B 63 E0 N c31_29) := x_seq (by rfl) s
theorem x31_4 : execA E C (fg 31) B 63 E0 N c31_4 s = seqX (execA E C (fg 31) B 63 E0 N c31_5 s) (execA E C (fg 31) B 63 E0 N c31_6) := x_seq (by rfl) s
theorem x31_2 : execA E C (fg 31) B 63 E0 N c31_2 s = seqX (execA E C (fg 31) B 63 E0 N c31_3 s) (execA E C (fg 31) B 63 E0 N c31_4) := x_seq (by rfl) s
theorem x31_0 : execA E C (fg 31) B 63 E0 N c31_0 s = seqX (execA E C (fg 31) B 63 E0 N c31_1 s) (execA E C (fg 31) B 63 E0 N c31_2) := x_seq (by rfl) s
theorem fi_31 : fInfo E 31 = some ⟨63, #[.tmp 4], c31_0⟩ := nrfl rfl
theorem b_31 (args : List AV) : bodyA E C fg N 31 args H B = bodyX E [.tmp 4] (execA E C (fg 31) B 63 H N c31_0 (frame0 args 0 [], H)) := bodyA_eq fi_31 args H
end Go.AM.Ytmhbnflnlglljaa
end

section
namespace Go.AM
/-- A result that leads to one new block, at the first free place. -/
noncomputable def back1 (k : Nat) (seen : List Nat) (r : Nat → AV) (b : Blk) : Rd (AV × Ups) :=
  (freeOff [k] 6 0).bind fun off => (freeAll [k + off]).bind fun _ => (frz seen).bind fun us => .pure (r (k + off), us ++ [(k + off, b)])
theorem back1_eq (k : Nat) (seen : List Nat) (r : Nat → AV) (b : Blk) : ∃ no : Blk → Rd (AV × Ups), back1 k seen r b = .get k fun
    | none => .get k fun
      | none => (frz seen).bind fun us => .pure (r k, us ++ [(k, b)])
      | some _ => .fail
    | some b => no b := by
  refine ⟨fun _ => (freeOff [k] 5 1048576).bind fun off => (freeAll [k + off]).bind fun _ => (frz seen).bind fun us => .pure (r (k + off), us ++ [(k + off, b)]), ?_⟩
  simp only [back1, freeOff, List.map_cons, List.map_nil, allFree, Rd.bind, Nat.add_zero]
  congr 1
  funext x
  cases x with
  | none =>
    simp only [Rd.bind, freeAll, Nat.add_zero]
    congr 1
    funext y
    cases y <;> rfl
  | some _ => rfl
theorem back1_run {k : Nat} {seen : List Nat} {r : Nat → AV} {b : Blk} {H : AHeap} (h : hget H k = none) : (back1 k seen r b).run H = ((frz seen).bind fun us => .pure (r k, us ++ [(k, b)])).run H := by
  obtain ⟨no, e⟩ := back1_eq k seen r b
  rw [e]; simp only [Rd.run, h]
theorem back1_foot {k : Nat} {seen : List Nat} {r : Nat → AV} {b : Blk} {H : AHeap} (h : hget H k = none) : (back1 k seen r b).foot H = k :: k :: ((frz seen).bind fun us => .pure (r k, us ++ [(k, b)])).foot H := by
  obtain ⟨no, e⟩ := back1_eq k seen r b
  rw [e]; simp only [Rd.foot, h]
noncomputable def back1N (k : Nat) (seen : List Nat) (r : Nat → AV) (b : Blk) : Rd (AV × Ups) := back1 k seen r b
theorem back1_r {k : Nat} {seen : List Nat} {r : Nat → AV} {b : Blk} {H : AHeap} : (back1 k seen r b).run H = match hget H k with
    | none => ((frz seen).bind fun us => .pure (r k, us ++ [(k, b)])).run H
    | some _ => (back1N k seen r b).run H := by
  cases h : hget H k with
  | none => exact back1_run h
  | some _ => rfl
theorem back1_f {k : Nat} {seen : List Nat} {r : Nat → AV} {b : Blk} {H : AHeap} : (back1 k seen r b).foot H = match hget H k with
    | none => k :: k :: ((frz seen).bind fun us => .pure (r k, us ++ [(k, b)])).foot H
    | some _ => (back1N k seen r b).foot H := by
  cases h : hget H k with
  | none => exact back1_foot h
  | some _ => rfl
theorem aBack_ref {C : Callee} {site : Nat → Nat} {seen : List Nat} {f : FuncId} {args : List AV} {id n sz : Nat} {cells : List AV} {H' : AHeap} (h : C f args [] 0 = some (.ref id 0 n n cells.length sz false, H')) (hg : hget H' id = some ⟨.row, cells⟩) :
    aBack site true seen (thaw C f args [] 0) = back1 (site 0) seen (fun k => .ref k 0 n n cells.length sz false) ⟨.row, cells⟩ := by
  simp only [thaw, h, frzRet, aBack, sitesB, aBackAt, imp, hg, List.length_nil, List.not_mem_nil, not_false_eq_true, and_true, if_true, List.map_cons, List.map_nil, AM.apart, List.elem_nil, Bool.not_false, Bool.and_true, AV.leads, back1]
theorem aBack_refint {C : Callee} {site : Nat → Nat} {seen : List Nat} {f : FuncId} {args : List AV} {id n sz : Nat} {k : IntKind} {z : Int} {cells : List AV} {H' : AHeap} (h : C f args [] 0 = some (.tup [.ref id 0 n n cells.length sz false, .int k z], H')) (hg : hget H' id = some ⟨.row, cells⟩) :
    aBack site true seen (thaw C f args [] 0) = back1 (site 0) seen (fun j => .tup [.ref j 0 n n cells.length sz false, .int k z]) ⟨.row, cells⟩ := by
  simp only [thaw, h, frzRet, aBack, sitesB, aBackAt, imp, imps, hg, List.length_nil, List.not_mem_nil, not_false_eq_true, and_true, if_true, List.map_cons, List.map_nil, AM.apart, List.elem_nil, Bool.not_false, Bool.and_true, AV.leads, AV.leads.leadsL, Bool.or_false, back1]
theorem aBack_nilint {C : Callee} {site : Nat → Nat} {seen : List Nat} {f : FuncId} {args : List AV} {k' : IntKind} {z' : Int} (h : ∃ H', C f args [] 0 = some (.tup [.nilsl, .int k' z'], H')) : aBack site true seen (thaw C f args [] 0) = .pure (.tup [.nilsl, .int k' z'], []) := by
  obtain ⟨H', h⟩ := h; exact aBack_plain h rfl (fun _ => rfl) rfl
end Go.AM
end

section
namespace Go.AM
theorem seqN (s : St) (k) : seqX (some (.normal, s)) k = k s := nrfl rfl
theorem bindN (s : St) (k) : bindR (some s) k = k s := nrfl rfl
theorem regN (s : St) (k) : regX (some s) k = some (.normal, k s) := nrfl rfl
theorem snap_int (d : Nat) (k : IntKind) (z : Int) : snap (d + 1) (.int k z) = .pure (.int k z, []) := rfl
theorem snap_nilsl (d : Nat) : snap (d + 1) .nilsl = .pure (.nilsl, []) := rfl
theorem snap_imm (d : Nat) (c : List AV) (n : Nat) (ex : Bool) : snap (d + 1) (.imm c n ex) = .pure (.imm c n ex, []) := rfl
theorem snap_ref (d id off len cap gl sz : Nat) (ex : Bool) : snap (d + 1) (.ref id off len cap gl sz ex) = (Rd.liveBlk id gl).bind fun b =>
      if off + len * sz ≤ b.cells.length then
        match b.st with
        | .box => (snaps d ((b.cells.drop off).take (len * sz))).bind fun x =>
          .pure (.imm x.1 len (ex && decide (cap = len)), id :: x.2)
        | _ => .pure (.imm ((b.cells.drop off).take (len * sz)) len (ex && decide (cap = len)), [id])
      else .fail := rfl
theorem snap_ptr' (d id off gl : Nat) : snap (d + 1) (.ptr id off gl) = (Rd.liveBlk id gl).bind fun b =>
      match b.st with
      | .box => (snaps d b.cells).bind fun x => .pure (.iptr x.1 off, id :: x.2)
      | _ => .pure (.iptr b.cells off, [id]) := rfl
theorem snap_iptr (d : Nat) (c : List AV) (n : Nat) : snap (d + 1) (.iptr c n) = .pure (.iptr c n, []) := rfl
theorem snap_bool (d : Nat) (b : Bool) : snap (d + 1) (.bool b) = .pure (.bool b, []) := rfl
theorem snap_nilfunc (d : Nat) : snap (d + 1) .nilfunc = .pure (.nilfunc, []) := rfl
theorem snap_agg (d : Nat) (vs : List AV) : snap (d + 1) (.agg vs) = (snaps d vs).bind fun x => .pure (.agg x.1, x.2) := rfl
theorem snap_tup (d : Nat) (vs : List AV) : snap (d + 1) (.tup vs) = (snaps d vs).bind fun x => .pure (.tup x.1, x.2) := rfl
theorem snap_clo (d : Nat) (f : FuncId) (vs : List AV) : snap (d + 1) (.clo f vs) = (snaps d vs).bind fun x => .pure (.clo f x.1, x.2) := rfl
/-- A block is frozen. -/
def frzB (s : BS) (cs : List AV) (i : Nat) (r : Rd Ups) : Rd Ups :=
  match s, cs.all AV.flat with
  | .box, false => .fail
  | .mp, _ => .fail
  | _, _ => r.bind fun us => .pure ((i, ⟨.froz, cs⟩) :: us)
theorem frz_nil : frz [] = .pure [] := rfl
theorem frz_eq (i : Nat) (is : List Nat) : frz (i :: is) = .get i fun
    | some b => frzB b.st b.cells i (frz is)
    | none => .fail := rfl
theorem frzB_row (cs : List AV) (i : Nat) (r : Rd Ups) : frzB .row cs i r = r.bind fun us => .pure ((i, ⟨.froz, cs⟩) :: us) := rfl
theorem frzB_froz (cs : List AV) (i : Nat) (r : Rd Ups) : frzB .froz cs i r = r.bind fun us => .pure ((i, ⟨.froz, cs⟩) :: us) := rfl
theorem frzB_box (cs : List AV) (i : Nat) (r : Rd Ups) : frzB .box cs i r = if cs.all AV.flat = true then r.bind fun us => .pure ((i, ⟨.froz, cs⟩) :: us) else .fail := by
  unfold frzB; cases cs.all AV.flat <;> rfl
theorem snaps_flat : ∀ (l : List AV) (d : Nat), (∀ a ∈ l, ∃ k z, a = AV.int k z) → l.length + 2 ≤ d → snaps d l = .pure (l, [])
  | [], d + 1, _, _ => by simp only [snaps]
  | a :: l, d + 1, h, hd => by
    obtain ⟨k, z, rfl⟩ := h a (List.mem_cons_self ..)
    have hd2 : l.length + 2 ≤ d := by simp only [List.length_cons] at hd; omega
    have ih := snaps_flat l d (fun a ha => h a (List.mem_cons_of_mem _ ha)) hd2
    obtain ⟨e, rfl⟩ : ∃ e, d = e + 1 := ⟨d - 1, by omega⟩
    simp only [snaps, snap, ih, Rd.bind, List.nil_append]
end Go.AM
namespace Go.AM.Ytmhbnflnlglljaa
open Go Go.AM
theorem cl0 : ((0 : Nat) : Int) = 0 := rfl
theorem cl1 : ((1 : Nat) : Int) = 1 := rfl
theorem cl2 : ((2 : Nat) : Int) = 2 := rfl
theorem cl3 : ((3 : Nat) : Int) = 3 := rfl
theorem cl4 : ((4 : Nat) : Int) = 4 := rfl
theorem cl5 : ((5 : Nat) : Int) = 5 := rfl
end Go.AM.Ytmhbnflnlglljaa
end

section
namespace Go.AM.Ytmhbnflnlglljaa
open Go Go.AM
set_option maxRecDepth 100000
set_option maxHeartbeats 4000000
/-- Four numbers of eight bits. -/
structure Q where
  a : Int
  b : Int
  c : Int
  d : Int
deriving Inhabited
structure QOk (q : Q) : Prop where
  a : 0 ≤ q.a ∧ q.a ≤ 255
  b : 0 ≤ q.b ∧ q.b ≤ 255
  c : 0 ≤ q.c ∧ q.c ≤ 255
  d : 0 ≤ q.d ∧ q.d ≤ 255
def qc (q : Q) : List AV := [.int .u8 q.a, .int .u8 q.b, .int .u8 q.c, .int .u8 q.d]
def qcells : List Q → List AV
  | [] => []
  | q :: l => qc q ++ qcells l
def hcells (m : Int) (qs : List Q) : List AV := .int .u8 m :: qcells qs
theorem qcells_length : ∀ (l : List Q), (qcells l).length = l.length * 4
  | [] => rfl
  | s :: l => by simp [qcells, qc, qcells_length l]; omega
theorem hcells_length {m : Int} {qs : List Q} (h : qs.length = 5) : (hcells m qs).length = 21 := by
  simp [hcells, qcells_length, h]
theorem qcells_at : ∀ (l : List Q) (k : Nat) (s : Q), l[k]? = some s → ((qcells l).drop (k * 4)).take 4 = qc s
  | [], k, s, h => by simp at h
  | a :: l, 0, s, h => by simp at h; subst h; simp [qcells, qc]
  | a :: l, k + 1, s, h => by
    simp at h
    have := qcells_at l k s h
    have e : (k + 1) * 4 = k * 4 + 4 := by omega
    rw [e, qcells, show k * 4 + 4 = 4 + k * 4 by omega, ← List.drop_drop]
    simpa [qc] using this
theorem hcells_at {m : Int} {qs : List Q} {k : Nat} {q : Q} (h : qs[k]? = some q) : ((hcells m qs).drop (1 + k * 4)).take 4 = [.int .u8 q.a, .int .u8 q.b, .int .u8 q.c, .int .u8 q.d] := by
  have := qcells_at qs k q h
  rw [hcells, show 1 + k * 4 = k * 4 + 1 by omega, List.drop_succ_cons]
  exact this
def mk (e : Int) (q : Q) : Stone := ⟨1 + q.a.tmod 12, e + 1 - q.b.tmod 15, 1 + q.c.tmod 9, 1 + q.c.tmod 9 + q.d.tmod (10 - (1 + q.c.tmod 9))⟩
def edgeN (qs : List Q) : Nat → Int
  | 0 => 0
  | i + 1 => (mk (edgeN qs i) (qs.getD i default)).pos + (mk (edgeN qs i) (qs.getD i default)).half
def stN (qs : List Q) (i : Nat) : Stone := mk (edgeN qs i) (qs.getD i default)
def nOf (m : Int) : Nat := (1 + m.tmod 5).toNat
def madeI (qs : List Q) (i : Nat) : List Stone := (List.range i).map (stN qs)
def madeL (m : Int) (qs : List Q) : List Stone := madeI qs (nOf m)
theorem madeI_length (qs : List Q) (i : Nat) : (madeI qs i).length = i := by simp [madeI]
theorem madeI_succ (qs : List Q) (i : Nat) : madeI qs (i + 1) = madeI qs i ++ [stN qs i] := by simp [madeI, List.range_succ]
theorem tmod_b {x : Int} (h : 0 ≤ x) (k : Int) (hk : 0 < k) : 0 ≤ x.tmod k ∧ x.tmod k ≤ k - 1 := by
  rw [Int.tmod_eq_emod_of_nonneg h]
  exact ⟨Int.emod_nonneg _ (by omega), by have := Int.emod_lt_of_pos x hk; omega⟩
structure Mk (e : Int) (s : Stone) : Prop where
  h1 : 1 ≤ s.half
  h2 : s.half ≤ 12
  p1 : e - 13 ≤ s.pos
  p2 : s.pos ≤ e + 1
  l1 : 1 ≤ s.least
  l2 : s.least ≤ 9
  lm : s.least ≤ s.most
  m9 : s.most ≤ 9
theorem mk_ok {e : Int} {q : Q} (h : QOk q) : Mk e (mk e q) := by
  obtain ⟨a1, a2⟩ := tmod_b h.a.1 12 (by omega)
  obtain ⟨b1, b2⟩ := tmod_b h.b.1 15 (by omega)
  obtain ⟨c1, c2⟩ := tmod_b h.c.1 9 (by omega)
  obtain ⟨d1, d2⟩ := tmod_b h.d.1 (10 - (1 + q.c.tmod 9)) (by omega)
  constructor <;> simp only [mk] <;> omega
structure HOk (m : Int) (qs : List Q) : Prop where
  m : 0 ≤ m ∧ m ≤ 255
  l : qs.length = 5
  q : ∀ (i : Nat) (q : Q), qs[i]? = some q → QOk q
theorem edge_b {m : Int} {qs : List Q} (h : HOk m qs) : ∀ i : Nat, i ≤ 5 → -(13 * (i : Int)) ≤ edgeN qs i ∧ edgeN qs i ≤ 13 * i
  | 0, _ => by simp [edgeN]
  | i + 1, hi => by
    obtain ⟨q, hq⟩ := at_ex (l := qs) (k := i) (by have := h.l; omega)
    have e : qs.getD i default = q := by simp [hq]
    have := edge_b h i (by omega)
    obtain ⟨h1, h2, p1, p2, _, _, _, _⟩ := mk_ok (e := edgeN qs i) (h.q i q hq)
    simp only [edgeN, e]
    omega
theorem nOf_b {m : Int} {qs : List Q} (h : HOk m qs) : 1 ≤ nOf m ∧ nOf m ≤ 5 ∧ (1 + m.tmod 5) = (nOf m : Int) := by
  obtain ⟨a, b⟩ := tmod_b h.m.1 5 (by omega)
  unfold nOf
  omega
theorem made_okP {m : Int} {qs : List Q} (h : HOk m qs) : OkP (madeL m qs) := by
  obtain ⟨n1, n2, _⟩ := nOf_b h
  refine ⟨by rw [madeL, madeI_length]; exact n1, by rw [madeL, madeI_length]; exact n2, fun k s hs => ?_⟩
  have hk := at_lt hs
  rw [madeL, madeI_length] at hk
  simp only [madeL, madeI, List.getElem?_map, List.getElem?_range hk, Option.map_some, Option.some.injEq] at hs
  obtain ⟨q, hq⟩ := at_ex (l := qs) (k := k) (by have := h.l; omega)
  have e : qs.getD k default = q := by simp [hq]
  obtain ⟨h1, h2, p1, p2, l1, l2, lm, m9⟩ := mk_ok (e := edgeN qs k) (h.q k q hq)
  have := edge_b h k (by omega)
  rw [← hs, stN, e]
  exact ⟨h1, by omega, by omega, by omega, l1, lm, m9⟩
theorem room44 {n : Nat} (h : n ≤ 1000000) : roomOk E.T 45 n = true := by
  simp only [roomOk, T_45, decide_eq_true_eq]; exact ⟨by decide, rfl, by omega⟩
def poutV (id : Nat) : List Stone → AV
  | [] => .nilsl
  | s :: l => .ref id 0 (l.length + 1) (l.length + 1) ((l.length + 1) * 4) 4 false
def poutH (id : Nat) : List Stone → AHeap
  | [] => []
  | s :: l => [(id, ⟨.row, pcells (s :: l)⟩)]
theorem pcells_snoc : ∀ (l : List Stone) (s : Stone), pcells l ++ sc s = pcells (l ++ [s])
  | [], s => by simp [pcells]
  | a :: l, s => by simp only [pcells, List.append_assoc, List.cons_append]; rw [pcells_snoc l s]
theorem poutV_ne {id : Nat} {l : List Stone} (h : 0 < l.length) : poutV id l = .ref id 0 l.length l.length (l.length * 4) 4 false ∧ poutH id l = [(id, ⟨.row, pcells l⟩)] := by
  cases l with
  | nil => simp at h
  | cons a o => exact ⟨rfl, rfl⟩
theorem made_round {C : Callee} {m : Int} {qs : List Q} (h : HOk m qs) (n i : Nat) (hn : n ≤ 5) (hi : i < n) (out : List Stone) (ho : out.length = i) :
    ∃ s', execA E C (fg 31) 0 63 [] 1000 c31_11 ([(19, .int .i64 i), (18, .int .i64 n), (17, .ref 2 1 n 5 21 4 true), (6, .int .i64 (edgeN qs i)), (5, poutV 55 out)], (2, ⟨.box, hcells m qs⟩) :: poutH 55 out) = some (.normal, s') ∧
      headA [] s' = ([(19, .int .i64 (i + 1 : Nat)), (18, .int .i64 n), (17, .ref 2 1 n 5 21 4 true), (6, .int .i64 (edgeN qs (i + 1))), (5, poutV 55 (out ++ [stN qs i]))], (2, ⟨.box, hcells m qs⟩) :: poutH 55 (out ++ [stN qs i])) := by
  obtain ⟨q, hq⟩ := at_ex (l := qs) (k := i) (by have := h.l; omega)
  have eq : qs.getD i default = q := by simp [hq]
  have hqo := h.q i q hq
  obtain ⟨a1, a2⟩ := tmod_b hqo.a.1 12 (by omega)
  obtain ⟨b1, b2⟩ := tmod_b hqo.b.1 15 (by omega)
  obtain ⟨c1, c2⟩ := tmod_b hqo.c.1 9 (by omega)
  obtain ⟨d1, d2⟩ := tmod_b hqo.d.1 (10 - (1 + q.c.tmod 9)) (by omega)
  obtain ⟨e1, e2⟩ := edge_b h i (by omega)
  have w1 : wrp .i64 q.a = q.a := wrp64 (by have := hqo.a; omega)
  have w2 : wrp .i64 q.b = q.b := wrp64 (by have := hqo.b; omega)
  have w3 : wrp .i64 q.c = q.c := wrp64 (by have := hqo.c; omega)
  have w4 : wrp .i64 q.d = q.d := wrp64 (by have := hqo.d; omega)
  have w5 : wrp .i64 (1 + q.a.tmod 12) = 1 + q.a.tmod 12 := wrp64 (by omega)
  have w6 : wrp .i64 (edgeN qs i + 1) = edgeN qs i + 1 := wrp64 (by omega)
  have w7 : wrp .i64 (edgeN qs i + 1 - q.b.tmod 15) = edgeN qs i + 1 - q.b.tmod 15 := wrp64 (by omega)
  have w8 : wrp .i64 (1 + q.c.tmod 9) = 1 + q.c.tmod 9 := wrp64 (by omega)
  have w9 : wrp .i64 (10 - (1 + q.c.tmod 9)) = 10 - (1 + q.c.tmod 9) := wrp64 (by omega)
  have w10 : wrp .i64 (1 + q.c.tmod 9 + q.d.tmod (10 - (1 + q.c.tmod 9))) = 1 + q.c.tmod 9 + q.d.tmod (10 - (1 + q.c.tmod 9)) := wrp64 (by omega)
  have w11 : wrp .i64 (edgeN qs i + 1 - q.b.tmod 15 + (1 + q.a.tmod 12)) = edgeN qs i + 1 - q.b.tmod 15 + (1 + q.a.tmod 12) := wrp64 (by omega)
  have n1 : ¬ (10 - (1 + q.c.tmod 9) = 0) := by omega
  have hlen := hcells_length (m := m) h.l
  have hat := hcells_at (m := m) hq
  have hoff : 1 + i * 4 + 4 ≤ 21 := by omega
  have hst : stN qs i = ⟨1 + q.a.tmod 12, edgeN qs i + 1 - q.b.tmod 15, 1 + q.c.tmod 9, 1 + q.c.tmod 9 + q.d.tmod (10 - (1 + q.c.tmod 9))⟩ := by rw [stN, eq]; rfl
  have hed : edgeN qs (i + 1) = edgeN qs i + 1 - q.b.tmod 15 + (1 + q.a.tmod 12) := by simp only [edgeN, eq]; rfl
  have hin : (i : Int) < n := by omega
  rw [hst, hed]
  cases out with
  | nil =>
    simp only [poutV, poutH, List.nil_append]
    simp only [seqX_normal, bindR_some, regX_some, condX_bool, blockX_normal, Bool.not_true, Bool.not_false, run_nil, run_cons, fget_cons', fput_cons', forget_nil, forget_cons', hget_nil', hget_cons', hset_nil', hset_cons', gcM_n, gcM_c, stp, opBox, justO, just, Rd.bind, Rd.run, Rd.opt, upds, acells, zeroCells, tsz, elemT, rdCells, fieldOf, aFieldAddr, aLoad, aStore, opStore, fresh, aIndexAddr, aNum, aBuiltin, aBin, aInt, putC, evO, Nat.reduceAdd, Nat.reduceMul, Nat.reduceLT, Nat.reduceGT, Nat.reduceBEq, Nat.reduceEqDiff, Nat.reduceLeDiff, ↓reduceIte, reduceCtorEq, liveBlk_eq, Nat.zero_add, Nat.add_zero, ne_eq, List.nil_append, List.getElem?_toArray, rtX_some, addT_some, drX_some, runT_nil, runT_cons, neat_eq, descF_nil', descF_cons', ascH_nil', ascH_cons', stpT, Rd.foot, writing, touching, Tr.empty, dynPairs, apartT, disj, List.isEmpty_nil, List.isEmpty_cons, List.map_nil, List.map_cons, Bool.not_false, Bool.not_true, Bool.true_or, Bool.or_true, Bool.or_false, Bool.and_true, Bool.true_and, Bool.and_self, decide_true, not_true_eq_false, or_self, aBuildSlice, partsOf, fillA, repC, frz, isSliceT, aAppend, srcOf, window, putD_some, putD_none, and_true, Int.natCast_nonneg, Int.ofNat_lt, Int.toNat_natCast, snaps, snap, List.append_nil, Option.map_some, List.elem_cons, List.elem_nil, List.length_cons, List.length_nil, List.getElem?_cons_zero, List.getElem?_cons_succ, List.drop_zero, List.take_succ_cons, List.take_nil, List.set_cons_zero, List.set_cons_succ, T_3, T_22, T_45, T_5, T_67, T_133, x31_12, r31_4_l, s31_4_0, x31_15, x31_16, x31_14, x31_20, r31_5_l, s31_5_0, s31_5_1, s31_5_2, s31_5_3, x31_22, r31_6_l, s31_6_0, s31_6_1, s31_6_2, s31_6_3, s31_6_4, s31_6_5, s31_6_6, s31_6_7, s31_6_8, s31_6_9, s31_6_10, s31_6_11, s31_6_12, s31_6_13, s31_6_14, s31_6_15, s31_6_16, s31_6_17, s31_6_18, s31_6_19, x31_24, r31_7_l, r31_7_dr, r31_7_an, s31_7_0, s31_7_1, s31_7_2, s31_7_3, s31_7_4, s31_7_5, s31_7_6, s31_7_7, s31_7_8, s31_7_9, s31_7_10, s31_7_11, x31_26, r31_8_l, s31_8_0, s31_8_1, s31_8_2, s31_8_3, s31_8_4, x31_27, r31_9_l, s31_9_0, s31_9_1, s31_9_2, s31_9_3, s31_9_4, s31_9_5, x31_25, x31_23, x31_21, x31_19, x31_18, x31_28, r31_10_l, s31_10_0, s31_10_1, x31_17, x31_13, x31_11, hi, hlen, hat, hoff, w1, w2, w3, w4, w5, w6, w7, w8, w9, w10, w11, n1, aConv, aBuild, placeF, fillA, List.all_cons, List.all_nil, List.getD_cons_zero, List.getD_cons_succ, beq_self_eq_true, Int.reduceLE, Int.reduceLT, Int.reduceToNat, cl4, Int.le_refl, Int.reduceEq, wrp_succ (show i < 1000000 by omega), room44 (show 1 ≤ 1000000 by omega)]
    refine ⟨_, rfl, ?_⟩
    obtain ⟨_, hl, _⟩ := h
    match qs, hl with
    | [_, _, _, _, _], _ => rfl
  | cons a o =>
    have hlen2 : (pcells (a :: o)).length = (o.length + 1) * 4 := by rw [pcells_length]; rfl
    have htake : List.take ((o.length + 1) * 4) (pcells (a :: o)) = pcells (a :: o) := List.take_of_length_le (by omega)
    have hno : ¬ o.length + 1 + 1 ≤ o.length + 1 := by omega
    have ho2 : o.length + 1 = i := by simpa using ho
    have hsn := pcells_snoc (a :: o) ⟨1 + q.a.tmod 12, edgeN qs i + 1 - q.b.tmod 15, 1 + q.c.tmod 9, 1 + q.c.tmod 9 + q.d.tmod (10 - (1 + q.c.tmod 9))⟩
    simp only [sc] at hsn
    have hl2 : ∀ s : Stone, (o ++ [s]).length = o.length + 1 := fun s => by simp
    simp only [poutV, poutH, List.cons_append, hl2]
    simp only [seqX_normal, bindR_some, regX_some, condX_bool, blockX_normal, Bool.not_true, Bool.not_false, run_nil, run_cons, fget_cons', fput_cons', forget_nil, forget_cons', hget_nil', hget_cons', hset_cons', gcM_n, gcM_c, stp, opBox, justO, just, Rd.bind, Rd.run, Rd.opt, upds, acells, zeroCells, tsz, elemT, rdCells, fieldOf, aFieldAddr, aLoad, aStore, opStore, fresh, aIndexAddr, aNum, aBuiltin, aBin, aInt, putC, evO, Nat.reduceAdd, Nat.reduceMul, Nat.reduceLT, Nat.reduceGT, Nat.reduceBEq, Nat.reduceEqDiff, Nat.reduceLeDiff, ↓reduceIte, reduceCtorEq, liveBlk_eq, Nat.zero_add, Nat.add_zero, ne_eq, List.nil_append, List.getElem?_toArray, rtX_some, addT_some, drX_some, runT_nil, runT_cons, neat_eq, descF_nil', descF_cons', ascH_nil', ascH_cons', stpT, Rd.foot, writing, touching, Tr.empty, dynPairs, apartT, disj, List.isEmpty_nil, List.isEmpty_cons, List.map_nil, List.map_cons, Bool.not_false, Bool.not_true, Bool.true_or, Bool.or_true, Bool.or_false, Bool.and_true, Bool.true_and, Bool.and_self, decide_true, not_true_eq_false, or_self, aBuildSlice, partsOf, fillA, repC, frz, isSliceT, aAppend, srcOf, window, putD_some, putD_none, and_true, Int.natCast_nonneg, Int.ofNat_lt, Int.toNat_natCast, snaps, snap, List.append_nil, Option.map_some, List.elem_cons, List.elem_nil, List.length_cons, List.length_nil, List.getElem?_cons_zero, List.getElem?_cons_succ, List.drop_zero, List.take_succ_cons, List.take_nil, List.set_cons_zero, List.set_cons_succ, T_3, T_22, T_45, T_5, T_67, T_133, x31_12, r31_4_l, s31_4_0, x31_15, x31_16, x31_14, x31_20, r31_5_l, s31_5_0, s31_5_1, s31_5_2, s31_5_3, x31_22, r31_6_l, s31_6_0, s31_6_1, s31_6_2, s31_6_3, s31_6_4, s31_6_5, s31_6_6, s31_6_7, s31_6_8, s31_6_9, s31_6_10, s31_6_11, s31_6_12, s31_6_13, s31_6_14, s31_6_15, s31_6_16, s31_6_17, s31_6_18, s31_6_19, x31_24, r31_7_l, r31_7_dr, r31_7_an, s31_7_0, s31_7_1, s31_7_2, s31_7_3, s31_7_4, s31_7_5, s31_7_6, s31_7_7, s31_7_8, s31_7_9, s31_7_10, s31_7_11, x31_26, r31_8_l, s31_8_0, s31_8_1, s31_8_2, s31_8_3, s31_8_4, x31_27, r31_9_l, s31_9_0, s31_9_1, s31_9_2, s31_9_3, s31_9_4, s31_9_5, x31_25, x31_23, x31_21, x31_19, x31_18, x31_28, r31_10_l, s31_10_0, s31_10_1, x31_17, x31_13, x31_11, hi, hlen, hat, hoff, w1, w2, w3, w4, w5, w6, w7, w8, w9, w10, w11, n1, aConv, aBuild, placeF, fillA, List.all_cons, List.all_nil, List.getD_cons_zero, List.getD_cons_succ, beq_self_eq_true, Int.reduceLE, Int.reduceLT, Int.reduceToNat, cl4, Int.le_refl, Int.reduceEq, wrp_succ (show i < 1000000 by omega), room44 (show o.length + 1 + 1 ≤ 1000000 by omega), hlen2, hno, htake, hsn, Nat.le_refl, List.cons_append]
    refine ⟨_, rfl, ?_⟩
    obtain ⟨_, hl, _⟩ := h
    match qs, hl with
    | [_, _, _, _, _], _ => rfl
theorem made_run {C : Callee} {m : Int} {qs : List Q} (h : HOk m qs) : bodyA E C fg 1000 31 [.agg (hcells m qs), .int .i64 5] [] 0 = some (poutV 55 (madeL m qs), (2, ⟨.box, hcells m qs⟩) :: poutH 55 (madeL m qs)) := by
  obtain ⟨n1, n2, n3⟩ := nOf_b h
  have hloop := iter_all (f := execA E C (fg 31) 0 63 [] 1000 c31_11) (hd := headA []) (fun i => ([(19, .int .i64 i), (18, .int .i64 (nOf m)), (17, .ref 2 1 (nOf m) 5 21 4 true), (6, .int .i64 (edgeN qs i)), (5, poutV 55 (madeI qs i))], (2, ⟨.box, hcells m qs⟩) :: poutH 55 (madeI qs i))) (nOf m) 1000 0
    ([(19, .int .i64 0), (18, .int .i64 (nOf m)), (17, .ref 2 1 (nOf m) 5 21 4 true), (6, .int .i64 0), (5, .nilsl)], [(2, ⟨.box, hcells m qs⟩)]) (by
      obtain ⟨_, hl, _⟩ := h
      match qs, hl with
      | [_, _, _, _, _], _ => rfl) (by omega) (fun i h1 h2 => by
      have := made_round (C := C) h (nOf m) i n2 (by omega) (madeI qs i) (madeI_length qs i)
      rw [madeI_succ]
      exact this) (e := .exit 0) (se := ([(20, .bool false), (19, .int .i64 (nOf m)), (18, .int .i64 (nOf m)), (17, .ref 2 1 (nOf m) 5 21 4 true), (6, .int .i64 (edgeN qs (nOf m))), (5, poutV 55 (madeL m qs))], (2, ⟨.box, hcells m qs⟩) :: poutH 55 (madeL m qs))) (by
      rw [Nat.zero_add]
      have e : madeI qs (nOf m) = madeL m qs := rfl
      simp only [e]
      simp only [seqX_normal, seqX_exit, bindR_some, regX_some, condX_bool, run_nil, run_cons, fget_cons', fput_cons', forget_nil, forget_cons', gcM_n, stp, just, Rd.bind, Rd.run, Rd.opt, upds, aBin, aInt, Nat.reduceEqDiff, Nat.reduceLeDiff, ↓reduceIte, decide_false, putD_some, List.elem_nil, x31_12, r31_4_l, s31_4_0, x31_15, x31_16, x31_14, x31_13, x31_11, Int.lt_irrefl, decide_false, Bool.false_eq_true]) (by simp)
  have hlen := hcells_length (m := m) h.l
  have w1 : wrp .i64 m = m := wrp64 (by have := h.m; omega)
  have w2 : wrp .i64 (1 + m.tmod 5) = (nOf m : Int) := by rw [n3]; exact wrp64 (by omega)
  have hc : (hcells m qs)[0]? = some (.int .u8 m) := rfl
  have hn5 : (nOf m : Int) ≤ 5 := by omega
  simp only [seqX_normal, bindR_some, regX_some, blockX_exit, bodyX_ret, run_nil, run_cons, fget_cons', fput_nil, fput_cons', forget_nil, forget_cons', hget_nil', hget_cons', hset_nil', frame0, gcM_n, gcM_c, stp, opBox, justO, just, Rd.bind, Rd.run, Rd.opt, upds, acells, tsz, rdCells, fieldOf, aFieldAddr, aLoad, resA, resL, fresh, aNum, aLen, aBuiltin, aBin, aInt, Nat.reduceAdd, Nat.reduceMul, Nat.reduceLT, Nat.reduceBEq, Nat.reduceEqDiff, Nat.reduceLeDiff, ↓reduceIte, reduceCtorEq, liveBlk_eq, Nat.zero_add, Nat.add_zero, List.getElem?_toArray, putD_some, and_true, Int.natCast_nonneg, Int.toNat_natCast, Option.map_some, List.elem_cons, List.elem_nil, List.getElem?_cons_zero, List.getElem?_cons_succ, T_3, T_5, T_67, T_68, T_70, T_133, x31_1, r31_0_l, s31_0_0, s31_0_1, x31_3, r31_1_l, s31_1_0, x31_5, r31_2_l, s31_2_0, x31_8, r31_3_l, s31_3_0, s31_3_1, s31_3_2, s31_3_3, s31_3_4, s31_3_5, s31_3_6, s31_3_7, s31_3_8, s31_3_9, x31_10, x31_9, x31_7, x31_30, r31_11_l, s31_11_0, s31_11_1, x31_31, x31_29, x31_6, x31_4, x31_2, x31_0, b_31, hlen, w1, w2, hc, hn5, aConv, aSlice, aBounds, bMax, bHigh, bLow, cl5, Int.reduceEq, Option.getD_none, Nat.zero_mul, Nat.sub_zero, Nat.reduceMul, hloop]
theorem made_call {d : Nat} {site : Nat → Nat} {seen : List Nat} {m : Int} {qs : List Q} (h : HOk m qs) :
    aBack site true seen (thaw (callA E fg 1000 (d + 1)) 31 [.agg (hcells m qs), .int .i64 5] [] 0) = back1 (site 0) seen (fun k => .ref k 0 (nOf m) (nOf m) (nOf m * 4) 4 false) ⟨.row, pcells (madeL m qs)⟩ := by
  obtain ⟨n1, n2, n3⟩ := nOf_b h
  have hl : (madeL m qs).length = nOf m := madeI_length _ _
  obtain ⟨e1, e2⟩ := poutV_ne (id := 55) (l := madeL m qs) (by omega)
  have e := made_run (C := callA E fg 1000 d) h
  rw [e1, e2, hl] at e
  have := aBack_ref (site := site) (seen := seen) (n := nOf m) (sz := 4) (id := 55) (cells := pcells (madeL m qs)) (H' := [(2, ⟨.box, hcells m qs⟩), (55, ⟨.row, pcells (madeL m qs)⟩)]) (C := callA E fg 1000 (d + 1)) (f := 31) (args := [.agg (hcells m qs), .int .i64 5]) (by rw [pcells_length, hl]; exact e) (by rw [hget_cons', hget_cons']; simp)
  rw [pcells_length, hl] at this
  exact this
end Go.AM.Ytmhbnflnlglljaa
end

section
namespace Go.AM
end Go.AM
namespace Go.AM.Ytmhbnflnlglljaa
open Go Go.AM
set_option maxRecDepth 100000
set_option maxHeartbeats 4000000
def cmpV (sg : Int) (a b : Stone) : Int := sg * (b.pos - a.pos)
theorem cmp_run {C : Callee} {a b : Stone} {sg : Int} (hs : sg = 1 ∨ sg = -1) (ha : -33554432 ≤ a.pos ∧ a.pos ≤ 33554432) (hb : -33554432 ≤ b.pos ∧ b.pos ≤ 33554432) :
    rsOf (bodyA E C fg 1000 60 [.agg (sc a), .agg (sc b), .iptr [.int .i64 sg] 0] [] 0) = some (.int .i64 (cmpV sg a b)) := by
  have w1 : wrp .i64 (b.pos - a.pos) = b.pos - a.pos := wrp64 (by omega)
  have w2 : wrp .i64 (sg * (b.pos - a.pos)) = sg * (b.pos - a.pos) := by rcases hs with rfl | rfl <;> exact wrp64 (by omega)
  simp only [sc, seqX_normal, bindR_some, regX_some, bodyX_ret, run_nil, run_cons, fget_cons', fput_cons', forget_nil, forget_cons', hget_nil', hget_cons', hset_nil', hset_cons', frame0, gcM_c, stp, opBox, just, Rd.bind, Rd.run, Rd.opt, upds, acells, rdCells, fieldOf, aFieldAddr, aLoad, resA, resL, fresh, aBin, aInt, Nat.reduceAdd, Nat.reduceBEq, Nat.reduceEqDiff, Nat.reduceLeDiff, ↓reduceIte, reduceCtorEq, liveBlk_eq, Nat.zero_add, putD_some, Option.map_some, List.elem_cons, List.elem_nil, List.length_cons, List.length_nil, List.getElem?_cons_zero, List.getElem?_cons_succ, T_3, T_45, x60_1, r60_0_l, s60_0_0, s60_0_1, s60_0_2, x60_3, r60_1_l, s60_1_0, s60_1_1, s60_1_2, s60_1_3, s60_1_4, s60_1_5, s60_1_6, s60_1_7, x60_4, x60_2, x60_0, b_60, w1, w2, cmpV]
theorem cmp_call {d : Nat} {site : Nat → Nat} {seen : List Nat} {a b : Stone} {sg : Int} (hs : sg = 1 ∨ sg = -1) (ha : -33554432 ≤ a.pos ∧ a.pos ≤ 33554432) (hb : -33554432 ≤ b.pos ∧ b.pos ≤ 33554432) :
    aBack site true seen (thaw (callA E fg 1000 (d + 1)) 60 [.agg (sc a), .agg (sc b), .iptr [.int .i64 sg] 0] [] 0) = .pure (.int .i64 (cmpV sg a b), []) :=
  aBack_int (rs_ex (cmp_run hs ha hb))
abbrev sH (sg : Int) (l : List Stone) : AHeap := [(3, ⟨.box, [.int .i64 sg]⟩), (4, ⟨.box, [.int .i64 0, .int .i64 0]⟩), (15, ⟨.row, pcells l⟩)]
def swp (l : List Stone) (j : Nat) : List Stone := (l.set (j + 1) (l.getD j default)).set j (l.getD (j + 1) default)
theorem pcells_put : ∀ (l : List Stone) (k : Nat) (x : Stone), k < l.length → ((((pcells l).set (k * 4) (.int .i64 x.half)).set (k * 4 + 1) (.int .i64 x.pos)).set (k * 4 + 1 + 1) (.int .i64 x.least)).set (k * 4 + 1 + 1 + 1) (.int .i64 x.most) = pcells (l.set k x)
  | [], k, x, h => by simp at h
  | a :: l, 0, x, h => by simp [pcells, sc]
  | a :: l, k + 1, x, h => by
    have ih := pcells_put l k x (by simpa using h)
    have e : (k + 1) * 4 = k * 4 + 4 := by omega
    rw [List.set_cons_succ, pcells, pcells, ← ih, e]
    simp only [sc, List.cons_append, List.nil_append, show k * 4 + 4 + 1 = k * 4 + 1 + 4 by omega, show k * 4 + 1 + 4 + 1 = k * 4 + 1 + 1 + 4 by omega, show k * 4 + 1 + 1 + 4 + 1 = k * 4 + 1 + 1 + 1 + 4 by omega, List.set_cons_succ]
abbrev inS (sg : Int) (n i j : Nat) (l : List Stone) : St := ([(9, .int .i64 j), (8, .int .i64 i), (3, .clo 60 [.ptr 3 0 1]), (2, .int .i64 n), (1, .int .i64 0), (0, .ref 15 0 n n (n * 4) 4 false)], sH sg l)
theorem cmp_pure (caps args : List AV) : mutV E (.clo 60 caps) args = none := rfl
theorem ins_go {C : Callee} {B : Nat} {l l0 : List Stone} {sg : Int} {i j : Nat} {x y : Stone} (hl : l.length ≤ 5) (hj : j + 1 < l.length) (hx : l[j]? = some x) (hy : l[j + 1]? = some y)
    (cc : ∀ (site : Nat → Nat) seen, aBack site true seen (thaw C 60 [.agg (sc y), .agg (sc x), .iptr [.int .i64 sg] 0] [] 0) = .pure (.int .i64 (cmpV sg y x), [])) (hc : cmpV sg y x < 0) :
    ∃ s', execA E C (fg 104) B 53 (sH sg l0) 1000 c104_16 (inS sg l.length i (j + 1) l) = some (.normal, s') ∧ headA (sH sg l0) s' = inS sg l.length i j (swp l j) := by
  have e : swp l j = (l.set (j + 1) x).set j y := by simp [swp, hx, hy]
  have w1 : wrp .i64 (((j + 1 : Nat) : Int) - 1) = (j : Int) := by rw [wrp64 (by omega)]; omega
  have g : ((j + 1 : Nat) : Int) > 0 := by omega
  have a1 := pcells_at l j x hx
  have a2 := pcells_at l (j + 1) y hy
  have o1 : j * 4 + 4 ≤ l.length * 4 := by omega
  have o2 : (j + 1) * 4 + 4 ≤ l.length * 4 := by omega
  have hjl : j < l.length := by omega
  have p1 := pcells_put l (j + 1) x hj
  have p2 := pcells_put (l.set (j + 1) x) j y (by simp; omega)
  have hpl := pcells_length l
  have hpl2 : (pcells (l.set (j + 1) x)).length = l.length * 4 := by rw [pcells_length]; simp
  simp only [sc] at a1 a2 cc
  rw [e]
  simp only [condX_bool, blockX_normal, fset_cons, Bool.not_true, Bool.not_false, run_nil, run_cons, fget_cons', fput_cons', forget_nil, forget_cons', hget_cons', hset_cons', gcM_c, stp, opPick, just, Rd.bind, Rd.run, Rd.opt, upds, acells, tsz, rdCells, aLoad, aStore, opStore, aIndexAddr, aNum, aBin, aInt, putC, Nat.reduceAdd, Nat.reduceMul, Nat.reduceLT, Nat.reduceBEq, Nat.reduceEqDiff, Nat.reduceLeDiff, ↓reduceIte, reduceCtorEq, liveBlk_eq, Nat.zero_add, List.nil_append, rtX_some, addT_some, drX_some, runT_nil, runT_cons, neat_eq, descF_nil', descF_cons', ascH_nil', ascH_cons', stpT, ↓gdT, Rd.foot, writing, touching, Tr.empty, dynPairs, apartT, disj, List.isEmpty_nil, List.isEmpty_cons, List.map_nil, List.map_cons, Bool.not_false, Bool.not_true, Bool.true_or, Bool.or_true, Bool.or_false, Bool.and_true, Bool.true_and, Bool.and_self, decide_true, frz, putD_some, putD_none, and_true, Int.natCast_nonneg, Int.ofNat_lt, Int.toNat_natCast, aCall, snaps, snap, List.append_nil, List.elem_cons, List.elem_nil, List.length_cons, List.length_nil, seqN, bindN, regN, T_22, T_45, x104_18, r104_4_l, r104_4_dr, r104_4_an, s104_4_0, s104_4_1, s104_4_2, s104_4_3, s104_4_4, s104_4_5, s104_4_6, s104_4_7, s104_4_8, s104_4_9, s104_4_10, s104_4_11, s104_4_12, s104_4_13, s104_4_14, s104_4_15, s104_4_16, x104_20, x104_21, x104_19, x104_17, x104_24, r104_6_l, r104_6_dr, r104_6_an, s104_6_0, s104_6_1, s104_6_2, s104_6_3, s104_6_4, s104_6_5, s104_6_6, s104_6_7, s104_6_8, s104_6_9, s104_6_10, s104_6_11, s104_6_12, s104_6_13, s104_6_14, s104_6_15, s104_6_16, s104_6_17, x104_23, x104_25, r104_5_l, s104_5_0, s104_5_1, s104_5_2, x104_22, x104_16, inS, sH, w1, g, a1, a2, o1, o2, hj, hjl, p1, p2, hpl, hpl2, cc, hc, callVT_eq (cmp_pure _ _), opCallV, fi_60, List.cons_append, List.all_cons, List.all_nil, List.getD_cons_zero, List.getD_cons_succ, beq_self_eq_true, List.not_mem_nil]
  exact ⟨_, rfl, rfl⟩
abbrev inE (sg : Int) (n i j : Nat) (l : List Stone) : St := ([(34, .bool false), (9, .int .i64 j), (8, .int .i64 i), (3, .clo 60 [.ptr 3 0 1]), (2, .int .i64 n), (1, .int .i64 0), (0, .ref 15 0 n n (n * 4) 4 false)], sH sg l)
theorem ins_stop {C : Callee} {B : Nat} {l l0 : List Stone} {sg : Int} {i j : Nat} {x y : Stone} (hl : l.length ≤ 5) (hj : j + 1 < l.length) (hx : l[j]? = some x) (hy : l[j + 1]? = some y)
    (cc : ∀ (site : Nat → Nat) seen, aBack site true seen (thaw C 60 [.agg (sc y), .agg (sc x), .iptr [.int .i64 sg] 0] [] 0) = .pure (.int .i64 (cmpV sg y x), [])) (hc : ¬ cmpV sg y x < 0) :
    execA E C (fg 104) B 53 (sH sg l0) 1000 c104_16 (inS sg l.length i (j + 1) l) = some (.exit 2, inE sg l.length i (j + 1) l) := by
  have w1 : wrp .i64 (((j + 1 : Nat) : Int) - 1) = (j : Int) := by rw [wrp64 (by omega)]; omega
  have g : ((j + 1 : Nat) : Int) > 0 := by omega
  have a1 := pcells_at l j x hx
  have a2 := pcells_at l (j + 1) y hy
  have o1 : j * 4 + 4 ≤ l.length * 4 := by omega
  have o2 : (j + 1) * 4 + 4 ≤ l.length * 4 := by omega
  have hjl : j < l.length := by omega
  have hpl := pcells_length l
  simp only [sc] at a1 a2 cc
  simp only [seqX_exit, condX_bool, fset_cons, Bool.not_true, Bool.not_false, fget_cons', fput_cons', forget_nil, forget_cons', hget_cons', gcM_c, opPick, just, Rd.bind, Rd.run, Rd.opt, upds, tsz, rdCells, aLoad, aIndexAddr, aNum, aBin, aInt, Nat.reduceAdd, Nat.reduceMul, Nat.reduceLT, Nat.reduceBEq, Nat.reduceEqDiff, Nat.reduceLeDiff, ↓reduceIte, reduceCtorEq, liveBlk_eq, Nat.zero_add, List.nil_append, rtX_some, addT_some, drX_some, runT_nil, runT_cons, neat_eq, descF_nil', descF_cons', ascH_nil', ascH_cons', stpT, ↓gdT, Rd.foot, writing, touching, Tr.empty, dynPairs, apartT, disj, List.isEmpty_nil, List.isEmpty_cons, List.map_nil, Bool.not_false, Bool.not_true, Bool.true_or, Bool.or_true, Bool.or_false, Bool.and_true, Bool.true_and, Bool.and_self, decide_true, decide_false, putD_some, and_true, Int.natCast_nonneg, Int.ofNat_lt, Int.toNat_natCast, aCall, snaps, snap, List.append_nil, List.elem_cons, List.elem_nil, List.length_cons, List.length_nil, seqN, regN, T_22, T_45, x104_18, r104_4_l, r104_4_dr, r104_4_an, s104_4_0, s104_4_1, s104_4_2, s104_4_3, s104_4_4, s104_4_5, s104_4_6, s104_4_7, s104_4_8, s104_4_9, s104_4_10, s104_4_11, s104_4_12, s104_4_13, s104_4_14, s104_4_15, s104_4_16, x104_20, x104_21, x104_19, x104_17, x104_16, inS, inE, sH, w1, g, a1, a2, o1, o2, hj, hjl, hpl, cc, hc, callVT_eq (cmp_pure _ _), opCallV, fi_60, List.cons_append, List.all_cons, List.all_nil, List.getD_cons_zero, List.getD_cons_succ, beq_self_eq_true]
theorem ins_zero {C : Callee} {B : Nat} {l l0 : List Stone} {sg : Int} {i : Nat} :
    execA E C (fg 104) B 53 (sH sg l0) 1000 c104_16 (inS sg l.length i 0 l) = some (.exit 2, inE sg l.length i 0 l) := by
  have g : ¬ (0 : Int) > 0 := by omega
  simp only [seqX_exit, condX_bool, fset_cons, Bool.not_true, Bool.not_false, fget_cons', fput_cons', forget_nil, forget_cons', gcM_c, opPick, just, Rd.bind, Rd.run, Rd.opt, upds, aBin, aInt, Nat.reduceAdd, Nat.reduceBEq, Nat.reduceEqDiff, Nat.reduceLeDiff, ↓reduceIte, reduceCtorEq, Nat.zero_add, rtX_some, addT_some, drX_some, runT_nil, runT_cons, neat_eq, descF_nil', descF_cons', ascH_nil', ascH_cons', stpT, ↓gdT, Rd.foot, writing, touching, Tr.empty, dynPairs, List.isEmpty_nil, List.map_nil, Bool.not_false, Bool.not_true, Bool.or_true, Bool.or_false, Bool.and_self, decide_true, decide_false, putD_some, Option.map_some, List.elem_cons, List.elem_nil, seqN, regN, x104_18, r104_4_l, r104_4_dr, r104_4_an, s104_4_0, s104_4_1, s104_4_2, s104_4_3, s104_4_4, s104_4_5, s104_4_6, s104_4_7, s104_4_8, s104_4_9, s104_4_10, s104_4_11, s104_4_12, s104_4_13, s104_4_14, s104_4_15, s104_4_16, x104_20, x104_21, x104_19, x104_17, x104_16, inS, inE, sH, g, Int.natCast_zero, beq_self_eq_true]
/-- A stone is moved down to its place. -/
def insL (sg : Int) (l : List Stone) : Nat → List Stone
  | 0 => l
  | j + 1 => if cmpV sg (l.getD (j + 1) default) (l.getD j default) < 0 then insL sg (swp l j) j else l
theorem swp_length (l : List Stone) (j : Nat) : (swp l j).length = l.length := by simp [swp]
theorem insL_length (sg : Int) : ∀ (j : Nat) (l : List Stone), (insL sg l j).length = l.length
  | 0, l => rfl
  | j + 1, l => by
    rw [insL]
    split
    · rw [insL_length sg j, swp_length]
    · rfl
/-- All stones of a list lie within bounds. -/
def Pos (l : List Stone) : Prop := ∀ (k : Nat) (x : Stone), l[k]? = some x → -33554432 ≤ x.pos ∧ x.pos ≤ 33554432
theorem swp_pos {l : List Stone} (h : Pos l) {j : Nat} (hj : j + 1 < l.length) : Pos (swp l j) := by
  obtain ⟨x, hx⟩ := at_ex (l := l) (k := j) (by omega)
  obtain ⟨y, hy⟩ := at_ex (l := l) (k := j + 1) hj
  intro k z hz
  rw [show swp l j = (l.set (j + 1) x).set j y by simp [swp, hx, hy]] at hz
  rw [List.getElem?_set] at hz
  split at hz
  · split at hz
    · obtain rfl := Option.some.inj hz; exact h _ _ hy
    · simp at hz
  · rw [List.getElem?_set] at hz
    split at hz
    · obtain rfl := Option.some.inj hz; exact h _ _ hx
    · exact h _ _ hz
theorem ins_loop {d : Nat} {B : Nat} {l0 : List Stone} {sg : Int} (hs : sg = 1 ∨ sg = -1) {i n : Nat} : ∀ (j F : Nat) (l : List Stone) (s : St), headA (sH sg l0) s = inS sg n i j l → l.length = n → n ≤ 5 → j < n → Pos l → j < F →
    ∃ j', iterA (execA E (callA E fg 1000 (d + 1)) (fg 104) B 53 (sH sg l0) 1000 c104_16) (headA (sH sg l0)) F s = some (.exit 2, inE sg n i j' (insL sg l j)) := by
  intro j
  induction j with
  | zero =>
    intro F l s hs0 hl h5 hj hp hF
    obtain ⟨F, rfl⟩ : ∃ G, F = G + 1 := ⟨F - 1, by omega⟩
    subst hl
    exact ⟨0, by rw [iterA_succ, hs0, ins_zero, seqX_exit, insL]⟩
  | succ j ih =>
    intro F l s hs0 hl h5 hj hp hF
    obtain ⟨F, rfl⟩ : ∃ G, F = G + 1 := ⟨F - 1, by omega⟩
    subst hl
    obtain ⟨x, hx⟩ := at_ex (l := l) (k := j) (by omega)
    obtain ⟨y, hy⟩ := at_ex (l := l) (k := j + 1) hj
    have gx : l.getD j default = x := by simp [hx]
    have gy : l.getD (j + 1) default = y := by simp [hy]
    have cc := fun (site : Nat → Nat) seen => cmp_call (d := d) (site := site) (seen := seen) hs (hp _ _ hy) (hp _ _ hx)
    rw [iterA_succ, hs0, insL, gx, gy]
    by_cases hc : cmpV sg y x < 0
    · obtain ⟨s', e1, e2⟩ := ins_go (C := callA E fg 1000 (d + 1)) (B := B) (l0 := l0) (i := i) h5 hj hx hy cc hc
      rw [if_pos hc, e1, seqN]
      exact ih F (swp l j) s' e2 (swp_length ..) h5 (by omega) (swp_pos hp hj) (by omega)
    · rw [if_neg hc, ins_stop (C := callA E fg 1000 (d + 1)) (B := B) (l0 := l0) (i := i) h5 hj hx hy cc hc]
      exact ⟨j + 1, by rw [seqX_exit]⟩
end Go.AM.Ytmhbnflnlglljaa
end

section
namespace Go.AM.Ytmhbnflnlglljaa
open Go Go.AM
set_option maxRecDepth 100000
set_option maxHeartbeats 4000000
abbrev ouS (sg : Int) (n i : Nat) (l : List Stone) : St := ([(8, .int .i64 i), (3, .clo 60 [.ptr 3 0 1]), (2, .int .i64 n), (1, .int .i64 0), (0, .ref 15 0 n n (n * 4) 4 false)], sH sg l)
theorem ou_go {d : Nat} {B : Nat} {l l0 : List Stone} {sg : Int} (hs : sg = 1 ∨ sg = -1) {i n : Nat} (hl : l.length = n) (h5 : n ≤ 5) (hi : i < n) (hp : Pos l) :
    ∃ s', execA E (callA E fg 1000 (d + 1)) (fg 104) B 53 (sH sg l0) 1000 c104_4 (ouS sg n i l) = some (.normal, s') ∧ headA (sH sg l0) s' = ouS sg n (i + 1) (insL sg l i) := by
  obtain ⟨j', hloop⟩ := ins_loop (d := d) (B := B) (l0 := l0) hs (i := i) (n := n) i 1000 l (inS sg n i i l) (by rfl) hl h5 hi hp (by omega)
  simp only [inS, inE, sH] at hloop
  simp only [condX_bool, blockX_exit, blockX_normal, run_nil, run_cons, fget_cons', fput_cons', forget_nil, forget_cons', gcM_c, stp, just, Rd.bind, Rd.run, Rd.opt, upds, aBin, aInt, Nat.reduceBEq, Nat.reduceEqDiff, Nat.reduceLeDiff, ↓reduceIte, reduceCtorEq, decide_true, putD_some, Int.ofNat_lt, List.elem_cons, List.elem_nil, seqN, bindN, regN, x104_6, r104_1_l, s104_1_0, s104_1_1, s104_1_2, x104_8, x104_9, x104_7, x104_5, x104_13, r104_3_l, s104_3_0, s104_3_1, x104_15, x104_14, x104_12, x104_11, x104_26, r104_2_l, s104_2_0, s104_2_1, s104_2_2, x104_10, x104_4, ouS, sH, hi, hloop, wrp_succ (show i < 1000000 by omega), beq_self_eq_true]
  exact ⟨_, rfl, rfl⟩
def srtL (sg : Int) (l : List Stone) : Nat → List Stone
  | 0 => l
  | i + 1 => insL sg (srtL sg l i) (i + 1)
theorem srtL_length (sg : Int) (l : List Stone) : ∀ i, (srtL sg l i).length = l.length
  | 0 => rfl
  | i + 1 => by rw [srtL, insL_length, srtL_length sg l i]
theorem insL_pos (sg : Int) : ∀ (j : Nat) (l : List Stone), j < l.length → Pos l → Pos (insL sg l j)
  | 0, l, _, h => h
  | j + 1, l, hj, h => by
    rw [insL]
    split
    · exact insL_pos sg j (swp l j) (by rw [swp_length]; omega) (swp_pos h hj)
    · exact h
theorem srtL_pos (sg : Int) {l : List Stone} (h : Pos l) : ∀ i, i < l.length → Pos (srtL sg l i)
  | 0, _ => h
  | i + 1, hi => insL_pos sg (i + 1) _ (by rw [srtL_length]; exact hi) (srtL_pos sg h i (by omega))
/-- The stones, sorted. -/
def srt (sg : Int) (l : List Stone) : List Stone := srtL sg l (l.length - 1)
theorem srt_length (sg : Int) (l : List Stone) : (srt sg l).length = l.length := srtL_length ..
theorem ins_run {d B : Nat} {l : List Stone} {sg : Int} (hs : sg = 1 ∨ sg = -1) (h0 : 0 < l.length) (h5 : l.length ≤ 5) (hp : Pos l) :
    callA E fg 1000 (d + 2) 104 [.ref 15 0 l.length l.length (l.length * 4) 4 false, .int .i64 0, .int .i64 l.length, .clo 60 [.ptr 3 0 1]] (sH sg l) B = some (.tup [], sH sg (srt sg l)) := by
  change bodyA E (callA E fg 1000 (d + 1)) fg 1000 104 _ _ _ = _
  have hloop := iter_all (f := execA E (callA E fg 1000 (d + 1)) (fg 104) B 53 (sH sg l) 1000 c104_4) (hd := headA (sH sg l)) (fun k => ouS sg l.length (k + 1) (srtL sg l k)) (l.length - 1) 1000 0
    (ouS sg l.length 1 l) (by rfl) (by omega) (fun k h1 h2 => by
      exact ou_go (d := d) (B := B) (l0 := l) hs (i := k + 1) (n := l.length) (srtL_length ..) h5 (by omega) (srtL_pos sg hp k (by omega))) (e := .exit 0) (se := ([(14, .bool false), (8, .int .i64 l.length), (3, .clo 60 [.ptr 3 0 1]), (2, .int .i64 l.length), (1, .int .i64 0), (0, .ref 15 0 l.length l.length (l.length * 4) 4 false)], sH sg (srt sg l))) (by
      rw [Nat.zero_add, show l.length - 1 + 1 = l.length by omega]
      have e : srtL sg l (l.length - 1) = srt sg l := rfl
      simp only [e]
      simp only [seqX_exit, condX_bool, run_nil, run_cons, fget_cons', fput_cons', forget_nil, forget_cons', gcM_c, stp, just, Rd.bind, Rd.run, Rd.opt, upds, aBin, aInt, Nat.reduceBEq, Nat.reduceEqDiff, Nat.reduceLeDiff, ↓reduceIte, decide_false, putD_some, List.elem_cons, List.elem_nil, seqN, bindN, regN, x104_6, r104_1_l, s104_1_0, s104_1_1, s104_1_2, x104_8, x104_9, x104_7, x104_5, x104_4, ouS, sH, Int.lt_irrefl, decide_false, Bool.false_eq_true]) (by simp)
  simp only [ouS, sH, cl1] at hloop
  have w : wrp .i64 (0 + 1) = 1 := by decide
  simp only [blockX_exit, bodyX_normal, run_nil, run_cons, fget_cons', fput_cons', forget_nil, forget_cons', frame0, gcM_c, stp, just, Rd.bind, Rd.run, Rd.opt, upds, resA, resL, aBin, aInt, Nat.reduceAdd, Nat.reduceBEq, Nat.reduceEqDiff, Nat.reduceLeDiff, ↓reduceIte, reduceCtorEq, Nat.zero_add, putD_some, Option.map_some, List.elem_cons, List.elem_nil, seqN, bindN, regN, x104_1, r104_0_l, s104_0_0, s104_0_1, s104_0_2, x104_3, x104_2, x104_0, b_104, sH, w, hloop]
theorem hd_pdq {m n x y z : Int} {k g : Nat} {c : List AV} : headA [(3, ⟨.box, [.int .i64 x]⟩), (4, ⟨.box, [.int .i64 y, .int .i64 z]⟩), (15, ⟨.row, c⟩)] ([(11, .bool true), (10, .bool true), (4, .clo 60 [.ptr 3 0 1]), (3, .int .i64 m), (2, .int .i64 n), (1, .int .i64 0), (0, .ref 15 0 k k g 4 false)], [(3, ⟨.box, [.int .i64 x]⟩), (4, ⟨.box, [.int .i64 y, .int .i64 z]⟩), (15, ⟨.row, c⟩)]) =
    ([(11, .bool true), (10, .bool true), (4, .clo 60 [.ptr 3 0 1]), (3, .int .i64 m), (2, .int .i64 n), (1, .int .i64 0), (0, .ref 15 0 k k g 4 false)], [(3, ⟨.box, [.int .i64 x]⟩), (4, ⟨.box, [.int .i64 y, .int .i64 z]⟩), (15, ⟨.row, c⟩)]) := rfl
theorem pdq_run {d B : Nat} {l : List Stone} {sg m : Int} (hs : sg = 1 ∨ sg = -1) (h0 : 0 < l.length) (h5 : l.length ≤ 5) (hp : Pos l) :
    callA E fg 1000 (d + 3) 94 [.ref 15 0 l.length l.length (l.length * 4) 4 false, .int .i64 0, .int .i64 l.length, .int .i64 m, .clo 60 [.ptr 3 0 1]] (sH sg l) B = some (.tup [], sH sg (srt sg l)) := by
  change bodyA E (callA E fg 1000 (d + 2)) fg 1000 94 _ _ _ = _
  have hi := fun B => ins_run (d := d) (B := B) hs h0 h5 hp
  simp only [sH] at hi
  have w1 : wrp .i64 ((l.length : Int) - 0) = l.length := wrp64 (by omega)
  have g : (l.length : Int) ≤ 12 := by omega
  simp only [seqX_ret, condX_bool, blockX_ret, bodyX_ret, run_nil, run_cons, fget_cons', fput_cons', forget_nil, forget_cons', frame0, gcM_n, gcM_c, stp, just, Rd.bind, Rd.run, Rd.opt, upds, resA, resL, aBin, aInt, Nat.reduceAdd, Nat.reduceMul, Nat.reduceBEq, Nat.reduceEqDiff, Nat.reduceLeDiff, ↓reduceIte, reduceCtorEq, Nat.zero_add, decide_true, putD_some, mutX, Option.map_some, List.elem_cons, List.elem_nil, seqN, bindN, regN, x94_1, r94_0_l, s94_0_0, x94_3, r94_1_l, s94_1_0, x94_8, r94_2_l, s94_2_0, s94_2_1, s94_2_2, s94_2_3, x94_11, r94_3_l, s94_3_0, s94_3_1, x94_14, r94_4_l, s94_4_0, s94_4_1, s94_4_2, s94_4_3, s94_4_4, x94_15, x94_13, x94_16, x94_12, x94_10, x94_9, x94_7, x94_6, x94_5, x94_4, x94_2, x94_0, b_94, sH, iterA_succ, hd_pdq, hi, w1, g]
theorem sort_run {d B : Nat} {l : List Stone} {sg m : Int} (hs : sg = 1 ∨ sg = -1) (h0 : 0 < l.length) (h5 : l.length ≤ 5) (hp : Pos l)
    (hL : ∀ (site : Nat → Nat) seen, aBack site true seen (thaw (callA E fg 1000 (d + 3)) 95 [.int .u64 l.length] [] 0) = .pure (.int .i64 m, [])) :
    callA E fg 1000 (d + 4) 59 [.ref 15 0 l.length l.length (l.length * 4) 4 false, .clo 60 [.ptr 3 0 1]] (sH sg l) B = some (.tup [], sH sg (srt sg l)) := by
  change bodyA E (callA E fg 1000 (d + 3)) fg 1000 59 _ _ _ = _
  have hi := fun B => pdq_run (d := d) (B := B) (m := m) hs h0 h5 hp
  simp only [sH] at hi
  have w1 : wrp .u64 (l.length : Int) = l.length := wrp_id (by simp only [kLo]; omega) (by simp only [kHi]; omega)
  simp only [bodyX_normal, run_nil, run_cons, fget_cons', fput_cons', forget_nil, forget_cons', hget_cons', frame0, gcM_c, stp, justO, just, Rd.bind, Rd.run, upds, resA, resL, aLen, aBuiltin, Nat.reduceMul, Nat.reduceBEq, Nat.reduceEqDiff, Nat.reduceLeDiff, ↓reduceIte, reduceCtorEq, liveBlk_eq, Nat.zero_add, List.getElem?_toArray, putD_some, mutX, aCall, snaps, snap, List.append_nil, Option.map_some, List.elem_cons, List.elem_nil, List.getElem?_cons_zero, seqN, bindN, regN, T_3, T_22, T_146, x59_1, r59_0_l, s59_0_0, s59_0_1, s59_0_2, x59_2, r59_1_l, s59_1_0, s59_1_1, s59_1_2, s59_1_3, s59_1_4, s59_1_5, s59_1_6, x59_0, b_59, sH, aConv, w1, hL, hi, pcells_length]
end Go.AM.Ytmhbnflnlglljaa
end

section
namespace Go.AM.Ytmhbnflnlglljaa
open Go Go.AM
set_option maxRecDepth 100000
def sumS (f : Stone → Int) : List Stone → Int
  | [] => 0
  | s :: l => f s + sumS f l
theorem sumS_congr {f g : Stone → Int} : ∀ {l : List Stone}, (∀ s ∈ l, f s = g s) → sumS f l = sumS g l
  | [], _ => rfl
  | s :: l, h => by simp only [sumS]; rw [h s (by simp), sumS_congr fun t ht => h t (by simp [ht])]
theorem sumS_perm {f : Stone → Int} {l l' : List Stone} (h : l.Perm l') : sumS f l = sumS f l' := by
  induction h with
  | nil => rfl
  | cons x _ ih => simp only [sumS, ih]
  | swap x y l => simp only [sumS]; omega
  | trans _ _ h1 h2 => rw [h1, h2]
theorem sumS_append (f : Stone → Int) : ∀ (l l' : List Stone), sumS f (l ++ l') = sumS f l + sumS f l'
  | [], l' => by simp [sumS]
  | s :: l, l' => by simp only [List.cons_append, sumS, sumS_append f l l']; omega
/-- What a stone weighs if the centre is S / W. -/
def wS (sg S W : Int) (s : Stone) : Int := if sg * (s.pos * W - S) > 0 then s.most else s.least
/-- Stone by stone those beyond the centre become heavier. -/
def grd (sg : Int) : List Stone → Int → Int → Int × Int
  | [], S, W => (S, W)
  | s :: l, S, W => if sg * (s.pos * W - S) > 0 then grd sg l (S + (s.most - s.least) * s.pos) (W + (s.most - s.least)) else grd sg l S W
structure Fix (sg : Int) (l : List Stone) (S W : Int) : Prop where
  s : S = sumS (fun s => wS sg S W s * s.pos) l
  w : W = sumS (wS sg S W) l
theorem sg_mul {sg : Int} (h : sg = 1 ∨ sg = -1) (x : Int) : sg * x = x ∧ sg = 1 ∨ sg * x = -x ∧ sg = -1 := by
  rcases h with rfl | rfl
  · left; simp
  · right; simp
theorem raise_step {sg S W d : Int} {t s : Stone} (hsg : sg = 1 ∨ sg = -1) (hW : 0 < W) (hd : 0 ≤ d) (hp : sg * s.pos ≤ sg * t.pos) (hs : sg * (s.pos * W - S) > 0) :
    sg * (t.pos * W - S) > 0 ∧ sg * (t.pos * (W + d) - (S + d * s.pos)) > 0 := by
  have e : t.pos * (W + d) - (S + d * s.pos) = (t.pos * W - S) + d * (t.pos - s.pos) := by
    rw [Int.mul_add, Int.mul_sub, Int.mul_comm t.pos d]; omega
  rw [e]
  rcases hsg with rfl | rfl
  · simp only [Int.one_mul] at *
    have h1 : s.pos * W ≤ t.pos * W := Int.mul_le_mul_of_nonneg_right hp (by omega)
    have h2 : 0 ≤ d * (t.pos - s.pos) := Int.mul_nonneg hd (by omega)
    omega
  · have hp' : t.pos ≤ s.pos := by omega
    have h1 : t.pos * W ≤ s.pos * W := Int.mul_le_mul_of_nonneg_right hp' (by omega)
    have h2 : 0 ≤ d * (s.pos - t.pos) := Int.mul_nonneg hd (by omega)
    have h3 : d * (t.pos - s.pos) = -(d * (s.pos - t.pos)) := by rw [← Int.mul_neg]; congr 1; omega
    omega
theorem grd_fix {sg : Int} (hsg : sg = 1 ∨ sg = -1) : ∀ (r p : List Stone) (S W : Int), 0 < W → (∀ s ∈ r, s.least ≤ s.most) → (∀ t ∈ p, ∀ s ∈ r, sg * s.pos ≤ sg * t.pos) → r.Pairwise (fun t s => sg * s.pos ≤ sg * t.pos) →
    S = sumS (fun s => wS sg S W s * s.pos) p + sumS (fun s => s.least * s.pos) r → W = sumS (wS sg S W) p + sumS (fun s => s.least) r →
    Fix sg (p ++ r) (grd sg r S W).1 (grd sg r S W).2 ∧ 0 < (grd sg r S W).2 := by
  intro r
  induction r with
  | nil =>
    intro p S W hW _ _ _ hS hWe
    simp only [sumS, Int.add_zero] at hS hWe
    simp only [List.append_nil, grd]
    exact ⟨⟨hS, hWe⟩, hW⟩
  | cons s r ih =>
    intro p S W hW hm hp hs hS hWe
    have hs' := List.pairwise_cons.1 hs
    have hml := hm s (by simp)
    have hpp : ∀ t ∈ p ++ [s], ∀ x ∈ r, sg * x.pos ≤ sg * t.pos := by
      intro t ht x hx
      rcases List.mem_append.1 ht with ht | ht
      · exact hp t ht x (by simp [hx])
      · obtain rfl : t = s := by simpa using ht
        exact hs'.1 x hx
    rw [show p ++ s :: r = (p ++ [s]) ++ r by simp]
    simp only [sumS] at hS hWe
    by_cases h : sg * (s.pos * W - S) > 0
    · have e : grd sg (s :: r) S W = grd sg r (S + (s.most - s.least) * s.pos) (W + (s.most - s.least)) := by rw [grd, if_pos h]
      rw [e]
      have keep : ∀ t ∈ p, wS sg (S + (s.most - s.least) * s.pos) (W + (s.most - s.least)) t = wS sg S W t := by
        intro t ht
        obtain ⟨a, b⟩ := raise_step (d := s.most - s.least) hsg hW (by omega) (hp t ht s (by simp)) h
        unfold wS
        rw [if_pos a, if_pos b]
      have own : wS sg (S + (s.most - s.least) * s.pos) (W + (s.most - s.least)) s = s.most := by
        obtain ⟨_, b⟩ := raise_step (d := s.most - s.least) (t := s) hsg hW (by omega) (Int.le_refl _) h
        unfold wS
        rw [if_pos b]
      refine ih (p ++ [s]) _ _ (by omega) (fun x hx => hm x (by simp [hx])) hpp hs'.2 ?_ ?_
      · rw [sumS_append, sumS_congr (l := p) fun t ht => by rw [keep t ht]]
        simp only [sumS, own]
        rw [Int.sub_mul]
        omega
      · rw [sumS_append, sumS_congr (l := p) fun t ht => keep t ht]
        simp only [sumS, own]
        omega
    · have e : grd sg (s :: r) S W = grd sg r S W := by rw [grd, if_neg h]
      rw [e]
      have own : wS sg S W s = s.least := by unfold wS; rw [if_neg h]
      refine ih (p ++ [s]) _ _ hW (fun x hx => hm x (by simp [hx])) hpp hs'.2 ?_ ?_
      · rw [sumS_append]
        simp only [sumS, own]
        omega
      · rw [sumS_append]
        simp only [sumS, own]
        omega
theorem fix_perm {sg S W : Int} {l l' : List Stone} (h : l.Perm l') (f : Fix sg l S W) : Fix sg l' S W := ⟨by rw [← sumS_perm h]; exact f.s, by rw [← sumS_perm h]; exact f.w⟩
def InB : List Stone → List Int → Prop
  | [], [] => True
  | s :: l, w :: ws => (s.least ≤ w ∧ w ≤ s.most) ∧ InB l ws
  | _, _ => False
def dotS : List Stone → List Int → Int
  | s :: l, w :: ws => w * s.pos + dotS l ws
  | _, _ => 0
def totS : List Stone → List Int → Int
  | _ :: l, w :: ws => w + totS l ws
  | _, _ => 0
theorem fix_sum (sg S W : Int) (f : Stone → Int) : ∀ l : List Stone, sumS (fun s => f s * (sg * (s.pos * W - S))) l = sg * (sumS (fun s => f s * s.pos) l * W - S * sumS f l)
  | [] => by simp [sumS]
  | s :: l => by
    simp only [sumS, fix_sum sg S W f l]
    rw [Int.add_mul, Int.mul_add S, ← Int.mul_assoc (f s), Int.mul_comm (f s) sg, Int.mul_assoc sg, Int.mul_sub (f s), ← Int.mul_assoc (f s), Int.mul_comm (f s) S, ← Int.mul_add]
    congr 1
    omega
theorem ext_le {sg S W : Int} : ∀ {l : List Stone} {ws : List Int}, InB l ws → (∀ s ∈ l, s.least ≤ s.most) → sg * (dotS l ws * W - S * totS l ws) ≤ sumS (fun s => wS sg S W s * (sg * (s.pos * W - S))) l
  | [], [], _, _ => by simp [dotS, totS, sumS]
  | s :: l, w :: ws, ⟨⟨h1, h2⟩, h⟩, hm => by
    have ih := ext_le (sg := sg) (S := S) (W := W) h (fun t ht => hm t (by simp [ht]))
    simp only [dotS, totS, sumS]
    have e : sg * ((w * s.pos + dotS l ws) * W - S * (w + totS l ws)) = w * (sg * (s.pos * W - S)) + sg * (dotS l ws * W - S * totS l ws) := by
      have h1 : (w * s.pos + dotS l ws) * W = w * s.pos * W + dotS l ws * W := Int.add_mul ..
      have h2 : S * (w + totS l ws) = S * w + S * totS l ws := Int.mul_add ..
      have h3 : w * (sg * (s.pos * W - S)) = sg * (w * s.pos * W - S * w) := by rw [Int.mul_left_comm, Int.mul_sub, ← Int.mul_assoc w, Int.mul_comm w S]
      have h4 : w * s.pos * W + dotS l ws * W - (S * w + S * totS l ws) = (w * s.pos * W - S * w) + (dotS l ws * W - S * totS l ws) := by omega
      rw [h1, h2, h3, h4, Int.mul_add]
    rw [e]
    have : w * (sg * (s.pos * W - S)) ≤ wS sg S W s * (sg * (s.pos * W - S)) := by
      unfold wS
      split
      · rename_i g; exact Int.mul_le_mul_of_nonneg_right h2 (by omega)
      · rename_i g
        have := Int.mul_le_mul_of_nonneg_right h1 (show 0 ≤ -(sg * (s.pos * W - S)) by omega)
        rw [Int.mul_neg, Int.mul_neg] at this
        omega
    omega
  | [], _ :: _, h, _ => h.elim
  | _ :: _, [], h, _ => h.elim
/-- No truth has a centre beyond. -/
theorem fix_ext {sg S W : Int} {l : List Stone} (f : Fix sg l S W) {ws : List Int} (h : InB l ws) (hm : ∀ s ∈ l, s.least ≤ s.most) : sg * (dotS l ws * W - S * totS l ws) ≤ 0 := by
  have := ext_le (sg := sg) (S := S) (W := W) h hm
  rw [fix_sum, ← f.s, ← f.w, Int.mul_comm S W, Int.mul_comm W S, Int.sub_self, Int.mul_zero] at this
  exact this
/-- The centre is that of a truth. -/
def wsF (sg S W : Int) (l : List Stone) : List Int := l.map (wS sg S W)
theorem wsF_in {sg S W : Int} : ∀ {l : List Stone}, (∀ s ∈ l, s.least ≤ s.most) → InB l (wsF sg S W l)
  | [], _ => trivial
  | s :: l, hm => by
    have := hm s (by simp)
    refine ⟨by unfold wS; split <;> omega, wsF_in fun t ht => hm t (by simp [ht])⟩
theorem wsF_dot (sg S W : Int) : ∀ l : List Stone, dotS l (wsF sg S W l) = sumS (fun s => wS sg S W s * s.pos) l ∧ totS l (wsF sg S W l) = sumS (wS sg S W) l
  | [] => ⟨rfl, rfl⟩
  | s :: l => by
    obtain ⟨h1, h2⟩ := wsF_dot sg S W l
    simp only [wsF, List.map_cons, dotS, totS, sumS] at *
    rw [h1, h2]
    exact ⟨rfl, rfl⟩
theorem fix_truth {sg S W : Int} {l : List Stone} (f : Fix sg l S W) : dotS l (wsF sg S W l) = S ∧ totS l (wsF sg S W l) = W := by
  obtain ⟨h1, h2⟩ := wsF_dot sg S W l
  exact ⟨h1.trans f.s.symm, h2.trans f.w.symm⟩
end Go.AM.Ytmhbnflnlglljaa
end

section
namespace Go.AM.Ytmhbnflnlglljaa
open Go Go.AM
set_option maxRecDepth 100000
theorem swp_cons (x : Stone) (l : List Stone) (j : Nat) : swp (x :: l) (j + 1) = x :: swp l j := by simp [swp]
theorem swp_app : ∀ (p : List Stone) (a b : Stone) (r : List Stone), swp (p ++ a :: b :: r) p.length = p ++ b :: a :: r
  | [], a, b, r => by simp [swp]
  | x :: p, a, b, r => by rw [List.cons_append, List.length_cons, swp_cons, swp_app p a b r, List.cons_append]
theorem getD_app (p : List Stone) (a : Stone) (r : List Stone) (d : Stone) : (p ++ a :: r).getD p.length d = a := by simp
theorem insL_parts (sg : Int) : ∀ (n : Nat) (p : List Stone) (x : Stone) (r : List Stone), p.length = n →
    ∃ a b, p = a ++ b ∧ insL sg (p ++ x :: r) p.length = a ++ x :: b ++ r ∧ (∀ t ∈ b, cmpV sg x t < 0) ∧ (∀ t q, a = q ++ [t] → ¬ cmpV sg x t < 0)
  | 0, p, x, r, hp => by
    obtain rfl := List.length_eq_zero_iff.1 hp
    exact ⟨[], [], rfl, by simp [insL], by simp, by simp⟩
  | n + 1, p, x, r, hp => by
    obtain ⟨q, y, rfl⟩ : ∃ q y, p = q ++ [y] := by
      rcases List.eq_nil_or_concat p with h | ⟨q, y, h⟩
      · rw [h] at hp; simp at hp
      · exact ⟨q, y, by simpa using h⟩
    have hq : q.length = n := by simpa using hp
    have e0 : (q ++ [y] ++ x :: r) = q ++ y :: x :: r := by simp
    have gx : (q ++ [y] ++ x :: r).getD (q.length + 1) default = x := by
      have := getD_app (q ++ [y]) x r default
      rwa [show (q ++ [y]).length = q.length + 1 by simp] at this
    have gy : (q ++ [y] ++ x :: r).getD q.length default = y := by rw [e0]; exact getD_app q y _ _
    rw [show (q ++ [y]).length = q.length + 1 by simp, insL, gx, gy]
    by_cases h : cmpV sg x y < 0
    · obtain ⟨a, b, e1, e2, e3, e4⟩ := insL_parts sg n q x (y :: r) hq
      refine ⟨a, b ++ [y], by rw [e1]; simp, ?_, ?_, e4⟩
      · rw [if_pos h, e0, swp_app, e2]; simp
      · intro t ht
        rcases List.mem_append.1 ht with ht | ht
        · exact e3 t ht
        · obtain rfl : t = y := by simpa using ht
          exact h
    · refine ⟨q ++ [y], [], by simp, by rw [if_neg h]; simp, by simp, ?_⟩
      intro t q' e
      have := List.append_inj_right' e rfl
      obtain rfl : y = t := by simpa using this
      exact h
def Desc (sg : Int) (l : List Stone) : Prop := l.Pairwise (fun t s => sg * s.pos ≤ sg * t.pos)
theorem cmpV_neg {sg : Int} (x t : Stone) : cmpV sg x t < 0 ↔ sg * t.pos < sg * x.pos := by
  unfold cmpV; rw [Int.mul_sub]; omega
theorem ins_desc {sg : Int} {a b : List Stone} {x : Stone} (h : Desc sg (a ++ b)) (h1 : ∀ t ∈ b, cmpV sg x t < 0) (h2 : ∀ t q, a = q ++ [t] → ¬ cmpV sg x t < 0) : Desc sg (a ++ x :: b) := by
  obtain ⟨ha, hb, hab⟩ := List.pairwise_append.1 h
  have hax : ∀ t ∈ a, sg * x.pos ≤ sg * t.pos := by
    rcases List.eq_nil_or_concat a with e | ⟨q, y, e⟩
    · subst e; simp
    · have e : a = q ++ [y] := by simpa using e
      have hy := h2 y q e
      rw [cmpV_neg] at hy
      intro t ht
      rw [e] at ht ha
      obtain ⟨_, _, hqy⟩ := List.pairwise_append.1 ha
      rcases List.mem_append.1 ht with ht | ht
      · have := hqy t ht y (by simp); omega
      · obtain rfl : t = y := by simpa using ht
        omega
  refine List.pairwise_append.2 ⟨ha, List.pairwise_cons.2 ⟨fun t ht => ?_, hb⟩, fun t ht s hs => ?_⟩
  · have := (cmpV_neg x t).1 (h1 t ht); omega
  · rcases List.mem_cons.1 hs with rfl | hs
    · exact hax t ht
    · exact hab t ht s hs
theorem srtL_parts (sg : Int) (l : List Stone) : ∀ i, i < l.length → ∃ p, p.length = i + 1 ∧ srtL sg l i = p ++ l.drop (i + 1) ∧ p.Perm (l.take (i + 1)) ∧ Desc sg p
  | 0, h => by
    match l, h with
    | a :: l, _ => exact ⟨[a], rfl, by simp [srtL], by simp, List.pairwise_singleton ..⟩
  | i + 1, h => by
    obtain ⟨p, e1, e2, e3, e4⟩ := srtL_parts sg l i (by omega)
    have hd : l.drop (i + 1) = l[i + 1] :: l.drop (i + 1 + 1) := List.drop_eq_getElem_cons h
    obtain ⟨a, b, f1, f2, f3, f4⟩ := insL_parts sg p.length p l[i + 1] (l.drop (i + 1 + 1)) rfl
    refine ⟨a ++ l[i + 1] :: b, ?_, ?_, ?_, ?_⟩
    · have := congrArg List.length f1
      simp at this ⊢; omega
    · rw [e1] at f2
      rw [srtL, e2, hd, f2]
    · have ht : l.take (i + 1 + 1) = l.take (i + 1) ++ [l[i + 1]] := by rw [List.take_succ_eq_append_getElem h]
      rw [ht]
      refine List.perm_middle.trans ?_
      refine (List.Perm.cons _ (f1 ▸ e3 : (a ++ b).Perm (l.take (i + 1)))).trans ?_
      exact (List.perm_append_singleton _ _).symm
    · rw [f1] at e4
      exact ins_desc e4 f3 f4
theorem srt_perm (sg : Int) {l : List Stone} (h : 0 < l.length) : (srt sg l).Perm l ∧ Desc sg (srt sg l) := by
  obtain ⟨p, e1, e2, e3, e4⟩ := srtL_parts sg l (l.length - 1) (by omega)
  have hd : l.drop (l.length - 1 + 1) = [] := List.drop_eq_nil_of_le (by omega)
  have ht : l.take (l.length - 1 + 1) = l := List.take_of_length_le (by omega)
  rw [hd, List.append_nil] at e2
  rw [ht] at e3
  unfold srt
  rw [e2]
  exact ⟨e3, e4⟩
/-- Sum and weight of the greatest centre (or the smallest one). -/
def spS (sg : Int) (l : List Stone) : Int := (grd sg (srt sg l) (sumS (fun s => s.least * s.pos) (srt sg l)) (sumS (fun s => s.least) (srt sg l))).1
def spW (sg : Int) (l : List Stone) : Int := (grd sg (srt sg l) (sumS (fun s => s.least * s.pos) (srt sg l)) (sumS (fun s => s.least) (srt sg l))).2
theorem sumS_least : ∀ {l : List Stone}, (∀ s ∈ l, 1 ≤ s.least) → (l.length : Int) ≤ sumS (fun s => s.least) l
  | [], _ => by simp [sumS]
  | s :: l, h => by
    have := sumS_least (l := l) fun t ht => h t (by simp [ht])
    have := h s (by simp)
    simp only [sumS, List.length_cons]; omega
theorem sp_fix {sg : Int} (hsg : sg = 1 ∨ sg = -1) {l : List Stone} (h0 : 0 < l.length) (h1 : ∀ s ∈ l, 1 ≤ s.least) (hm : ∀ s ∈ l, s.least ≤ s.most) : Fix sg l (spS sg l) (spW sg l) ∧ 0 < spW sg l := by
  obtain ⟨hp, hd⟩ := srt_perm sg h0
  have hin : ∀ s ∈ srt sg l, s ∈ l := fun s hs => hp.mem_iff.1 hs
  have hpos := sumS_least (l := srt sg l) fun s hs => h1 s (hin s hs)
  rw [srt_length] at hpos
  have := grd_fix hsg (srt sg l) [] (sumS (fun s => s.least * s.pos) (srt sg l)) (sumS (fun s => s.least) (srt sg l)) (by omega) (fun s hs => hm s (hin s hs)) (by simp) hd (by simp [sumS]) (by simp [sumS])
  rw [List.nil_append] at this
  exact ⟨fix_perm hp this.1, this.2⟩
end Go.AM.Ytmhbnflnlglljaa
end

section
namespace Go.AM.Ytmhbnflnlglljaa
open Go Go.AM
set_option maxRecDepth 100000
variable {C : Callee} {B N : Nat} {E0 : AHeap} (φ : AFr) (H : AHeap) (s : St)
noncomputable def c61_0 : Code := kBody Proofs.Try.f61
noncomputable def c61_1 : Code := kL c61_0
noncomputable def r61_0 : Array Oper := kO c61_1
noncomputable def o61_0_0 : Oper := opN r61_0 0
theorem x61_1 : execA E C (fg 61) B 25 E0 N c61_1 s = regX (runA E C B 25 r61_0 r61_0.toList s) (fun s => gcM E0 [] (forget s.1 [], s.2)) := x_reg (ops := r61_0) (by rfl) (by rfl) s
theorem r61_0_l : r61_0.toList = [o61_0_0] := nrfl rfl
theorem s61_0_0 : stepA E C B 25 r61_0 o61_0_0 (φ, H) = stp (some 4) φ H (opBox (B + 4) (zeroCells E.T 27)) := nrfl rfl
noncomputable def c61_2 : Code := kR c61_0
noncomputable def c61_3 : Code := kL c61_2
noncomputable def r61_1 : Array Oper := kO c61_3
noncomputable def o61_1_0 : Oper := opN r61_1 0
noncomputable def o61_1_1 : Oper := opN r61_1 1
noncomputable def o61_1_2 : Oper := opN r61_1 2
noncomputable def o61_1_3 : Oper := opN r61_1 3
noncomputable def o61_1_4 : Oper := opN r61_1 4
noncomputable def o61_1_5 : Oper := opN r61_1 5
noncomputable def o61_1_6 : Oper := opN r61_1 6
theorem x61_3 : execA E C (fg 61) B 25 E0 N c61_3 s = regX (runA E C B 25 r61_1 r61_1.toList s) (fun s => gcM E0 [7, 8, 9, 10, 11] (forget s.1 [7, 8, 9, 10, 11], s.2)) := x_reg (ops := r61_1) (by rfl) (by rfl) s
theorem r61_1_l : r61_1.toList = [o61_1_0, o61_1_1, o61_1_2, o61_1_3, o61_1_4, o61_1_5, o61_1_6] := nrfl rfl
theorem s61_1_0 : stepA E C B 25 r61_1 o61_1_0 (φ, H) = some (fput φ 7 (fget φ 0), H) := nrfl rfl
theorem s61_1_1 : stepA E C B 25 r61_1 o61_1_1 (φ, H) = some (fput φ 8 (fget φ 0), H) := nrfl rfl
theorem s61_1_2 : stepA E C B 25 r61_1 o61_1_2 (φ, H) = stp (some 9) φ H (justO (aUn .neg (fget φ 8))) := nrfl rfl
theorem s61_1_3 : stepA E C B 25 r61_1 o61_1_3 (φ, H) = stp (some 10) φ H (aBuiltin E.T (B + 10) .max #[3, 3] [(fget φ 7), (fget φ 9)]) := nrfl rfl
theorem s61_1_4 : stepA E C B 25 r61_1 o61_1_4 (φ, H) = some (fput φ 11 (fget φ 1), H) := nrfl rfl
theorem s61_1_5 : stepA E C B 25 r61_1 o61_1_5 (φ, H) = some (fput φ 5 (fget φ 10), H) := nrfl rfl
theorem s61_1_6 : stepA E C B 25 r61_1 o61_1_6 (φ, H) = some (fput φ 6 (fget φ 11), H) := nrfl rfl
noncomputable def c61_4 : Code := kR c61_2
noncomputable def c61_5 : Code := kL c61_4
noncomputable def c61_6 : Code := kB c61_5
noncomputable def c61_7 : Code := kB c61_6
noncomputable def c61_8 : Code := kL c61_7
noncomputable def c61_9 : Code := kL c61_8
noncomputable def r61_2 : Array Oper := kO c61_9
noncomputable def o61_2_0 : Oper := opN r61_2 0
noncomputable def o61_2_1 : Oper := opN r61_2 1
theorem x61_9 : execA E C (fg 61) B 25 E0 N c61_9 s = regX (runA E C B 25 r61_2 r61_2.toList s) (fun s => gcM E0 [12] (forget s.1 [12], s.2)) := x_reg (ops := r61_2) (by rfl) (by rfl) s
theorem r61_2_l : r61_2.toList = [o61_2_0, o61_2_1] := nrfl rfl
theorem s61_2_0 : stepA E C B 25 r61_2 o61_2_0 (φ, H) = some (fput φ 12 (fget φ 6), H) := nrfl rfl
theorem s61_2_1 : stepA E C B 25 r61_2 o61_2_1 (φ, H) = stp (some 13) φ H (just (aBin E.T .neq 3 (fget φ 12) (.int .i64 0))) := nrfl rfl
noncomputable def c61_10 : Code := kR c61_8
noncomputable def c61_11 : Code := kT c61_10
theorem x61_11 : execA E C (fg 61) B 25 E0 N c61_11 s = some (.normal, s) := x_skip (by rfl) s
noncomputable def c61_12 : Code := kE c61_10
theorem x61_12 : execA E C (fg 61) B 25 E0 N c61_12 s = some (.exit 0, s) := x_exit (by rfl) s
theorem x61_10 : execA E C (fg 61) B 25 E0 N c61_10 (φ, H) = condX (fget φ 13) (execA E C (fg 61) B 25 E0 N c61_11 (φ, H)) (execA E C (fg 61) B 25 E0 N c61_12 (φ, H)) := x_cond (by rfl) _
theorem x61_8 : execA E C (fg 61) B 25 E0 N c61_8 s = seqX (execA E C (fg 61) B 25 E0 N c61_9 s) (execA E C (fg 61) B 25 E0 N c61_10) := x_seq (by rfl) s
noncomputable def c61_13 : Code := kR c61_7
noncomputable def c61_14 : Code := kB c61_13
noncomputable def r61_3 : Array Oper := kO c61_14
noncomputable def o61_3_0 : Oper := opN r61_3 0
noncomputable def o61_3_1 : Oper := opN r61_3 1
noncomputable def o61_3_2 : Oper := opN r61_3 2
noncomputable def o61_3_3 : Oper := opN r61_3 3
noncomputable def o61_3_4 : Oper := opN r61_3 4
noncomputable def o61_3_5 : Oper := opN r61_3 5
theorem x61_14 : execA E C (fg 61) B 25 E0 N c61_14 s = regX (drawA E C B 25 r61_3 s) (fun s => gcM E0 [13, 14, 15, 16, 17] (forget s.1 [13, 14, 15, 16, 17], s.2)) := x_draw (ops := r61_3) (by rfl) (by rfl) s
theorem r61_3_l : r61_3.toList = [o61_3_0, o61_3_1, o61_3_2, o61_3_3, o61_3_4, o61_3_5] := nrfl rfl
theorem r61_3_st : statOk r61_3 = true := by kernel_rfl
theorem r61_3_dr : drawA E C B 25 r61_3 s = if neat 25 s = true then drX r61_3 (runT E C B 25 r61_3 r61_3.toList 0 s) else none := draw_eq r61_3_st s
theorem r61_3_an (l : List (Nat × Tr)) : dynOk r61_3 l = (!writing l || dynPairs [[], [], [], [1, 2], [0, 1], [0, 1, 2, 3, 4]] (touching l)) := dynOk_eq (by kernel_rfl) l
theorem s61_3_0 : stepT E C B 25 r61_3 o61_3_0 (φ, H) = some ((fput φ 14 (fget φ 6), H), ⟨false, [], []⟩) := stT_go rfl (goT_mv rfl rfl)
theorem s61_3_1 : stepT E C B 25 r61_3 o61_3_1 (φ, H) = some ((fput φ 15 (fget φ 5), H), ⟨false, [], []⟩) := stT_go rfl (goT_mv rfl rfl)
theorem s61_3_2 : stepT E C B 25 r61_3 o61_3_2 (φ, H) = some ((fput φ 16 (fget φ 6), H), ⟨false, [], []⟩) := stT_go rfl (goT_mv rfl rfl)
theorem s61_3_3 : stepT E C B 25 r61_3 o61_3_3 (φ, H) = stpT (some 17) φ H (just (aBin E.T .rem 3 (fget φ 15) (fget φ 16))) := stT_go rfl (goT_R rfl rfl)
theorem s61_3_4 : stepT E C B 25 r61_3 o61_3_4 (φ, H) = some ((fput φ 5 (fget φ 14), H), ⟨false, [], []⟩) := stT_go rfl (goT_mv rfl rfl)
theorem s61_3_5 : stepT E C B 25 r61_3 o61_3_5 (φ, H) = some ((fput φ 6 (fget φ 17), H), ⟨false, [], []⟩) := stT_go rfl (goT_mv rfl rfl)
theorem x61_13 : execA E C (fg 61) B 25 E0 N c61_13 s = blockX 1 (fun s => (forget s.1 [], s.2)) (execA E C (fg 61) B 25 E0 N c61_14 s) := x_block (by rfl) (by rfl) s
theorem x61_7 : execA E C (fg 61) B 25 E0 N c61_7 s = seqX (execA E C (fg 61) B 25 E0 N c61_8 s) (execA E C (fg 61) B 25 E0 N c61_13) := x_seq (by rfl) s
theorem x61_6 : execA E C (fg 61) B 25 E0 N c61_6 s = iterA (execA E C (fg 61) B 25 E0 N c61_7) (headA E0) N s := x_loop (by rfl) s
theorem x61_5 : execA E C (fg 61) B 25 E0 N c61_5 s = blockX 0 (fun s => (forget s.1 [6, 13], s.2)) (execA E C (fg 61) B 25 E0 N c61_6 s) := x_block (by rfl) (by rfl) s
noncomputable def c61_15 : Code := kR c61_4
noncomputable def c61_16 : Code := kL c61_15
noncomputable def r61_4 : Array Oper := kO c61_16
noncomputable def o61_4_0 : Oper := opN r61_4 0
noncomputable def o61_4_1 : Oper := opN r61_4 1
noncomputable def o61_4_2 : Oper := opN r61_4 2
noncomputable def o61_4_3 : Oper := opN r61_4 3
noncomputable def o61_4_4 : Oper := opN r61_4 4
noncomputable def o61_4_5 : Oper := opN r61_4 5
noncomputable def o61_4_6 : Oper := opN r61_4 6
noncomputable def o61_4_7 : Oper := opN r61_4 7
theorem x61_16 : execA E C (fg 61) B 25 E0 N c61_16 s = regX (drawA E C B 25 r61_4 s) (fun s => gcM E0 [0, 1, 5, 18, 19, 20, 21, 22, 23, 24] (forget s.1 [0, 1, 5, 18, 19, 20, 21, 22, 23, 24], s.2)) := x_draw (ops := r61_4) (by rfl) (by rfl) s
theorem r61_4_l : r61_4.toList = [o61_4_0, o61_4_1, o61_4_2, o61_4_3, o61_4_4, o61_4_5, o61_4_6, o61_4_7] := nrfl rfl
theorem r61_4_st : statOk r61_4 = true := by kernel_rfl
theorem r61_4_dr : drawA E C B 25 r61_4 s = if neat 25 s = true then drX r61_4 (runT E C B 25 r61_4 r61_4.toList 0 s) else none := draw_eq r61_4_st s
theorem r61_4_an (l : List (Nat × Tr)) : dynOk r61_4 l = (!writing l || dynPairs [[], [], [0, 1], [], [], [3, 4], [0, 1, 2, 3, 4, 5], [0, 1, 2, 3, 4, 5, 6]] (touching l)) := dynOk_eq (by kernel_rfl) l
theorem s61_4_0 : stepT E C B 25 r61_4 o61_4_0 (φ, H) = some ((fput φ 18 (fget φ 0), H), ⟨false, [], []⟩) := stT_go rfl (goT_mv rfl rfl)
theorem s61_4_1 : stepT E C B 25 r61_4 o61_4_1 (φ, H) = some ((fput φ 19 (fget φ 5), H), ⟨false, [], []⟩) := stT_go rfl (goT_mv rfl rfl)
theorem s61_4_2 : stepT E C B 25 r61_4 o61_4_2 (φ, H) = stpT (some 20) φ H (just (aBin E.T .quo 3 (fget φ 18) (fget φ 19))) := stT_go rfl (goT_R rfl rfl)
theorem s61_4_3 : stepT E C B 25 r61_4 o61_4_3 (φ, H) = some ((fput φ 21 (fget φ 1), H), ⟨false, [], []⟩) := stT_go rfl (goT_mv rfl rfl)
theorem s61_4_4 : stepT E C B 25 r61_4 o61_4_4 (φ, H) = some ((fput φ 22 (fget φ 5), H), ⟨false, [], []⟩) := stT_go rfl (goT_mv rfl rfl)
theorem s61_4_5 : stepT E C B 25 r61_4 o61_4_5 (φ, H) = stpT (some 23) φ H (just (aBin E.T .quo 3 (fget φ 21) (fget φ 22))) := stT_go rfl (goT_R rfl rfl)
theorem s61_4_6 : stepT E C B 25 r61_4 o61_4_6 (φ, H) = stpT (some 24) φ H (justO (aBuild E.T 27 (evO E φ) [(0, Operand.tmp 20), (1, Operand.tmp 23)])) := stT_go rfl (goT_R rfl rfl)
theorem s61_4_7 : stepT E C B 25 r61_4 o61_4_7 (φ, H) = stpT none φ H (opStore E.T 27 (fget φ 4) (fget φ 24)) := stT_go rfl (goT_R rfl rfl)
noncomputable def c61_17 : Code := kR c61_15
theorem x61_17 : execA E C (fg 61) B 25 E0 N c61_17 s = some (.ret, s) := x_ret (by rfl) s
theorem x61_15 : execA E C (fg 61) B 25 E0 N c61_15 s = seqX (execA E C (fg 61) B 25 E0 N c61_16 s) (execA E C (fg 61) B 25 E0 N c61_17) := x_seq (by rfl) s
theorem x61_4 : execA E C (fg 61) B 25 E0 N c61_4 s = seqX (execA E C (fg 61) B 25 E0 N c61_5 s) (execA E C (fg 61) B 25 E0 N c61_15) := x_seq (by rfl) s
theorem x61_2 : execA E C (fg 61) B 25 E0 N c61_2 s = seqX (execA E C (fg 61) B 25 E0 N c61_3 s) (execA E C (fg 61) B 25 E0 N c61_4) := x_seq (by rfl) s
theorem x61_0 : execA E C (fg 61) B 25 E0 N c61_0 s = seqX (execA E C (fg 61) B 25 E0 N c61_1 s) (execA E C (fg 61) B 25 E0 N c61_2) := x_seq (by rfl) s
theorem fi_61 : fInfo E 61 = some ⟨25, #[.cell 4 27], c61_0⟩ := nrfl rfl
theorem b_61 (args : List AV) : bodyA E C fg N 61 args H B = bodyX E [.cell 4 27] (execA E C (fg 61) B 25 H N c61_0 (frame0 args 0 [], H)) := bodyA_eq fi_61 args H
noncomputable def c83_0 : Code := kBody Proofs.Try.f83
noncomputable def c83_1 : Code := kL c83_0
noncomputable def r83_0 : Array Oper := kO c83_1
noncomputable def o83_0_0 : Oper := opN r83_0 0
theorem x83_1 : execA E C (fg 83) B 20 E0 N c83_1 s = regX (runA E C B 20 r83_0 r83_0.toList s) (fun s => gcM E0 [4] (forget s.1 [4], s.2)) := x_reg (ops := r83_0) (by rfl) (by rfl) s
theorem r83_0_l : r83_0.toList = [o83_0_0] := nrfl rfl
theorem s83_0_0 : stepA E C B 20 r83_0 o83_0_0 (φ, H) = some (fput φ 4 (.int .i64 0), H) := nrfl rfl
noncomputable def c83_2 : Code := kR c83_0
noncomputable def c83_3 : Code := kL c83_2
noncomputable def r83_1 : Array Oper := kO c83_3
noncomputable def o83_1_0 : Oper := opN r83_1 0
noncomputable def o83_1_1 : Oper := opN r83_1 1
noncomputable def o83_1_2 : Oper := opN r83_1 2
noncomputable def o83_1_3 : Oper := opN r83_1 3
noncomputable def o83_1_4 : Oper := opN r83_1 4
noncomputable def o83_1_5 : Oper := opN r83_1 5
noncomputable def o83_1_6 : Oper := opN r83_1 6
noncomputable def o83_1_7 : Oper := opN r83_1 7
noncomputable def o83_1_8 : Oper := opN r83_1 8
noncomputable def o83_1_9 : Oper := opN r83_1 9
theorem x83_3 : execA E C (fg 83) B 20 E0 N c83_3 s = regX (runA E C B 20 r83_1 r83_1.toList s) (fun s => gcM E0 [5, 6, 7, 8, 9, 10, 11, 12] (forget s.1 [5, 6, 7, 8, 9, 10, 11, 12], s.2)) := x_reg (ops := r83_1) (by rfl) (by rfl) s
theorem r83_1_l : r83_1.toList = [o83_1_0, o83_1_1, o83_1_2, o83_1_3, o83_1_4, o83_1_5, o83_1_6, o83_1_7, o83_1_8, o83_1_9] := nrfl rfl
theorem s83_1_0 : stepA E C B 20 r83_1 o83_1_0 (φ, H) = some (fput φ 5 (fget φ 0), H) := nrfl rfl
theorem s83_1_1 : stepA E C B 20 r83_1 o83_1_1 (φ, H) = some (fput φ 6 (fget φ 0), H) := nrfl rfl
theorem s83_1_2 : stepA E C B 20 r83_1 o83_1_2 (φ, H) = stp (some 7) φ H (justO (aUn .neg (fget φ 6))) := nrfl rfl
theorem s83_1_3 : stepA E C B 20 r83_1 o83_1_3 (φ, H) = stp (some 8) φ H (aBuiltin E.T (B + 8) .max #[3, 3] [(fget φ 5), (fget φ 7)]) := nrfl rfl
theorem s83_1_4 : stepA E C B 20 r83_1 o83_1_4 (φ, H) = some (fput φ 9 (fget φ 1), H) := nrfl rfl
theorem s83_1_5 : stepA E C B 20 r83_1 o83_1_5 (φ, H) = some (fput φ 10 (fget φ 1), H) := nrfl rfl
theorem s83_1_6 : stepA E C B 20 r83_1 o83_1_6 (φ, H) = stp (some 11) φ H (justO (aUn .neg (fget φ 10))) := nrfl rfl
theorem s83_1_7 : stepA E C B 20 r83_1 o83_1_7 (φ, H) = stp (some 12) φ H (aBuiltin E.T (B + 12) .max #[3, 3] [(fget φ 9), (fget φ 11)]) := nrfl rfl
theorem s83_1_8 : stepA E C B 20 r83_1 o83_1_8 (φ, H) = some (fput φ 0 (fget φ 8), H) := nrfl rfl
theorem s83_1_9 : stepA E C B 20 r83_1 o83_1_9 (φ, H) = some (fput φ 1 (fget φ 12), H) := nrfl rfl
noncomputable def c83_4 : Code := kR c83_2
noncomputable def c83_5 : Code := kL c83_4
noncomputable def c83_6 : Code := kB c83_5
noncomputable def c83_7 : Code := kB c83_6
noncomputable def c83_8 : Code := kL c83_7
noncomputable def c83_9 : Code := kL c83_8
noncomputable def r83_2 : Array Oper := kO c83_9
noncomputable def o83_2_0 : Oper := opN r83_2 0
noncomputable def o83_2_1 : Oper := opN r83_2 1
theorem x83_9 : execA E C (fg 83) B 20 E0 N c83_9 s = regX (runA E C B 20 r83_2 r83_2.toList s) (fun s => gcM E0 [13] (forget s.1 [13], s.2)) := x_reg (ops := r83_2) (by rfl) (by rfl) s
theorem r83_2_l : r83_2.toList = [o83_2_0, o83_2_1] := nrfl rfl
theorem s83_2_0 : stepA E C B 20 r83_2 o83_2_0 (φ, H) = some (fput φ 13 (fget φ 1), H) := nrfl rfl
theorem s83_2_1 : stepA E C B 20 r83_2 o83_2_1 (φ, H) = stp (some 14) φ H (just (aBin E.T .neq 3 (fget φ 13) (.int .i64 0))) := nrfl rfl
noncomputable def c83_10 : Code := kR c83_8
noncomputable def c83_11 : Code := kT c83_10
theorem x83_11 : execA E C (fg 83) B 20 E0 N c83_11 s = some (.normal, s) := x_skip (by rfl) s
noncomputable def c83_12 : Code := kE c83_10
theorem x83_12 : execA E C (fg 83) B 20 E0 N c83_12 s = some (.exit 0, s) := x_exit (by rfl) s
theorem x83_10 : execA E C (fg 83) B 20 E0 N c83_10 (φ, H) = condX (fget φ 14) (execA E C (fg 83) B 20 E0 N c83_11 (φ, H)) (execA E C (fg 83) B 20 E0 N c83_12 (φ, H)) := x_cond (by rfl) _
theorem x83_8 : execA E C (fg 83) B 20 E0 N c83_8 s = seqX (execA E C (fg 83) B 20 E0 N c83_9 s) (execA E C (fg 83) B 20 E0 N c83_10) := x_seq (by rfl) s
noncomputable def c83_13 : Code := kR c83_7
noncomputable def c83_14 : Code := kB c83_13
noncomputable def r83_3 : Array Oper := kO c83_14
noncomputable def o83_3_0 : Oper := opN r83_3 0
noncomputable def o83_3_1 : Oper := opN r83_3 1
noncomputable def o83_3_2 : Oper := opN r83_3 2
noncomputable def o83_3_3 : Oper := opN r83_3 3
noncomputable def o83_3_4 : Oper := opN r83_3 4
noncomputable def o83_3_5 : Oper := opN r83_3 5
theorem x83_14 : execA E C (fg 83) B 20 E0 N c83_14 s = regX (drawA E C B 20 r83_3 s) (fun s => gcM E0 [14, 15, 16, 17, 18] (forget s.1 [14, 15, 16, 17, 18], s.2)) := x_draw (ops := r83_3) (by rfl) (by rfl) s
theorem r83_3_l : r83_3.toList = [o83_3_0, o83_3_1, o83_3_2, o83_3_3, o83_3_4, o83_3_5] := nrfl rfl
theorem r83_3_st : statOk r83_3 = true := by kernel_rfl
theorem r83_3_dr : drawA E C B 20 r83_3 s = if neat 20 s = true then drX r83_3 (runT E C B 20 r83_3 r83_3.toList 0 s) else none := draw_eq r83_3_st s
theorem r83_3_an (l : List (Nat × Tr)) : dynOk r83_3 l = (!writing l || dynPairs [[], [], [], [1, 2], [0, 1], [0, 1, 2, 3, 4]] (touching l)) := dynOk_eq (by kernel_rfl) l
theorem s83_3_0 : stepT E C B 20 r83_3 o83_3_0 (φ, H) = some ((fput φ 15 (fget φ 1), H), ⟨false, [], []⟩) := stT_go rfl (goT_mv rfl rfl)
theorem s83_3_1 : stepT E C B 20 r83_3 o83_3_1 (φ, H) = some ((fput φ 16 (fget φ 0), H), ⟨false, [], []⟩) := stT_go rfl (goT_mv rfl rfl)
theorem s83_3_2 : stepT E C B 20 r83_3 o83_3_2 (φ, H) = some ((fput φ 17 (fget φ 1), H), ⟨false, [], []⟩) := stT_go rfl (goT_mv rfl rfl)
theorem s83_3_3 : stepT E C B 20 r83_3 o83_3_3 (φ, H) = stpT (some 18) φ H (just (aBin E.T .rem 3 (fget φ 16) (fget φ 17))) := stT_go rfl (goT_R rfl rfl)
theorem s83_3_4 : stepT E C B 20 r83_3 o83_3_4 (φ, H) = some ((fput φ 0 (fget φ 15), H), ⟨false, [], []⟩) := stT_go rfl (goT_mv rfl rfl)
theorem s83_3_5 : stepT E C B 20 r83_3 o83_3_5 (φ, H) = some ((fput φ 1 (fget φ 18), H), ⟨false, [], []⟩) := stT_go rfl (goT_mv rfl rfl)
theorem x83_13 : execA E C (fg 83) B 20 E0 N c83_13 s = blockX 1 (fun s => (forget s.1 [], s.2)) (execA E C (fg 83) B 20 E0 N c83_14 s) := x_block (by rfl) (by rfl) s
theorem x83_7 : execA E C (fg 83) B 20 E0 N c83_7 s = seqX (execA E C (fg 83) B 20 E0 N c83_8 s) (execA E C (fg 83) B 20 E0 N c83_13) := x_seq (by rfl) s
theorem x83_6 : execA E C (fg 83) B 20 E0 N c83_6 s = iterA (execA E C (fg 83) B 20 E0 N c83_7) (headA E0) N s := x_loop (by rfl) s
theorem x83_5 : execA E C (fg 83) B 20 E0 N c83_5 s = blockX 0 (fun s => (forget s.1 [1, 14], s.2)) (execA E C (fg 83) B 20 E0 N c83_6 s) := x_block (by rfl) (by rfl) s
noncomputable def c83_15 : Code := kR c83_4
noncomputable def c83_16 : Code := kL c83_15
noncomputable def r83_4 : Array Oper := kO c83_16
noncomputable def o83_4_0 : Oper := opN r83_4 0
noncomputable def o83_4_1 : Oper := opN r83_4 1
theorem x83_16 : execA E C (fg 83) B 20 E0 N c83_16 s = regX (runA E C B 20 r83_4 r83_4.toList s) (fun s => gcM E0 [0, 19] (forget s.1 [0, 19], s.2)) := x_reg (ops := r83_4) (by rfl) (by rfl) s
theorem r83_4_l : r83_4.toList = [o83_4_0, o83_4_1] := nrfl rfl
theorem s83_4_0 : stepA E C B 20 r83_4 o83_4_0 (φ, H) = some (fput φ 19 (fget φ 0), H) := nrfl rfl
theorem s83_4_1 : stepA E C B 20 r83_4 o83_4_1 (φ, H) = some (fput φ 4 (fget φ 19), H) := nrfl rfl
noncomputable def c83_17 : Code := kR c83_15
theorem x83_17 : execA E C (fg 83) B 20 E0 N c83_17 s = some (.ret, s) := x_ret (by rfl) s
theorem x83_15 : execA E C (fg 83) B 20 E0 N c83_15 s = seqX (execA E C (fg 83) B 20 E0 N c83_16 s) (execA E C (fg 83) B 20 E0 N c83_17) := x_seq (by rfl) s
theorem x83_4 : execA E C (fg 83) B 20 E0 N c83_4 s = seqX (execA E C (fg 83) B 20 E0 N c83_5 s) (execA E C (fg 83) B 20 E0 N c83_15) := x_seq (by rfl) s
theorem x83_2 : execA E C (fg 83) B 20 E0 N c83_2 s = seqX (execA E C (fg 83) B 20 E0 N c83_3 s) (execA E C (fg 83) B 20 E0 N c83_4) := x_seq (by rfl) s
theorem x83_0 : execA E C (fg 83) B 20 E0 N c83_0 s = seqX (execA E C (fg 83) B 20 E0 N c83_1 s) (execA E C (fg 83) B 20 E0 N c83_2) := x_seq (by rfl) s
theorem fi_83 : fInfo E 83 = some ⟨20, #[.tmp 4], c83_0⟩ := nrfl rfl
theorem b_83 (args : List AV) : bodyA E C fg N 83 args H B = bodyX E [.tmp 4] (execA E C (fg 83) B 20 H N c83_0 (frame0 args 0 [], H)) := bodyA_eq fi_83 args H
noncomputable def c39_0 : Code := kBody Proofs.Try.f39
noncomputable def c39_1 : Code := kL c39_0
noncomputable def r39_0 : Array Oper := kO c39_1
noncomputable def o39_0_0 : Oper := opN r39_0 0
noncomputable def o39_0_1 : Oper := opN r39_0 1
noncomputable def o39_0_2 : Oper := opN r39_0 2
theorem x39_1 : execA E C (fg 39) B 16 E0 N c39_1 s = regX (runA E C B 16 r39_0 r39_0.toList s) (fun s => gcM E0 [0, 1, 4] (forget s.1 [0, 1, 4], s.2)) := x_reg (ops := r39_0) (by rfl) (by rfl) s
theorem r39_0_l : r39_0.toList = [o39_0_0, o39_0_1, o39_0_2] := nrfl rfl
theorem s39_0_0 : stepA E C B 16 r39_0 o39_0_0 (φ, H) = stp (some 2) φ H (opBox (B + 2) (acells (fget φ 0))) := nrfl rfl
theorem s39_0_1 : stepA E C B 16 r39_0 o39_0_1 (φ, H) = stp (some 3) φ H (opBox (B + 3) (acells (fget φ 1))) := nrfl rfl
theorem s39_0_2 : stepA E C B 16 r39_0 o39_0_2 (φ, H) = some (fput φ 4 (.bool false), H) := nrfl rfl
noncomputable def c39_2 : Code := kR c39_0
noncomputable def c39_3 : Code := kL c39_2
noncomputable def r39_1 : Array Oper := kO c39_3
noncomputable def o39_1_0 : Oper := opN r39_1 0
noncomputable def o39_1_1 : Oper := opN r39_1 1
noncomputable def o39_1_2 : Oper := opN r39_1 2
noncomputable def o39_1_3 : Oper := opN r39_1 3
noncomputable def o39_1_4 : Oper := opN r39_1 4
noncomputable def o39_1_5 : Oper := opN r39_1 5
noncomputable def o39_1_6 : Oper := opN r39_1 6
noncomputable def o39_1_7 : Oper := opN r39_1 7
noncomputable def o39_1_8 : Oper := opN r39_1 8
noncomputable def o39_1_9 : Oper := opN r39_1 9
noncomputable def o39_1_10 : Oper := opN r39_1 10
noncomputable def o39_1_11 : Oper := opN r39_1 11
theorem x39_3 : execA E C (fg 39) B 16 E0 N c39_3 s = regX (runA E C B 16 r39_1 r39_1.toList s) (fun s => gcM E0 [2, 3, 5, 6, 7, 8, 9, 10, 11, 12, 13, 14, 15] (forget s.1 [2, 3, 5, 6, 7, 8, 9, 10, 11, 12, 13, 14, 15], s.2)) := x_reg (ops := r39_1) (by rfl) (by rfl) s
theorem r39_1_l : r39_1.toList = [o39_1_0, o39_1_1, o39_1_2, o39_1_3, o39_1_4, o39_1_5, o39_1_6, o39_1_7, o39_1_8, o39_1_9, o39_1_10, o39_1_11] := nrfl rfl
theorem s39_1_0 : stepA E C B 16 r39_1 o39_1_0 (φ, H) = stp (some 5) φ H (just (aFieldAddr E.T 27 (fget φ 2) 0)) := nrfl rfl
theorem s39_1_1 : stepA E C B 16 r39_1 o39_1_1 (φ, H) = stp (some 6) φ H (just (aLoad E.T 3 (fget φ 5))) := nrfl rfl
theorem s39_1_2 : stepA E C B 16 r39_1 o39_1_2 (φ, H) = stp (some 7) φ H (just (aFieldAddr E.T 27 (fget φ 3) 1)) := nrfl rfl
theorem s39_1_3 : stepA E C B 16 r39_1 o39_1_3 (φ, H) = stp (some 8) φ H (just (aLoad E.T 3 (fget φ 7))) := nrfl rfl
theorem s39_1_4 : stepA E C B 16 r39_1 o39_1_4 (φ, H) = stp (some 9) φ H (just (aBin E.T .mul 3 (fget φ 6) (fget φ 8))) := nrfl rfl
theorem s39_1_5 : stepA E C B 16 r39_1 o39_1_5 (φ, H) = stp (some 10) φ H (just (aFieldAddr E.T 27 (fget φ 3) 0)) := nrfl rfl
theorem s39_1_6 : stepA E C B 16 r39_1 o39_1_6 (φ, H) = stp (some 11) φ H (just (aLoad E.T 3 (fget φ 10))) := nrfl rfl
theorem s39_1_7 : stepA E C B 16 r39_1 o39_1_7 (φ, H) = stp (some 12) φ H (just (aFieldAddr E.T 27 (fget φ 2) 1)) := nrfl rfl
theorem s39_1_8 : stepA E C B 16 r39_1 o39_1_8 (φ, H) = stp (some 13) φ H (just (aLoad E.T 3 (fget φ 12))) := nrfl rfl
theorem s39_1_9 : stepA E C B 16 r39_1 o39_1_9 (φ, H) = stp (some 14) φ H (just (aBin E.T .mul 3 (fget φ 11) (fget φ 13))) := nrfl rfl
theorem s39_1_10 : stepA E C B 16 r39_1 o39_1_10 (φ, H) = stp (some 15) φ H (just (aBin E.T .lss 3 (fget φ 9) (fget φ 14))) := nrfl rfl
theorem s39_1_11 : stepA E C B 16 r39_1 o39_1_11 (φ, H) = some (fput φ 4 (fget φ 15), H) := nrfl rfl
noncomputable def c39_4 : Code := kR c39_2
theorem x39_4 : execA E C (fg 39) B 16 E0 N c39_4 s = some (.ret, s) := x_ret (by rfl) s
theorem x39_2 : execA E C (fg 39) B 16 E0 N c39_2 s = seqX (execA E C (fg 39) B 16 E0 N c39_3 s) (execA E C (fg 39) B 16 E0 N c39_4) := x_seq (by rfl) s
theorem x39_0 : execA E C (fg 39) B 16 E0 N c39_0 s = seqX (execA E C (fg 39) B 16 E0 N c39_1 s) (execA E C (fg 39) B 16 E0 N c39_2) := x_seq (by rfl) s
theorem fi_39 : fInfo E 39 = some ⟨16, #[.tmp 4], c39_0⟩ := nrfl rfl
theorem b_39 (args : List AV) : bodyA E C fg N 39 args H B = bodyX E [.tmp 4] (execA E C (fg 39) B 16 H N c39_0 (frame0 args 0 [], H)) := bodyA_eq fi_39 args H
noncomputable def c33_0 : Code := kBody Proofs.Try.f33
noncomputable def c33_1 : Code := kL c33_0
noncomputable def r33_0 : Array Oper := kO c33_1
noncomputable def o33_0_0 : Oper := opN r33_0 0
noncomputable def o33_0_1 : Oper := opN r33_0 1
theorem x33_1 : execA E C (fg 33) B 29 E0 N c33_1 s = regX (runA E C B 29 r33_0 r33_0.toList s) (fun s => gcM E0 [0, 2] (forget s.1 [0, 2], s.2)) := x_reg (ops := r33_0) (by rfl) (by rfl) s
theorem r33_0_l : r33_0.toList = [o33_0_0, o33_0_1] := nrfl rfl
theorem s33_0_0 : stepA E C B 29 r33_0 o33_0_0 (φ, H) = stp (some 1) φ H (opBox (B + 1) (acells (fget φ 0))) := nrfl rfl
theorem s33_0_1 : stepA E C B 29 r33_0 o33_0_1 (φ, H) = some (fput φ 2 (.bool false), H) := nrfl rfl
noncomputable def c33_2 : Code := kR c33_0
noncomputable def c33_3 : Code := kL c33_2
noncomputable def r33_1 : Array Oper := kO c33_3
noncomputable def o33_1_0 : Oper := opN r33_1 0
noncomputable def o33_1_1 : Oper := opN r33_1 1
noncomputable def o33_1_2 : Oper := opN r33_1 2
noncomputable def o33_1_3 : Oper := opN r33_1 3
noncomputable def o33_1_4 : Oper := opN r33_1 4
noncomputable def o33_1_5 : Oper := opN r33_1 5
noncomputable def o33_1_6 : Oper := opN r33_1 6
noncomputable def o33_1_7 : Oper := opN r33_1 7
noncomputable def o33_1_8 : Oper := opN r33_1 8
noncomputable def o33_1_9 : Oper := opN r33_1 9
noncomputable def o33_1_10 : Oper := opN r33_1 10
noncomputable def o33_1_11 : Oper := opN r33_1 11
noncomputable def o33_1_12 : Oper := opN r33_1 12
noncomputable def o33_1_13 : Oper := opN r33_1 13
noncomputable def o33_1_14 : Oper := opN r33_1 14
noncomputable def o33_1_15 : Oper := opN r33_1 15
noncomputable def o33_1_16 : Oper := opN r33_1 16
noncomputable def o33_1_17 : Oper := opN r33_1 17
noncomputable def o33_1_18 : Oper := opN r33_1 18
noncomputable def o33_1_19 : Oper := opN r33_1 19
noncomputable def o33_1_20 : Oper := opN r33_1 20
noncomputable def o33_1_21 : Oper := opN r33_1 21
noncomputable def o33_1_22 : Oper := opN r33_1 22
noncomputable def o33_1_23 : Oper := opN r33_1 23
noncomputable def o33_1_24 : Oper := opN r33_1 24
noncomputable def o33_1_25 : Oper := opN r33_1 25
noncomputable def o33_1_26 : Oper := opN r33_1 26
theorem x33_3 : execA E C (fg 33) B 29 E0 N c33_3 s = regX (runA E C B 29 r33_1 r33_1.toList s) (fun s => gcM E0 [1, 3, 4, 5, 6, 7, 8, 9, 10, 11, 12, 13, 14, 15, 16, 17, 18, 19, 20, 21, 22, 23, 24, 25, 26, 27, 28] (forget s.1 [1, 3, 4, 5, 6, 7, 8, 9, 10, 11, 12, 13, 14, 15, 16, 17, 18, 19, 20, 21, 22, 23, 24, 25, 26, 27, 28], s.2)) := x_reg (ops := r33_1) (by rfl) (by rfl) s
theorem r33_1_l : r33_1.toList = [o33_1_0, o33_1_1, o33_1_2, o33_1_3, o33_1_4, o33_1_5, o33_1_6, o33_1_7, o33_1_8, o33_1_9, o33_1_10, o33_1_11, o33_1_12, o33_1_13, o33_1_14, o33_1_15, o33_1_16, o33_1_17, o33_1_18, o33_1_19, o33_1_20, o33_1_21, o33_1_22, o33_1_23, o33_1_24, o33_1_25, o33_1_26] := nrfl rfl
theorem s33_1_0 : stepA E C B 29 r33_1 o33_1_0 (φ, H) = stp (some 3) φ H (just (aFieldAddr E.T 27 (fget φ 1) 1)) := nrfl rfl
theorem s33_1_1 : stepA E C B 29 r33_1 o33_1_1 (φ, H) = stp (some 4) φ H (just (aLoad E.T 3 (fget φ 3))) := nrfl rfl
theorem s33_1_2 : stepA E C B 29 r33_1 o33_1_2 (φ, H) = stp (some 5) φ H (just (aBin E.T .gtr 3 (fget φ 4) (.int .i64 0))) := nrfl rfl
theorem s33_1_3 : stepA E C B 29 r33_1 o33_1_3 (φ, H) = some (fput φ 6 (fget φ 5), H) := nrfl rfl
theorem s33_1_4 : stepA E C B 29 r33_1 o33_1_4 (φ, H) = gd φ 6 true (fun φ => some (fput φ 7 (.tup []), H)) (fun φ => stp (some 7) φ H (just (aFieldAddr E.T 27 (fget φ 1) 1))) := s_gd (j := 3) (oj := o33_1_3) rfl rfl rfl (fun _ => rfl) (fun _ => rfl)
theorem s33_1_5 : stepA E C B 29 r33_1 o33_1_5 (φ, H) = gd φ 6 true (fun φ => some (fput φ 8 (.tup []), H)) (fun φ => stp (some 8) φ H (just (aLoad E.T 3 (fget φ 7)))) := s_gd (j := 3) (oj := o33_1_3) rfl rfl rfl (fun _ => rfl) (fun _ => rfl)
theorem s33_1_6 : stepA E C B 29 r33_1 o33_1_6 (φ, H) = gd φ 6 true (fun φ => some (fput φ 9 (.tup []), H)) (fun φ => stp (some 9) φ H (just (aBin E.T .lss 3 (fget φ 8) (.int .i64 33554432)))) := s_gd (j := 3) (oj := o33_1_3) rfl rfl rfl (fun _ => rfl) (fun _ => rfl)
theorem s33_1_7 : stepA E C B 29 r33_1 o33_1_7 (φ, H) = stp (some 10) φ H (opPick (fget φ 6) (fget φ 9) (.bool false)) := nrfl rfl
theorem s33_1_8 : stepA E C B 29 r33_1 o33_1_8 (φ, H) = some (fput φ 11 (fget φ 10), H) := nrfl rfl
theorem s33_1_9 : stepA E C B 29 r33_1 o33_1_9 (φ, H) = gd φ 11 true (fun φ => some (fput φ 12 (.tup []), H)) (fun φ => stp (some 12) φ H (just (aFieldAddr E.T 27 (fget φ 1) 0))) := s_gd (j := 8) (oj := o33_1_8) rfl rfl rfl (fun _ => rfl) (fun _ => rfl)
theorem s33_1_10 : stepA E C B 29 r33_1 o33_1_10 (φ, H) = gd φ 11 true (fun φ => some (fput φ 13 (.tup []), H)) (fun φ => stp (some 13) φ H (just (aLoad E.T 3 (fget φ 12)))) := s_gd (j := 8) (oj := o33_1_8) rfl rfl rfl (fun _ => rfl) (fun _ => rfl)
theorem s33_1_11 : stepA E C B 29 r33_1 o33_1_11 (φ, H) = gd φ 11 true (fun φ => some (fput φ 14 (.tup []), H)) (fun φ => stp (some 14) φ H (just (aBin E.T .gtr 3 (fget φ 13) (.int .i64 (-68719476736))))) := s_gd (j := 8) (oj := o33_1_8) rfl rfl rfl (fun _ => rfl) (fun _ => rfl)
theorem s33_1_12 : stepA E C B 29 r33_1 o33_1_12 (φ, H) = stp (some 15) φ H (opPick (fget φ 11) (fget φ 14) (.bool false)) := nrfl rfl
theorem s33_1_13 : stepA E C B 29 r33_1 o33_1_13 (φ, H) = some (fput φ 16 (fget φ 15), H) := nrfl rfl
theorem s33_1_14 : stepA E C B 29 r33_1 o33_1_14 (φ, H) = gd φ 16 true (fun φ => some (fput φ 17 (.tup []), H)) (fun φ => stp (some 17) φ H (just (aFieldAddr E.T 27 (fget φ 1) 0))) := s_gd (j := 13) (oj := o33_1_13) rfl rfl rfl (fun _ => rfl) (fun _ => rfl)
theorem s33_1_15 : stepA E C B 29 r33_1 o33_1_15 (φ, H) = gd φ 16 true (fun φ => some (fput φ 18 (.tup []), H)) (fun φ => stp (some 18) φ H (just (aLoad E.T 3 (fget φ 17)))) := s_gd (j := 13) (oj := o33_1_13) rfl rfl rfl (fun _ => rfl) (fun _ => rfl)
theorem s33_1_16 : stepA E C B 29 r33_1 o33_1_16 (φ, H) = gd φ 16 true (fun φ => some (fput φ 19 (.tup []), H)) (fun φ => stp (some 19) φ H (just (aBin E.T .lss 3 (fget φ 18) (.int .i64 68719476736)))) := s_gd (j := 13) (oj := o33_1_13) rfl rfl rfl (fun _ => rfl) (fun _ => rfl)
theorem s33_1_17 : stepA E C B 29 r33_1 o33_1_17 (φ, H) = stp (some 20) φ H (opPick (fget φ 16) (fget φ 19) (.bool false)) := nrfl rfl
theorem s33_1_18 : stepA E C B 29 r33_1 o33_1_18 (φ, H) = some (fput φ 21 (fget φ 20), H) := nrfl rfl
theorem s33_1_19 : stepA E C B 29 r33_1 o33_1_19 (φ, H) = gd φ 21 true (fun φ => some (fput φ 22 (.tup []), H)) (fun φ => stp (some 22) φ H (just (aFieldAddr E.T 27 (fget φ 1) 0))) := s_gd (j := 18) (oj := o33_1_18) rfl rfl rfl (fun _ => rfl) (fun _ => rfl)
theorem s33_1_20 : stepA E C B 29 r33_1 o33_1_20 (φ, H) = gd φ 21 true (fun φ => some (fput φ 23 (.tup []), H)) (fun φ => stp (some 23) φ H (just (aLoad E.T 3 (fget φ 22)))) := s_gd (j := 18) (oj := o33_1_18) rfl rfl rfl (fun _ => rfl) (fun _ => rfl)
theorem s33_1_21 : stepA E C B 29 r33_1 o33_1_21 (φ, H) = gd φ 21 true (fun φ => some (fput φ 24 (.tup []), H)) (fun φ => stp (some 24) φ H (just (aFieldAddr E.T 27 (fget φ 1) 1))) := s_gd (j := 18) (oj := o33_1_18) rfl rfl rfl (fun _ => rfl) (fun _ => rfl)
theorem s33_1_22 : stepA E C B 29 r33_1 o33_1_22 (φ, H) = gd φ 21 true (fun φ => some (fput φ 25 (.tup []), H)) (fun φ => stp (some 25) φ H (just (aLoad E.T 3 (fget φ 24)))) := s_gd (j := 18) (oj := o33_1_18) rfl rfl rfl (fun _ => rfl) (fun _ => rfl)
theorem s33_1_23 : stepA E C B 29 r33_1 o33_1_23 (φ, H) = gd φ 21 true (fun φ => some (fput φ 26 (.tup []), H)) (fun φ => stp (some 26) φ H (aCall C (fun j => B + j * 29 + 26) true 83 [(fget φ 23), (fget φ 25)])) := s_gd (j := 18) (oj := o33_1_18) rfl rfl rfl (fun _ => rfl) (fun _ => rfl)
theorem s33_1_24 : stepA E C B 29 r33_1 o33_1_24 (φ, H) = gd φ 21 true (fun φ => some (fput φ 27 (.tup []), H)) (fun φ => stp (some 27) φ H (just (aBin E.T .eql 3 (fget φ 26) (.int .i64 1)))) := s_gd (j := 18) (oj := o33_1_18) rfl rfl rfl (fun _ => rfl) (fun _ => rfl)
theorem s33_1_25 : stepA E C B 29 r33_1 o33_1_25 (φ, H) = stp (some 28) φ H (opPick (fget φ 21) (fget φ 27) (.bool false)) := nrfl rfl
theorem s33_1_26 : stepA E C B 29 r33_1 o33_1_26 (φ, H) = some (fput φ 2 (fget φ 28), H) := nrfl rfl
noncomputable def c33_4 : Code := kR c33_2
theorem x33_4 : execA E C (fg 33) B 29 E0 N c33_4 s = some (.ret, s) := x_ret (by rfl) s
theorem x33_2 : execA E C (fg 33) B 29 E0 N c33_2 s = seqX (execA E C (fg 33) B 29 E0 N c33_3 s) (execA E C (fg 33) B 29 E0 N c33_4) := x_seq (by rfl) s
theorem x33_0 : execA E C (fg 33) B 29 E0 N c33_0 s = seqX (execA E C (fg 33) B 29 E0 N c33_1 s) (execA E C (fg 33) B 29 E0 N c33_2) := x_seq (by rfl) s
theorem fi_33 : fInfo E 33 = some ⟨29, #[.tmp 2], c33_0⟩ := nrfl rfl
theorem b_33 (args : List AV) : bodyA E C fg N 33 args H B = bodyX E [.tmp 2] (execA E C (fg 33) B 29 H N c33_0 (frame0 args 0 [], H)) := bodyA_eq fi_33 args H
end Go.AM.Ytmhbnflnlglljaa
end

section
namespace Go.AM.Ytmhbnflnlglljaa
open Go Go.AM
set_option maxRecDepth 100000
set_option maxHeartbeats 4000000
abbrev euS (a b : Nat) (num den : Int) : St := ([(6, .int .i64 b), (5, .int .i64 a), (4, .ptr 4 0 2), (1, .int .i64 den), (0, .int .i64 num)], [(4, ⟨.box, [.int .i64 0, .int .i64 0]⟩)])
theorem eu_go {C : Callee} {a b : Nat} {num den : Int} (hb : b ≠ 0) (h2 : b < 9223372036854775808) :
    ∃ s', execA E C (fg 61) 0 25 [] 1000 c61_7 (euS a b num den) = some (.normal, s') ∧ headA [] s' = euS b (a % b) num den := by
  have hn : ¬ (b : Int) = 0 := by omega
  have ht : (a : Int).tmod b = ((a % b : Nat) : Int) := by rw [Int.tmod_eq_emod_of_nonneg (by omega)]; omega
  have hlt := Nat.mod_lt a (Nat.pos_of_ne_zero hb)
  have w : wrp .i64 ((a % b : Nat) : Int) = ((a % b : Nat) : Int) := wrp64 (by omega)
  simp only [seqX_normal, bindR_some, regX_some, condX_bool, blockX_normal, Bool.not_true, Bool.not_false, run_nil, run_cons, fget_cons', fput_cons', forget_nil, forget_cons', gcM_c, stp, just, Rd.bind, Rd.run, Rd.opt, upds, aBin, aInt, Nat.reduceAdd, Nat.reduceBEq, Nat.reduceEqDiff, Nat.reduceLeDiff, ↓reduceIte, reduceCtorEq, Nat.zero_add, bne_iff_ne, ne_eq, rtX_some, addT_some, drX_some, runT_nil, runT_cons, neat_eq, descF_nil', descF_cons', ascH_nil', ascH_cons', stpT, Rd.foot, writing, touching, Tr.empty, dynPairs, List.isEmpty_nil, List.map_nil, Bool.not_false, Bool.not_true, Bool.or_true, Bool.or_false, Bool.and_self, decide_true, not_false_eq_true, putD_some, List.elem_cons, List.elem_nil, x61_9, r61_2_l, s61_2_0, s61_2_1, x61_11, x61_12, x61_10, x61_8, x61_14, r61_3_l, r61_3_dr, r61_3_an, s61_3_0, s61_3_1, s61_3_2, s61_3_3, s61_3_4, s61_3_5, x61_13, x61_7, euS, hn, ht]
  exact ⟨_, rfl, rfl⟩
abbrev euE (a : Nat) (num den : Int) : St := ([(13, .bool false), (6, .int .i64 0), (5, .int .i64 a), (4, .ptr 4 0 2), (1, .int .i64 den), (0, .int .i64 num)], [(4, ⟨.box, [.int .i64 0, .int .i64 0]⟩)])
theorem eu_stop {C : Callee} {a : Nat} {num den : Int} :
    execA E C (fg 61) 0 25 [] 1000 c61_7 (euS a 0 num den) = some (.exit 0, euE a num den) := by
  simp only [seqX_normal, seqX_exit, bindR_some, regX_some, condX_bool, run_nil, run_cons, fget_cons', fput_cons', forget_nil, forget_cons', gcM_c, stp, just, Rd.bind, Rd.run, Rd.opt, upds, aBin, aInt, Nat.reduceBEq, Nat.reduceEqDiff, Nat.reduceLeDiff, ↓reduceIte, reduceCtorEq, putD_some, List.elem_cons, List.elem_nil, x61_9, r61_2_l, s61_2_0, s61_2_1, x61_11, x61_12, x61_10, x61_8, x61_7, euS, euE, Int.natCast_zero, bne_self_eq_false]
theorem eu_loop {C : Callee} {num den : Int} : ∀ (m a b F : Nat) (s : St), headA [] s = euS a b num den → b < 2 ^ m → m ≤ 62 → 2 * m < F →
    iterA (execA E C (fg 61) 0 25 [] 1000 c61_7) (headA []) F s = some (.exit 0, euE (Nat.gcd a b) num den) := by
  intro m
  induction m with
  | zero =>
    intro a b F s hs hb hm hF
    obtain ⟨F, rfl⟩ : ∃ G, F = G + 1 := ⟨F - 1, by omega⟩
    obtain rfl : b = 0 := by omega
    rw [iterA_succ, hs, eu_stop, seqX_exit, Nat.gcd_zero_right]
  | succ m ih =>
    intro a b F s hs hb hm hF
    obtain ⟨F, rfl⟩ : ∃ G, F = G + 2 := ⟨F - 2, by omega⟩
    have hpow : 2 ^ (m + 1) ≤ 2 ^ 62 := Nat.pow_le_pow_right (by omega) hm
    have h62 : (2 : Nat) ^ 62 < 9223372036854775808 := by decide
    have hps : 2 ^ (m + 1) = 2 * 2 ^ m := by rw [Nat.pow_succ]; omega
    by_cases h0 : b = 0
    · subst h0
      rw [iterA_succ, hs, eu_stop, seqX_exit, Nat.gcd_zero_right]
    · obtain ⟨s1, e1, e2⟩ := eu_go (C := C) (a := a) (num := num) (den := den) h0 (by omega)
      have hlt := Nat.mod_lt a (Nat.pos_of_ne_zero h0)
      have hg : Nat.gcd a b = Nat.gcd b (a % b) := by rw [Nat.gcd_comm a b, Nat.gcd_rec, Nat.gcd_comm]
      rw [iterA_succ, hs, e1, seqN, iterA_succ, e2, hg]
      by_cases h1 : a % b = 0
      · rw [h1, eu_stop, seqX_exit, Nat.gcd_zero_right]
      · obtain ⟨s2, f1, f2⟩ := eu_go (C := C) (a := b) (num := num) (den := den) h1 (by omega)
        have hlt2 := Nat.mod_lt b (Nat.pos_of_ne_zero h1)
        have hg2 : Nat.gcd b (a % b) = Nat.gcd (a % b) (b % (a % b)) := by rw [Nat.gcd_comm b (a % b), Nat.gcd_rec, Nat.gcd_comm]
        have hdm := Nat.div_add_mod b (a % b)
        have hq : 1 ≤ b / (a % b) := Nat.div_pos (by omega) (by omega)
        have hmul : a % b ≤ (a % b) * (b / (a % b)) := Nat.le_mul_of_pos_right _ hq
        rw [f1, seqN, hg2]
        exact ih (a % b) (b % (a % b)) F s2 f2 (by omega) (by omega) (by omega)
/-- A fraction in lowest terms. -/
def gcdI (num den : Int) : Nat := Nat.gcd num.natAbs den.natAbs
def rdN (num den : Int) : Int := num / (gcdI num den : Int)
def rdD (num den : Int) : Int := den / (gcdI num den : Int)
theorem gcdI_pos {num den : Int} (h : 0 < den) : 0 < gcdI num den := Nat.gcd_pos_of_pos_right _ (by omega)
theorem gcdI_le {num den : Int} (h : 0 < den) : (gcdI num den : Int) ≤ den := by
  have := Nat.gcd_le_right num.natAbs (n := den.natAbs) (by omega)
  unfold gcdI
  omega
theorem gcdI_dvd1 (num den : Int) : (gcdI num den : Int) ∣ num := Int.ofNat_dvd_left.2 (Nat.gcd_dvd_left ..)
theorem gcdI_dvd2 (num den : Int) : (gcdI num den : Int) ∣ den := Int.ofNat_dvd_left.2 (Nat.gcd_dvd_right ..)
theorem rd_mul (num den : Int) : rdN num den * (gcdI num den : Int) = num ∧ rdD num den * (gcdI num den : Int) = den :=
  ⟨Int.ediv_mul_cancel (gcdI_dvd1 ..), Int.ediv_mul_cancel (gcdI_dvd2 ..)⟩
theorem nat_le_mul (x : Int) {g : Int} (h : 1 ≤ g) : x.natAbs ≤ (x * g).natAbs := by
  rw [Int.natAbs_mul]
  exact Nat.le_mul_of_pos_right _ (by omega)
theorem rd_den_pos {num den : Int} (h : 0 < den) : 0 < rdD num den := by
  obtain ⟨_, h2⟩ := rd_mul num den
  have hg := gcdI_pos (num := num) h
  rcases Int.lt_trichotomy 0 (rdD num den) with h3 | h3 | h3
  · exact h3
  · rw [← h3] at h2; omega
  · have := Int.mul_neg_of_neg_of_pos h3 (show (0 : Int) < gcdI num den by omega)
    omega
theorem reduced_run {C : Callee} {num den : Int} (h1 : -4611686018427387903 ≤ num ∧ num ≤ 4611686018427387903) (h2 : 0 < den ∧ den ≤ 4611686018427387903) :
    rsOf (bodyA E C fg 1000 61 [.int .i64 num, .int .i64 den] [] 0) = some (.agg [.int .i64 (rdN num den), .int .i64 (rdD num den)]) := by
  have h62 : (2 : Nat) ^ 62 = 4611686018427387904 := by decide
  have hl := eu_loop (C := C) (num := num) (den := den) 62 num.natAbs den.natAbs 1000 (euS num.natAbs den.natAbs num den) rfl (by omega) (by omega) (by omega)
  have hmax : (if -num > num then -num else num) = (num.natAbs : Int) := by split <;> omega
  have hden : (den.natAbs : Int) = den := by omega
  have w1 : wrp .i64 (0 - num) = -num := by rw [wrp64 (by omega)]; omega
  have hg : Nat.gcd num.natAbs den.natAbs = gcdI num den := rfl
  have gp := gcdI_pos (num := num) h2.1
  have gl := gcdI_le (num := num) h2.1
  have hz : ¬ (gcdI num den : Int) = 0 := by omega
  have t1 : num.tdiv (gcdI num den : Int) = rdN num den := Int.tdiv_eq_ediv_of_dvd (gcdI_dvd1 ..)
  have t2 : den.tdiv (gcdI num den : Int) = rdD num den := Int.tdiv_eq_ediv_of_dvd (gcdI_dvd2 ..)
  simp only [hg, euE, euS, hden] at hl
  obtain ⟨m1, m2⟩ := rd_mul num den
  have hp := rd_den_pos (num := num) h2.1
  have hdl : rdD num den ≤ den := by
    have := Int.mul_le_mul_of_nonneg_left (show (1 : Int) ≤ gcdI num den by omega) (Int.le_of_lt hp)
    omega
  have hnb := nat_le_mul (rdN num den) (show (1 : Int) ≤ gcdI num den by omega)
  rw [m1] at hnb
  have x1 : wrp .i64 (rdN num den) = rdN num den := wrp64 (by omega)
  have x2 : wrp .i64 (rdD num den) = rdD num den := wrp64 (by omega)
  simp only [seqX_normal, bindR_some, regX_some, blockX_exit, Bool.not_true, Bool.not_false, bodyX_ret, run_nil, run_cons, fget_cons', fput_cons', forget_nil, forget_cons', hget_nil', hget_cons', hset_nil', hset_cons', frame0, gcM_n, gcM_c, stp, opBox, justO, just, Rd.bind, Rd.run, Rd.opt, upds, acells, zeroCells, tsz, rdCells, aLoad, aStore, opStore, resA, resL, fresh, aBuiltin, aMax, aBin, aInt, putC, evO, Nat.reduceAdd, Nat.reduceGT, Nat.reduceBEq, Nat.reduceEqDiff, Nat.reduceLeDiff, ↓reduceIte, reduceCtorEq, liveBlk_eq, Nat.zero_add, ne_eq, List.nil_append, rtX_some, addT_some, drX_some, runT_nil, runT_cons, neat_eq, descF_nil', descF_cons', ascH_nil', ascH_cons', stpT, Rd.foot, writing, touching, Tr.empty, dynPairs, apartT, disj, List.isEmpty_nil, List.isEmpty_cons, List.map_nil, List.map_cons, Bool.not_false, Bool.not_true, Bool.true_or, Bool.or_true, Bool.or_false, Bool.and_true, Bool.true_and, Bool.and_self, decide_true, not_true_eq_false, or_self, partsOf, fillA, frz, aUn, putD_some, putD_none, and_true, snaps, snap, List.append_nil, Option.map_some, List.elem_cons, List.elem_nil, List.length_cons, List.length_nil, List.getElem?_cons_zero, List.getElem?_cons_succ, List.drop_zero, List.take_succ_cons, List.take_nil, List.set_cons_zero, List.set_cons_succ, T_27, x61_1, r61_0_l, s61_0_0, x61_3, r61_1_l, s61_1_0, s61_1_1, s61_1_2, s61_1_3, s61_1_4, s61_1_5, s61_1_6, x61_6, x61_5, x61_16, r61_4_l, r61_4_dr, r61_4_an, s61_4_0, s61_4_1, s61_4_2, s61_4_3, s61_4_4, s61_4_5, s61_4_6, s61_4_7, x61_17, x61_15, x61_4, x61_2, x61_0, b_61, w1, hmax, hl, hz, t1, t2, x1, x2, aBuild, placeF, fillA, List.all_cons, List.all_nil]
theorem reduced_call {d : Nat} {site : Nat → Nat} {seen : List Nat} {num den : Int} (h1 : -4611686018427387903 ≤ num ∧ num ≤ 4611686018427387903) (h2 : 0 < den ∧ den ≤ 4611686018427387903) :
    aBack site true seen (thaw (callA E fg 1000 (d + 1)) 61 [.int .i64 num, .int .i64 den] [] 0) = .pure (.agg [.int .i64 (rdN num den), .int .i64 (rdD num den)], []) := by
  obtain ⟨H, h⟩ := rs_ex (reduced_run (C := callA E fg 1000 d) h1 h2)
  exact aBack_plain (H' := H) h rfl (fun _ => rfl) rfl
structure Fr where
  num : Int
  den : Int
deriving Inhabited
def frc (f : Fr) : List AV := [.int .i64 f.num, .int .i64 f.den]
def rd (num den : Int) : Fr := ⟨rdN num den, rdD num den⟩
theorem rd_den {num den : Int} (h : 0 < den) : 0 < (rd num den).den ∧ (rd num den).den ≤ den := by
  obtain ⟨_, h2⟩ := rd_mul num den
  have hg := gcdI_pos (num := num) h
  have hp := rd_den_pos (num := num) h
  have := Int.mul_le_mul_of_nonneg_left (show (1 : Int) ≤ gcdI num den by omega) (Int.le_of_lt hp)
  refine ⟨hp, ?_⟩
  show rdD num den ≤ den
  omega
theorem rd_cross {num den : Int} : (rd num den).num * den = num * (rd num den).den := by
  obtain ⟨h1, h2⟩ := rd_mul num den
  show rdN num den * den = num * rdD num den
  calc rdN num den * den = rdN num den * (rdD num den * (gcdI num den : Int)) := by rw [h2]
    _ = rdN num den * (gcdI num den : Int) * rdD num den := by ac_rfl
    _ = num * rdD num den := by rw [h1]
/-- Fractions that are equal have the same lowest terms. -/
theorem rd_coprime {a b : Int} (h : 0 < b) : Nat.gcd (rdN a b).natAbs (rdD a b).natAbs = 1 := by
  have hg := gcdI_pos (num := a) h
  have e1 : (rdN a b).natAbs = a.natAbs / gcdI a b := Int.natAbs_ediv_of_dvd (gcdI_dvd1 a b)
  have e2 : (rdD a b).natAbs = b.natAbs / gcdI a b := Int.natAbs_ediv_of_dvd (gcdI_dvd2 a b)
  rw [e1, e2]
  unfold gcdI at hg ⊢
  rw [Nat.gcd_div (Nat.gcd_dvd_left ..) (Nat.gcd_dvd_right ..)]
  exact Nat.div_self hg
end Go.AM.Ytmhbnflnlglljaa
end

section
namespace Go.AM.Ytmhbnflnlglljaa
open Go Go.AM
set_option maxRecDepth 100000
set_option maxHeartbeats 4000000
theorem aBack_frac {C : Callee} {site : Nat → Nat} {seen : List Nat} {f : FuncId} {args : List AV} {a b : Int} (h : ∃ H', C f args [] 0 = some (.agg [.int .i64 a, .int .i64 b], H')) : aBack site true seen (thaw C f args [] 0) = .pure (.agg [.int .i64 a, .int .i64 b], []) := by
  obtain ⟨H', h⟩ := h; exact aBack_plain h rfl (fun _ => rfl) rfl
end Go.AM.Ytmhbnflnlglljaa
end

section
namespace Go.AM.Ytmhbnflnlglljaa
open Go Go.AM
set_option maxRecDepth 100000
variable {C : Callee} {B N : Nat} {E0 : AHeap} (φ : AFr) (H : AHeap) (s : St)
noncomputable def c41_0 : Code := kBody Proofs.Try.f41
noncomputable def c41_1 : Code := kL c41_0
noncomputable def r41_0 : Array Oper := kO c41_1
noncomputable def o41_0_0 : Oper := opN r41_0 0
theorem x41_1 : execA E C (fg 41) B 8 E0 N c41_1 s = regX (runA E C B 8 r41_0 r41_0.toList s) (fun s => gcM E0 [2] (forget s.1 [2], s.2)) := x_reg (ops := r41_0) (by rfl) (by rfl) s
theorem r41_0_l : r41_0.toList = [o41_0_0] := nrfl rfl
theorem s41_0_0 : stepA E C B 8 r41_0 o41_0_0 (φ, H) = some (fput φ 2 (.nilsl), H) := nrfl rfl
noncomputable def c41_2 : Code := kR c41_0
noncomputable def c41_3 : Code := kL c41_2
noncomputable def c41_4 : Code := kL c41_3
noncomputable def r41_1 : Array Oper := kO c41_4
noncomputable def o41_1_0 : Oper := opN r41_1 0
noncomputable def o41_1_1 : Oper := opN r41_1 1
theorem x41_4 : execA E C (fg 41) B 8 E0 N c41_4 s = regX (runA E C B 8 r41_1 r41_1.toList s) (fun s => gcM E0 [3] (forget s.1 [3], s.2)) := x_reg (ops := r41_1) (by rfl) (by rfl) s
theorem r41_1_l : r41_1.toList = [o41_1_0, o41_1_1] := nrfl rfl
theorem s41_1_0 : stepA E C B 8 r41_1 o41_1_0 (φ, H) = some (fput φ 3 (fget φ 0), H) := nrfl rfl
theorem s41_1_1 : stepA E C B 8 r41_1 o41_1_1 (φ, H) = stp (some 4) φ H (just (aBin E.T .eql 22 (fget φ 3) (.nilsl))) := nrfl rfl
noncomputable def c41_5 : Code := kR c41_3
noncomputable def c41_6 : Code := kT c41_5
noncomputable def c41_7 : Code := kL c41_6
noncomputable def r41_2 : Array Oper := kO c41_7
noncomputable def o41_2_0 : Oper := opN r41_2 0
theorem x41_7 : execA E C (fg 41) B 8 E0 N c41_7 s = regX (runA E C B 8 r41_2 r41_2.toList s) (fun s => gcM E0 [0, 4] (forget s.1 [0, 4], s.2)) := x_reg (ops := r41_2) (by rfl) (by rfl) s
theorem r41_2_l : r41_2.toList = [o41_2_0] := nrfl rfl
theorem s41_2_0 : stepA E C B 8 r41_2 o41_2_0 (φ, H) = some (fput φ 2 (.nilsl), H) := nrfl rfl
noncomputable def c41_8 : Code := kR c41_6
theorem x41_8 : execA E C (fg 41) B 8 E0 N c41_8 s = some (.ret, s) := x_ret (by rfl) s
theorem x41_6 : execA E C (fg 41) B 8 E0 N c41_6 s = seqX (execA E C (fg 41) B 8 E0 N c41_7 s) (execA E C (fg 41) B 8 E0 N c41_8) := x_seq (by rfl) s
noncomputable def c41_9 : Code := kE c41_5
theorem x41_9 : execA E C (fg 41) B 8 E0 N c41_9 s = some (.normal, s) := x_skip (by rfl) s
theorem x41_5 : execA E C (fg 41) B 8 E0 N c41_5 (φ, H) = condX (fget φ 4) (execA E C (fg 41) B 8 E0 N c41_6 (φ, H)) (execA E C (fg 41) B 8 E0 N c41_9 (φ, H)) := x_cond (by rfl) _
theorem x41_3 : execA E C (fg 41) B 8 E0 N c41_3 s = seqX (execA E C (fg 41) B 8 E0 N c41_4 s) (execA E C (fg 41) B 8 E0 N c41_5) := x_seq (by rfl) s
noncomputable def c41_10 : Code := kR c41_2
noncomputable def c41_11 : Code := kL c41_10
noncomputable def r41_3 : Array Oper := kO c41_11
noncomputable def o41_3_0 : Oper := opN r41_3 0
noncomputable def o41_3_1 : Oper := opN r41_3 1
noncomputable def o41_3_2 : Oper := opN r41_3 2
noncomputable def o41_3_3 : Oper := opN r41_3 3
theorem x41_11 : execA E C (fg 41) B 8 E0 N c41_11 s = regX (runA E C B 8 r41_3 r41_3.toList s) (fun s => gcM E0 [0, 4, 5, 6, 7] (forget s.1 [0, 4, 5, 6, 7], s.2)) := x_reg (ops := r41_3) (by rfl) (by rfl) s
theorem r41_3_l : r41_3.toList = [o41_3_0, o41_3_1, o41_3_2, o41_3_3] := nrfl rfl
theorem s41_3_0 : stepA E C B 8 r41_3 o41_3_0 (φ, H) = stp (some 5) φ H (aBuildSlice E.T (B + 5) 22 0 (evO E φ) []) := nrfl rfl
theorem s41_3_1 : stepA E C B 8 r41_3 o41_3_1 (φ, H) = some (fput φ 6 (fget φ 0), H) := nrfl rfl
theorem s41_3_2 : stepA E C B 8 r41_3 o41_3_2 (φ, H) = stp (some 7) φ H (aBuiltin E.T (B + 7) .append #[22, 22] [(fget φ 5), (fget φ 6)]) := nrfl rfl
theorem s41_3_3 : stepA E C B 8 r41_3 o41_3_3 (φ, H) = some (fput φ 2 (fget φ 7), H) := nrfl rfl
noncomputable def c41_12 : Code := kR c41_10
theorem x41_12 : execA E C (fg 41) B 8 E0 N c41_12 s = some (.ret, s) := x_ret (by rfl) s
theorem x41_10 : execA E C (fg 41) B 8 E0 N c41_10 s = seqX (execA E C (fg 41) B 8 E0 N c41_11 s) (execA E C (fg 41) B 8 E0 N c41_12) := x_seq (by rfl) s
theorem x41_2 : execA E C (fg 41) B 8 E0 N c41_2 s = seqX (execA E C (fg 41) B 8 E0 N c41_3 s) (execA E C (fg 41) B 8 E0 N c41_10) := x_seq (by rfl) s
theorem x41_0 : execA E C (fg 41) B 8 E0 N c41_0 s = seqX (execA E C (fg 41) B 8 E0 N c41_1 s) (execA E C (fg 41) B 8 E0 N c41_2) := x_seq (by rfl) s
theorem fi_41 : fInfo E 41 = some ⟨8, #[.tmp 2], c41_0⟩ := nrfl rfl
theorem b_41 (args : List AV) : bodyA E C fg N 41 args H B = bodyX E [.tmp 2] (execA E C (fg 41) B 8 H N c41_0 (frame0 args 0 [], H)) := bodyA_eq fi_41 args H
end Go.AM.Ytmhbnflnlglljaa
end
