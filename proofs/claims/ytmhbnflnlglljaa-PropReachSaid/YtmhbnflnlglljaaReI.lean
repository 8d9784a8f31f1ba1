/- A part of the proof of propReach_holds: PropD, PropE, PropF, PropG, SyC, AmBk, Bas, MadeA, SpA, AmKn, SpL, SyG, SerA. Own work of this project; texts printed by own programs among it. -/
import Derived.KernelRfl
import Derived.Test.YtmhbnflnlglljaaReH
section
namespace Go.AM.Ytmhbnflnlglljaa
open Go Go.AM
set_option maxRecDepth 100000
set_option maxHeartbeats 1000000
/-- The sum of a level's moments to a side, in the worst truth. -/
def worstSum (l : List Stone) (k : Nat) (side : Int) : Int := sumF (fun i => term side (rightE l k) (leftE l k) (l.getD i default)) k (l.length - k)
def mayTip (l : List Stone) (k : Nat) (side : Int) : Bool := decide (worstSum l k side > 0)
theorem may_asks {d : Nat} {l : List Stone} (h : OkP l) {k : Nat} (hk : k ≤ l.length) (side : Int) :
    Asks (callA E fg 1000 (d + 2)) (.clo 115 [.iptr [farV side (rightE l k) (leftE l k)] 0]) (fun i => [.agg (sc (l.getD i default))]) (fun i => term side (rightE l k) (leftE l k) (l.getD i default)) k l.length := by
  refine ⟨fun _ => rfl, fun site i _ hi => ?_⟩
  obtain ⟨s, hs⟩ := at_ex hi
  have hg : l.getD i default = s := by simp [hs]
  have := aBack_int (site := site) (seen := []) (rs_ex (mayTerm_run (d := d) i s side (rightE l k) (leftE l k) (h.fits i s hs) (edge_bounds h hk)))
  simp only [hg]
  simp only [sc] at this
  simp only [sc, opCallV, fi_115, aCall, List.cons_append, List.nil_append, snaps, snap, Rd.bind]
  exact this
theorem may_run {d : Nat} {l : List Stone} {ex : Bool} (h : OkP l) {k : Nat} (hk : k ≤ l.length) (side : Int) : rsOf (callA E fg 1000 (d + 4) 96 [.imm (pcells l) l.length ex, .int .i64 k, .int .i64 side] [] 0) = some (.bool (mayTip l k side)) := by
  have hsum := fun site seen => aBack_int (site := site) (seen := seen) (rs_ex (sumP_run (ex := ex) hk h.le (may_asks (d := d) h hk side) (by rfl) (fun i h1 h2 => by
    obtain ⟨s, hs⟩ := at_ex h2
    have hg : l.getD i default = s := by simp [hs]
    obtain ⟨b1, b2⟩ := term_bound (side := side) (h.fits i s hs) (edge_bounds h hk)
    simp only [hg]
    omega)))
  have hs2 : ∀ (args : List AV), bodyA E (callA E fg 1000 (d + 2)) fg 1000 114 args [] 0 = callA E fg 1000 (d + 3) 114 args [] 0 := fun _ => rfl
  have hsum2 : ∀ site seen, aBack site true seen (thaw (callA E fg 1000 (d + 3)) 114 [.imm (pcells l) l.length ex, .int .i64 k, .clo 115 [.iptr [farV side (rightE l k) (leftE l k)] 0]] [] 0) = .pure (.int .i64 (worstSum l k side), []) := fun site seen => hsum site seen
  change rsOf (bodyA E (callA E fg 1000 (d + 3)) fg 1000 96 _ _ _) = _
  have hbc := fun site => beyond_call (d := d + 1) (site := site) (ex := ex) h hk side
  simp only [farV] at hbc hsum2
  simp only [seqX_normal, bindR_some, regX_some, bodyX_ret, run_nil, run_cons, fget_cons', fput_cons', forget_nil, forget_cons', hget_nil', hget_cons', hset_nil', hset_cons', frame0, gcM_c, stp, opBox, just, Rd.bind, Rd.run, Rd.opt, upds, acells, zeroCells, tsz, aStore, opStore, resA, resL, fresh, aBin, aInt, putC, Nat.reduceAdd, Nat.reduceBEq, Nat.reduceEqDiff, Nat.reduceLeDiff, ↓reduceIte, reduceCtorEq, liveBlk_eq, Nat.zero_add, List.nil_append, frz, putD_some, putD_none, and_true, aCall, snaps, snap, List.append_nil, Option.map_some, List.elem_cons, List.elem_nil, List.length_cons, List.length_nil, List.set_cons_zero, T_138, x96_1, r96_0_l, s96_0_0, x96_3, r96_1_l, s96_1_0, s96_1_1, s96_1_2, s96_1_3, s96_1_4, s96_1_5, x96_5, r96_2_l, s96_2_0, s96_2_1, s96_2_2, s96_2_3, s96_2_4, s96_2_5, x96_6, x96_4, x96_2, x96_0, b_96, hbc, hsum2, mayTip]
theorem may_call {d : Nat} {site : Nat → Nat} {seen : List Nat} {l : List Stone} {ex : Bool} (h : OkP l) {k : Nat} (hk : k ≤ l.length) (side : Int) :
    aBack site true seen (thaw (callA E fg 1000 (d + 4)) 96 [.imm (pcells l) l.length ex, .int .i64 k, .int .i64 side] [] 0) = .pure (.bool (mayTip l k side), []) :=
  aBack_bool (rs_ex (may_run h hk side))
/-- The lowest level that may tip, from one on. -/
def weakFrom (l : List Stone) (k : Nat) : Nat → Int
  | 0 => -1
  | m + 1 => if mayTip l k 1 = true ∨ mayTip l k (-1) = true then k else weakFrom l (k + 1) m
def weakL (l : List Stone) : Int := weakFrom l 0 l.length
theorem weak_loop {d : Nat} {l : List Stone} {ex : Bool} (h : OkP l) : ∀ (m k F : Nat) (H : AHeap), k + m = l.length → m < F →
    iterA (execA E (callA E fg 1000 (d + 4)) (fg 64) 0 19 [] 1000 c64_7) (headA []) F ([(6, .int .i64 k), (5, .int .i64 l.length), (0, .imm (pcells l) l.length ex)], H) =
      if weakFrom l k m = -1 then some (.exit 0, [(7, .bool false), (6, .int .i64 l.length), (5, .int .i64 l.length), (0, .imm (pcells l) l.length ex)], []) else some (.ret, [(2, .int .i64 (weakFrom l k m))], [])
  | 0, k, F + 1, H, hk, _ => by
    obtain rfl : k = l.length := by omega
    rw [iterA_succ]
    simp only [seqX_normal, seqX_exit, bindR_some, regX_some, condX_bool, run_nil, run_cons, fget_cons', fput_cons', forget_nil, forget_cons', gcM_n, stp, just, Rd.bind, Rd.run, Rd.opt, upds, aBin, aInt, Nat.reduceEqDiff, Nat.reduceLeDiff, Int.reduceNeg, ↓reduceIte, headA_drop, refsF, refsOf, decide_false, putD_some, List.append_nil, List.elem_nil, x64_8, r64_2_l, s64_2_0, x64_11, x64_12, x64_10, x64_9, x64_7, Int.lt_irrefl, decide_false, Bool.false_eq_true, weakFrom]
  | m + 1, k, F + 1, H, hk, hF => by
    have hkl : k < l.length := by omega
    have ih := weak_loop (d := d) (ex := ex) h m (k + 1) F [] (by omega) (by omega)
    have hne : (k : Int) ≠ -1 := by omega
    rw [iterA_succ]
    simp only [seqX_normal, seqX_ret, seqX_ite, bindR_some, bindR_ite, regX_some, regX_ite, condX_bool, blockX_normal, blockX_ret, blockX_ite, ↓gd, fset_cons, Bool.not_false, run_nil, run_cons, fget_cons', fput_cons', forget_nil, forget_cons', gcM_n, gcM_c, stp, opPick, just, Rd.bind, Rd.run, Rd.opt, upds, aBin, aInt, Nat.reduceBEq, Nat.reduceEqDiff, Nat.reduceLeDiff, Int.reduceNeg, ↓reduceIte, reduceCtorEq, Nat.zero_add, headA_drop, refsF, refsOf, Bool.not_false, decide_true, putD_some, Int.ofNat_lt, aCall, snaps, snap, List.append_nil, List.elem_cons, List.elem_nil, x64_8, r64_2_l, s64_2_0, x64_11, x64_12, x64_10, x64_16, r64_3_l, s64_3_0, s64_3_1, x64_18, r64_4_l, s64_4_0, s64_4_1, s64_4_2, s64_4_3, s64_4_4, s64_4_5, s64_4_6, s64_4_7, x64_21, r64_5_l, s64_5_0, s64_5_1, x64_22, x64_20, x64_23, x64_19, x64_17, x64_15, x64_14, x64_24, r64_6_l, s64_6_0, s64_6_1, x64_13, x64_9, x64_7, hkl, may_call h (Nat.le_of_lt hkl), wrp_succ (show k < 1000000 by have := h.le; omega), ih, weakFrom]
    by_cases h1 : mayTip l k 1 = true <;> by_cases h2 : mayTip l k (-1) = true <;> simp [h1, h2, hne]
theorem weak_run {d : Nat} {l : List Stone} {ex : Bool} (h : OkP l) : rsOf (callA E fg 1000 (d + 5) 64 [.imm (pcells l) l.length ex] [] 0) = some (.int .i64 (weakL l)) := by
  change rsOf (bodyA E (callA E fg 1000 (d + 4)) fg 1000 64 _ _ _) = _
  have hl := weak_loop (d := d) (ex := ex) h l.length 0 1000 [] (by omega) (by have := h.le; omega)
  simp only [Int.natCast_zero] at hl
  by_cases hw : weakFrom l 0 l.length = -1
  · simp only [hw, if_true] at hl
    simp only [seqX_normal, bindR_some, regX_some, blockX_exit, bodyX_ret, run_nil, run_cons, fget_cons', fput_nil, fput_cons', forget_nil, forget_cons', frame0, gcM_n, gcM_c, stp, just, Rd.bind, Rd.run, upds, resA, resL, aLen, aBuiltin, Nat.reduceBEq, Nat.reduceEqDiff, Nat.reduceLeDiff, Int.reduceNeg, ↓reduceIte, reduceCtorEq, List.getElem?_toArray, putD_some, Option.map_some, List.elem_cons, List.elem_nil, List.getElem?_cons_zero, T_22, x64_1, r64_0_l, s64_0_0, x64_4, r64_1_l, s64_1_0, s64_1_1, s64_1_2, x64_6, x64_5, x64_3, x64_26, r64_7_l, s64_7_0, x64_27, x64_25, x64_2, x64_0, b_64, hl, weakL, hw]
  · simp only [hw, if_false] at hl
    simp only [seqX_normal, seqX_ret, bindR_some, regX_some, blockX_ret, bodyX_ret, run_nil, run_cons, fget_cons', fput_cons', forget_nil, forget_cons', frame0, gcM_c, stp, just, Rd.bind, Rd.run, upds, resA, resL, aLen, aBuiltin, Nat.reduceBEq, Nat.reduceEqDiff, Nat.reduceLeDiff, ↓reduceIte, reduceCtorEq, List.getElem?_toArray, putD_some, Option.map_some, List.elem_cons, List.elem_nil, List.getElem?_cons_zero, T_22, x64_1, r64_0_l, s64_0_0, x64_4, r64_1_l, s64_1_0, s64_1_1, s64_1_2, x64_6, x64_5, x64_3, x64_2, x64_0, b_64, hl, weakL]
theorem weak_call {d : Nat} {site : Nat → Nat} {seen : List Nat} {l : List Stone} {ex : Bool} (h : OkP l) : aBack site true seen (thaw (callA E fg 1000 (d + 5)) 64 [.imm (pcells l) l.length ex] [] 0) = .pure (.int .i64 (weakL l), []) :=
  aBack_int (rs_ex (weak_run h))
theorem isP_imm {a : AV} {l : List Stone} (h : IsP a l) (hl : 0 < l.length) : ∃ ex, a = .imm (pcells l) l.length ex := by
  rcases h with ⟨_, rfl⟩ | h
  · simp at hl
  · exact h
def standsB (l : List Stone) : Bool := if check l = 0 then decide (weakL l < 0) else false
theorem stands_run {d : Nat} {a : AV} {l : List Stone} (ha : IsP a l) : rsOf (callA E fg 1000 (d + 6) 32 [a] [] 0) = some (.tup [.bool (standsB l), .int .i64 (check l)]) := by
  change rsOf (bodyA E (callA E fg 1000 (d + 5)) fg 1000 32 _ _ _) = _
  have hc := fun (site : Nat → Nat) seen => check_call (d := d + 3) (site := site) (seen := seen) ha
  by_cases h0 : check l = 0
  · have h := check_zero.1 h0
    obtain ⟨ex, rfl⟩ := isP_imm ha h.ne
    simp only [seqX_normal, bindR_some, regX_some, condX_bool, bodyX_ret, run_nil, run_cons, fget_cons', fput_cons', forget_nil, forget_cons', frame0, gcM_c, stp, just, Rd.bind, Rd.run, Rd.opt, upds, resA, resL, aBin, aInt, Nat.reduceBEq, Nat.reduceEqDiff, Nat.reduceLeDiff, ↓reduceIte, reduceCtorEq, Nat.zero_add, bne_iff_ne, ne_eq, not_true_eq_false, putD_some, aCall, snaps, snap, List.append_nil, Option.map_some, List.elem_cons, List.elem_nil, x32_1, r32_0_l, s32_0_0, s32_0_1, x32_4, r32_1_l, s32_1_0, s32_1_1, s32_1_2, x32_6, r32_2_l, s32_2_0, s32_2_1, x32_9, r32_3_l, s32_3_0, s32_3_1, s32_3_2, x32_10, x32_8, x32_11, x32_7, x32_5, x32_3, x32_13, r32_4_l, s32_4_0, s32_4_1, s32_4_2, s32_4_3, s32_4_4, x32_14, x32_12, x32_2, x32_0, b_32, hc, h0, weak_call h, standsB]
  · rcases ha with ⟨rfl, rfl⟩ | ⟨ex, rfl⟩ <;> simp only [seqX_normal, seqX_ret, bindR_some, regX_some, condX_bool, bodyX_ret, run_nil, run_cons, fget_cons', fput_cons', forget_nil, forget_cons', frame0, gcM_c, stp, just, Rd.bind, Rd.run, Rd.opt, upds, resA, resL, aBin, aInt, Nat.reduceBEq, Nat.reduceEqDiff, Nat.reduceLeDiff, ↓reduceIte, reduceCtorEq, Nat.zero_add, bne_iff_ne, ne_eq, not_false_eq_true, putD_some, aCall, snaps, snap, List.append_nil, Option.map_some, List.elem_cons, List.elem_nil, x32_1, r32_0_l, s32_0_0, s32_0_1, x32_4, r32_1_l, s32_1_0, s32_1_1, s32_1_2, x32_6, r32_2_l, s32_2_0, s32_2_1, x32_9, r32_3_l, s32_3_0, s32_3_1, s32_3_2, x32_10, x32_8, x32_11, x32_7, x32_5, x32_3, x32_2, x32_0, b_32, hc, h0, standsB]
theorem stands_call {d : Nat} {site : Nat → Nat} {seen : List Nat} {a : AV} {l : List Stone} (ha : IsP a l) : aBack site true seen (thaw (callA E fg 1000 (d + 6)) 32 [a] [] 0) = .pure (.tup [.bool (standsB l), .int .i64 (check l)], []) :=
  aBack_boolint (rs_ex (stands_run ha))
end Go.AM.Ytmhbnflnlglljaa
end

section
namespace Go.AM.Ytmhbnflnlglljaa
open Go Go.AM
set_option maxRecDepth 100000
set_option maxHeartbeats 1000000
def weighL : List Stone → List Int → Int
  | s :: l, w :: ws => if w < s.least then 1 else if w > s.most then 1 else weighL l ws
  | _, _ => 0
def weighE (l : List Stone) (ws : List Int) : Int := if (ws.length : Int) = l.length then weighL l ws else 5
theorem weighL_fits : ∀ {l : List Stone} {ws : List Int}, ws.length = l.length → (weighL l ws = 0 ↔ ∀ (k : Nat) (s : Stone) (w : Int), l[k]? = some s → ws[k]? = some w → s.least ≤ w ∧ w ≤ s.most)
  | [], [], _ => by simp [weighL]
  | [], _ :: _, h => by simp at h
  | _ :: _, [], h => by simp at h
  | a :: l, b :: ws, h => by
    simp only [weighL]
    constructor
    · intro h2 k s w hs hw
      split at h2
      · simp at h2
      · split at h2
        · simp at h2
        · cases k with
          | zero => simp at hs hw; subst hs; subst hw; omega
          | succ k => simp at hs hw; exact (weighL_fits (by simpa using h)).1 h2 k s w hs hw
    · intro h2
      have := h2 0 a b (by simp) (by simp)
      rw [if_neg (by omega), if_neg (by omega)]
      exact (weighL_fits (by simpa using h)).2 fun k s w hs hw => h2 (k + 1) s w (by simpa using hs) (by simpa using hw)
end Go.AM.Ytmhbnflnlglljaa
end

section
namespace Go.AM.Ytmhbnflnlglljaa
open Go Go.AM
set_option maxRecDepth 100000
set_option maxHeartbeats 1000000
def momTerm (l : List Stone) (ws : List Int) (k : Nat) (side : Int) (i : Nat) : Int := ws.getD i 0 * far side (rightE l k) (leftE l k) (l.getD i default)
def momSum (l : List Stone) (ws : List Int) (k : Nat) (side : Int) : Int := sumF (momTerm l ws k side) k (l.length - k)
theorem momTerm_bound {l : List Stone} {ws : List Int} (h : OkP l) (hw : weighE l ws = 0) {k : Nat} (hk : k ≤ l.length) (side : Int) {i : Nat} (hi : i < l.length) : -2717908992 ≤ momTerm l ws k side i ∧ momTerm l ws k side i ≤ 2717908992 := by
  unfold weighE at hw
  split at hw
  · rename_i hlen
    have hlen : ws.length = l.length := by omega
    obtain ⟨s, hs⟩ := at_ex hi
    obtain ⟨w, hw1⟩ := at_ex (show i < ws.length by omega)
    have hwb := (weighL_fits hlen).1 hw i s w hs hw1
    obtain ⟨_, _, _, _, l1, lm, m9⟩ := h.fits i s hs
    obtain ⟨b1, b2⟩ := far_bound (side := side) (h.fits i s hs) (edge_bounds h hk)
    have hg : l.getD i default = s := by simp [hs]
    have hg2 : ws.getD i 0 = w := by simp [hw1]
    have := mul_bound (w := w) (x := far side (rightE l k) (leftE l k) s) (M := 301989888) (by omega) (by omega) b1 (by omega)
    unfold momTerm
    rw [hg, hg2]
    omega
  · simp at hw
theorem weigh_len {l : List Stone} {ws : List Int} (hw : weighE l ws = 0) : ws.length = l.length := by
  unfold weighE at hw
  split at hw
  · omega
  · simp at hw
end Go.AM.Ytmhbnflnlglljaa
end

section
namespace Go.AM.Ytmhbnflnlglljaa
open Go Go.AM
set_option maxRecDepth 100000
set_option maxHeartbeats 1000000
theorem room3 {n : Nat} (h : n ≤ 1000000) : roomOk E.T 3 n = true := by
  simp only [roomOk, T_3, decide_eq_true_eq]; exact ⟨by decide, rfl, by omega⟩
theorem icells_snoc (l : List Int) (z : Int) : icells l ++ [.int .i64 z] = icells (l ++ [z]) := by simp [icells]
/-- A list that is being built, and its heap. -/
def outV (id : Nat) : List Int → AV
  | [] => .nilsl
  | z :: l => .ref id 0 (l.length + 1) (l.length + 1) (l.length + 1) 1 false
def outH (id : Nat) : List Int → AHeap
  | [] => []
  | z :: l => [(id, ⟨.row, icells (z :: l)⟩)]
theorem take_icells (a : Int) (o : List Int) : List.take (o.length + 1) (icells (a :: o)) = icells (a :: o) := List.take_of_length_le (by simp [icells])
theorem outV_ne {id : Nat} {l : List Int} (h : 0 < l.length) : outV id l = .ref id 0 l.length l.length l.length 1 false ∧ outH id l = [(id, ⟨.row, icells l⟩)] := by
  cases l with
  | nil => simp at h
  | cons a o => exact ⟨rfl, rfl⟩
end Go.AM.Ytmhbnflnlglljaa
end

section
namespace Go.AM.Ytmhbnflnlglljaa
open Go Go.AM
set_option maxRecDepth 100000
variable {C : Callee} {B N : Nat} {E0 : AHeap} (φ : AFr) (H : AHeap) (s : St)
noncomputable def c86_0 : Code := kBody Proofs.Try.f86
noncomputable def c86_1 : Code := kL c86_0
noncomputable def r86_0 : Array Oper := kO c86_1
noncomputable def o86_0_0 : Oper := opN r86_0 0
noncomputable def o86_0_1 : Oper := opN r86_0 1
theorem x86_1 : execA E C (fg 86) B 74 E0 N c86_1 s = regX (runA E C B 74 r86_0 r86_0.toList s) (fun s => gcM E0 [] (forget s.1 [], s.2)) := x_reg (ops := r86_0) (by rfl) (by rfl) s
theorem r86_0_l : r86_0.toList = [o86_0_0, o86_0_1] := nrfl rfl
theorem s86_0_0 : stepA E C B 74 r86_0 o86_0_0 (φ, H) = some (fput φ 6 (.int .i64 0), H) := nrfl rfl
theorem s86_0_1 : stepA E C B 74 r86_0 o86_0_1 (φ, H) = some (fput φ 7 (.int .i64 0), H) := nrfl rfl
noncomputable def c86_2 : Code := kR c86_0
noncomputable def c86_3 : Code := kL c86_2
noncomputable def c86_4 : Code := kL c86_3
noncomputable def r86_1 : Array Oper := kO c86_4
noncomputable def o86_1_0 : Oper := opN r86_1 0
noncomputable def o86_1_1 : Oper := opN r86_1 1
theorem x86_4 : execA E C (fg 86) B 74 E0 N c86_4 s = regX (runA E C B 74 r86_1 r86_1.toList s) (fun s => gcM E0 [10] (forget s.1 [10], s.2)) := x_reg (ops := r86_1) (by rfl) (by rfl) s
theorem r86_1_l : r86_1.toList = [o86_1_0, o86_1_1] := nrfl rfl
theorem s86_1_0 : stepA E C B 74 r86_1 o86_1_0 (φ, H) = some (fput φ 10 (fget φ 2), H) := nrfl rfl
theorem s86_1_1 : stepA E C B 74 r86_1 o86_1_1 (φ, H) = some (fput φ 8 (fget φ 10), H) := nrfl rfl
noncomputable def c86_5 : Code := kR c86_3
noncomputable def c86_6 : Code := kB c86_5
noncomputable def c86_7 : Code := kB c86_6
noncomputable def c86_8 : Code := kL c86_7
noncomputable def c86_9 : Code := kL c86_8
noncomputable def r86_2 : Array Oper := kO c86_9
noncomputable def o86_2_0 : Oper := opN r86_2 0
noncomputable def o86_2_1 : Oper := opN r86_2 1
noncomputable def o86_2_2 : Oper := opN r86_2 2
noncomputable def o86_2_3 : Oper := opN r86_2 3
theorem x86_9 : execA E C (fg 86) B 74 E0 N c86_9 s = regX (runA E C B 74 r86_2 r86_2.toList s) (fun s => gcM E0 [11, 12, 13] (forget s.1 [11, 12, 13], s.2)) := x_reg (ops := r86_2) (by rfl) (by rfl) s
theorem r86_2_l : r86_2.toList = [o86_2_0, o86_2_1, o86_2_2, o86_2_3] := nrfl rfl
theorem s86_2_0 : stepA E C B 74 r86_2 o86_2_0 (φ, H) = some (fput φ 11 (fget φ 8), H) := nrfl rfl
theorem s86_2_1 : stepA E C B 74 r86_2 o86_2_1 (φ, H) = some (fput φ 12 (fget φ 0), H) := nrfl rfl
theorem s86_2_2 : stepA E C B 74 r86_2 o86_2_2 (φ, H) = stp (some 13) φ H (aBuiltin E.T (B + 13) .len #[22] [(fget φ 12)]) := nrfl rfl
theorem s86_2_3 : stepA E C B 74 r86_2 o86_2_3 (φ, H) = stp (some 14) φ H (just (aBin E.T .lss 3 (fget φ 11) (fget φ 13))) := nrfl rfl
noncomputable def c86_10 : Code := kR c86_8
noncomputable def c86_11 : Code := kT c86_10
theorem x86_11 : execA E C (fg 86) B 74 E0 N c86_11 s = some (.normal, s) := x_skip (by rfl) s
noncomputable def c86_12 : Code := kE c86_10
theorem x86_12 : execA E C (fg 86) B 74 E0 N c86_12 s = some (.exit 0, s) := x_exit (by rfl) s
theorem x86_10 : execA E C (fg 86) B 74 E0 N c86_10 (φ, H) = condX (fget φ 14) (execA E C (fg 86) B 74 E0 N c86_11 (φ, H)) (execA E C (fg 86) B 74 E0 N c86_12 (φ, H)) := x_cond (by rfl) _
theorem x86_8 : execA E C (fg 86) B 74 E0 N c86_8 s = seqX (execA E C (fg 86) B 74 E0 N c86_9 s) (execA E C (fg 86) B 74 E0 N c86_10) := x_seq (by rfl) s
noncomputable def c86_13 : Code := kR c86_7
noncomputable def c86_14 : Code := kL c86_13
noncomputable def c86_15 : Code := kB c86_14
noncomputable def c86_16 : Code := kL c86_15
noncomputable def c86_17 : Code := kL c86_16
noncomputable def r86_4 : Array Oper := kO c86_17
noncomputable def o86_4_0 : Oper := opN r86_4 0
noncomputable def o86_4_1 : Oper := opN r86_4 1
theorem x86_17 : execA E C (fg 86) B 74 E0 N c86_17 s = regX (runA E C B 74 r86_4 r86_4.toList s) (fun s => gcM E0 [14, 17] (forget s.1 [14, 17], s.2)) := x_reg (ops := r86_4) (by rfl) (by rfl) s
theorem r86_4_l : r86_4.toList = [o86_4_0, o86_4_1] := nrfl rfl
theorem s86_4_0 : stepA E C B 74 r86_4 o86_4_0 (φ, H) = some (fput φ 17 (fget φ 2), H) := nrfl rfl
theorem s86_4_1 : stepA E C B 74 r86_4 o86_4_1 (φ, H) = stp (some 18) φ H (just (aBin E.T .eql 3 (fget φ 17) (.int .i64 0))) := nrfl rfl
noncomputable def c86_18 : Code := kR c86_16
noncomputable def c86_19 : Code := kT c86_18
noncomputable def c86_20 : Code := kL c86_19
noncomputable def r86_5 : Array Oper := kO c86_20
noncomputable def o86_5_0 : Oper := opN r86_5 0
noncomputable def o86_5_1 : Oper := opN r86_5 1
noncomputable def o86_5_2 : Oper := opN r86_5 2
noncomputable def o86_5_3 : Oper := opN r86_5 3
noncomputable def o86_5_4 : Oper := opN r86_5 4
noncomputable def o86_5_5 : Oper := opN r86_5 5
noncomputable def o86_5_6 : Oper := opN r86_5 6
noncomputable def o86_5_7 : Oper := opN r86_5 7
noncomputable def o86_5_8 : Oper := opN r86_5 8
noncomputable def o86_5_9 : Oper := opN r86_5 9
noncomputable def o86_5_10 : Oper := opN r86_5 10
noncomputable def o86_5_11 : Oper := opN r86_5 11
noncomputable def o86_5_12 : Oper := opN r86_5 12
theorem x86_20 : execA E C (fg 86) B 74 E0 N c86_20 s = regX (drawA E C B 74 r86_5 s) (fun s => gcM E0 [18, 19, 20, 21, 22, 23, 24, 25, 26, 27, 28, 29, 30] (forget s.1 [18, 19, 20, 21, 22, 23, 24, 25, 26, 27, 28, 29, 30], s.2)) := x_draw (ops := r86_5) (by rfl) (by rfl) s
theorem r86_5_l : r86_5.toList = [o86_5_0, o86_5_1, o86_5_2, o86_5_3, o86_5_4, o86_5_5, o86_5_6, o86_5_7, o86_5_8, o86_5_9, o86_5_10, o86_5_11, o86_5_12] := nrfl rfl
theorem r86_5_st : statOk r86_5 = true := by kernel_rfl
theorem r86_5_dr : drawA E C B 74 r86_5 s = if neat 74 s = true then drX r86_5 (runT E C B 74 r86_5 r86_5.toList 0 s) else none := draw_eq r86_5_st s
theorem r86_5_an (l : List (Nat × Tr)) : dynOk r86_5 l = (!writing l || dynPairs [[], [], [], [1, 2], [1, 2, 3], [], [], [5, 6], [5, 6, 7], [5, 6, 7, 8], [1, 2, 3, 4, 5, 6, 7, 8, 9], [0, 1, 2, 3, 4, 5, 6, 7, 8, 9, 10], [0, 1, 2, 3, 4, 5, 6, 7, 8, 9, 10, 11]] (touching l)) := dynOk_eq (by kernel_rfl) l
theorem s86_5_0 : stepT E C B 74 r86_5 o86_5_0 (φ, H) = some ((fput φ 19 (fget φ 6), H), ⟨false, [], []⟩) := stT_go rfl (goT_mv rfl rfl)
theorem s86_5_1 : stepT E C B 74 r86_5 o86_5_1 (φ, H) = some ((fput φ 20 (fget φ 1), H), ⟨false, [], []⟩) := stT_go rfl (goT_mv rfl rfl)
theorem s86_5_2 : stepT E C B 74 r86_5 o86_5_2 (φ, H) = some ((fput φ 21 (fget φ 8), H), ⟨false, [], []⟩) := stT_go rfl (goT_mv rfl rfl)
theorem s86_5_3 : stepT E C B 74 r86_5 o86_5_3 (φ, H) = stpT (some 22) φ H (just (aIndexAddr E.T 47 (fget φ 20) (fget φ 21))) := stT_go rfl (goT_R rfl rfl)
theorem s86_5_4 : stepT E C B 74 r86_5 o86_5_4 (φ, H) = stpT (some 23) φ H (just (aLoad E.T 3 (fget φ 22))) := stT_go rfl (goT_R rfl rfl)
theorem s86_5_5 : stepT E C B 74 r86_5 o86_5_5 (φ, H) = some ((fput φ 24 (fget φ 0), H), ⟨false, [], []⟩) := stT_go rfl (goT_mv rfl rfl)
theorem s86_5_6 : stepT E C B 74 r86_5 o86_5_6 (φ, H) = some ((fput φ 25 (fget φ 8), H), ⟨false, [], []⟩) := stT_go rfl (goT_mv rfl rfl)
theorem s86_5_7 : stepT E C B 74 r86_5 o86_5_7 (φ, H) = stpT (some 26) φ H (just (aIndexAddr E.T 22 (fget φ 24) (fget φ 25))) := stT_go rfl (goT_R rfl rfl)
theorem s86_5_8 : stepT E C B 74 r86_5 o86_5_8 (φ, H) = stpT (some 27) φ H (just (aFieldAddr E.T 45 (fget φ 26) 1)) := stT_go rfl (goT_R rfl rfl)
theorem s86_5_9 : stepT E C B 74 r86_5 o86_5_9 (φ, H) = stpT (some 28) φ H (just (aLoad E.T 3 (fget φ 27))) := stT_go rfl (goT_R rfl rfl)
theorem s86_5_10 : stepT E C B 74 r86_5 o86_5_10 (φ, H) = stpT (some 29) φ H (just (aBin E.T .mul 3 (fget φ 23) (fget φ 28))) := stT_go rfl (goT_R rfl rfl)
theorem s86_5_11 : stepT E C B 74 r86_5 o86_5_11 (φ, H) = stpT (some 30) φ H (just (aBin E.T .add 3 (fget φ 19) (fget φ 29))) := stT_go rfl (goT_R rfl rfl)
theorem s86_5_12 : stepT E C B 74 r86_5 o86_5_12 (φ, H) = some ((fput φ 6 (fget φ 30), H), ⟨false, [], []⟩) := stT_go rfl (goT_mv rfl rfl)
noncomputable def c86_21 : Code := kR c86_19
theorem x86_21 : execA E C (fg 86) B 74 E0 N c86_21 s = some (.exit 1, s) := x_exit (by rfl) s
theorem x86_19 : execA E C (fg 86) B 74 E0 N c86_19 s = seqX (execA E C (fg 86) B 74 E0 N c86_20 s) (execA E C (fg 86) B 74 E0 N c86_21) := x_seq (by rfl) s
noncomputable def c86_22 : Code := kE c86_18
theorem x86_22 : execA E C (fg 86) B 74 E0 N c86_22 s = some (.normal, s) := x_skip (by rfl) s
theorem x86_18 : execA E C (fg 86) B 74 E0 N c86_18 (φ, H) = condX (fget φ 18) (execA E C (fg 86) B 74 E0 N c86_19 (φ, H)) (execA E C (fg 86) B 74 E0 N c86_22 (φ, H)) := x_cond (by rfl) _
theorem x86_16 : execA E C (fg 86) B 74 E0 N c86_16 s = seqX (execA E C (fg 86) B 74 E0 N c86_17 s) (execA E C (fg 86) B 74 E0 N c86_18) := x_seq (by rfl) s
noncomputable def c86_23 : Code := kR c86_15
noncomputable def c86_24 : Code := kL c86_23
noncomputable def r86_6 : Array Oper := kO c86_24
noncomputable def o86_6_0 : Oper := opN r86_6 0
noncomputable def o86_6_1 : Oper := opN r86_6 1
noncomputable def o86_6_2 : Oper := opN r86_6 2
noncomputable def o86_6_3 : Oper := opN r86_6 3
noncomputable def o86_6_4 : Oper := opN r86_6 4
noncomputable def o86_6_5 : Oper := opN r86_6 5
noncomputable def o86_6_6 : Oper := opN r86_6 6
theorem x86_24 : execA E C (fg 86) B 74 E0 N c86_24 s = regX (runA E C B 74 r86_6 r86_6.toList s) (fun s => gcM E0 [18, 31, 32, 33, 34, 35] (forget s.1 [18, 31, 32, 33, 34, 35], s.2)) := x_reg (ops := r86_6) (by rfl) (by rfl) s
theorem r86_6_l : r86_6.toList = [o86_6_0, o86_6_1, o86_6_2, o86_6_3, o86_6_4, o86_6_5, o86_6_6] := nrfl rfl
theorem s86_6_0 : stepA E C B 74 r86_6 o86_6_0 (φ, H) = some (fput φ 31 (fget φ 0), H) := nrfl rfl
theorem s86_6_1 : stepA E C B 74 r86_6 o86_6_1 (φ, H) = some (fput φ 32 (fget φ 2), H) := nrfl rfl
theorem s86_6_2 : stepA E C B 74 r86_6 o86_6_2 (φ, H) = stp (some 33) φ H (just (aBin E.T .sub 3 (fget φ 32) (.int .i64 1))) := nrfl rfl
theorem s86_6_3 : stepA E C B 74 r86_6 o86_6_3 (φ, H) = stp (some 34) φ H (just (aIndexAddr E.T 22 (fget φ 31) (fget φ 33))) := nrfl rfl
theorem s86_6_4 : stepA E C B 74 r86_6 o86_6_4 (φ, H) = stp (some 35) φ H (just (aLoad E.T 45 (fget φ 34))) := nrfl rfl
theorem s86_6_5 : stepA E C B 74 r86_6 o86_6_5 (φ, H) = stp (some 9) φ H (opBox (B + 9) (zeroCells E.T 45)) := nrfl rfl
theorem s86_6_6 : stepA E C B 74 r86_6 o86_6_6 (φ, H) = stp none φ H (opStore E.T 45 (fget φ 9) (fget φ 35)) := nrfl rfl
noncomputable def c86_25 : Code := kR c86_23
noncomputable def c86_26 : Code := kL c86_25
noncomputable def r86_7 : Array Oper := kO c86_26
noncomputable def o86_7_0 : Oper := opN r86_7 0
noncomputable def o86_7_1 : Oper := opN r86_7 1
noncomputable def o86_7_2 : Oper := opN r86_7 2
noncomputable def o86_7_3 : Oper := opN r86_7 3
noncomputable def o86_7_4 : Oper := opN r86_7 4
noncomputable def o86_7_5 : Oper := opN r86_7 5
noncomputable def o86_7_6 : Oper := opN r86_7 6
noncomputable def o86_7_7 : Oper := opN r86_7 7
noncomputable def o86_7_8 : Oper := opN r86_7 8
noncomputable def o86_7_9 : Oper := opN r86_7 9
noncomputable def o86_7_10 : Oper := opN r86_7 10
noncomputable def o86_7_11 : Oper := opN r86_7 11
noncomputable def o86_7_12 : Oper := opN r86_7 12
noncomputable def o86_7_13 : Oper := opN r86_7 13
noncomputable def o86_7_14 : Oper := opN r86_7 14
noncomputable def o86_7_15 : Oper := opN r86_7 15
noncomputable def o86_7_16 : Oper := opN r86_7 16
noncomputable def o86_7_17 : Oper := opN r86_7 17
noncomputable def o86_7_18 : Oper := opN r86_7 18
theorem x86_26 : execA E C (fg 86) B 74 E0 N c86_26 s = regX (drawA E C B 74 r86_7 s) (fun s => gcM E0 [36, 37, 38, 39, 40, 41, 42, 43, 44, 45, 46, 47, 48, 49, 50, 51, 52, 53] (forget s.1 [36, 37, 38, 39, 40, 41, 42, 43, 44, 45, 46, 47, 48, 49, 50, 51, 52, 53], s.2)) := x_draw (ops := r86_7) (by rfl) (by rfl) s
theorem r86_7_l : r86_7.toList = [o86_7_0, o86_7_1, o86_7_2, o86_7_3, o86_7_4, o86_7_5, o86_7_6, o86_7_7, o86_7_8, o86_7_9, o86_7_10, o86_7_11, o86_7_12, o86_7_13, o86_7_14, o86_7_15, o86_7_16, o86_7_17, o86_7_18] := nrfl rfl
theorem r86_7_st : statOk r86_7 = true := by kernel_rfl
theorem r86_7_dr : drawA E C B 74 r86_7 s = if neat 74 s = true then drX r86_7 (runT E C B 74 r86_7 r86_7.toList 0 s) else none := draw_eq r86_7_st s
theorem r86_7_an (l : List (Nat × Tr)) : dynOk r86_7 l = (!writing l || dynPairs [[], [], [], [1, 2], [1, 2, 3], [], [], [5, 6], [5, 6, 7], [5, 6, 7, 8], [], [10], [5, 6, 7, 8, 9, 10, 11], [], [13], [5, 6, 7, 8, 9, 10, 11, 12, 13, 14], [1, 2, 3, 4, 5, 6, 7, 8, 9, 10, 11, 12, 13, 14, 15], [0, 1, 2, 3, 4, 5, 6, 7, 8, 9, 10, 11, 12, 13, 14, 15, 16], [0, 1, 2, 3, 4, 5, 6, 7, 8, 9, 10, 11, 12, 13, 14, 15, 16, 17]] (touching l)) := dynOk_eq (by kernel_rfl) l
theorem s86_7_0 : stepT E C B 74 r86_7 o86_7_0 (φ, H) = some ((fput φ 36 (fget φ 6), H), ⟨false, [], []⟩) := stT_go rfl (goT_mv rfl rfl)
theorem s86_7_1 : stepT E C B 74 r86_7 o86_7_1 (φ, H) = some ((fput φ 37 (fget φ 1), H), ⟨false, [], []⟩) := stT_go rfl (goT_mv rfl rfl)
theorem s86_7_2 : stepT E C B 74 r86_7 o86_7_2 (φ, H) = some ((fput φ 38 (fget φ 8), H), ⟨false, [], []⟩) := stT_go rfl (goT_mv rfl rfl)
theorem s86_7_3 : stepT E C B 74 r86_7 o86_7_3 (φ, H) = stpT (some 39) φ H (just (aIndexAddr E.T 47 (fget φ 37) (fget φ 38))) := stT_go rfl (goT_R rfl rfl)
theorem s86_7_4 : stepT E C B 74 r86_7 o86_7_4 (φ, H) = stpT (some 40) φ H (just (aLoad E.T 3 (fget φ 39))) := stT_go rfl (goT_R rfl rfl)
theorem s86_7_5 : stepT E C B 74 r86_7 o86_7_5 (φ, H) = some ((fput φ 41 (fget φ 0), H), ⟨false, [], []⟩) := stT_go rfl (goT_mv rfl rfl)
theorem s86_7_6 : stepT E C B 74 r86_7 o86_7_6 (φ, H) = some ((fput φ 42 (fget φ 8), H), ⟨false, [], []⟩) := stT_go rfl (goT_mv rfl rfl)
theorem s86_7_7 : stepT E C B 74 r86_7 o86_7_7 (φ, H) = stpT (some 43) φ H (just (aIndexAddr E.T 22 (fget φ 41) (fget φ 42))) := stT_go rfl (goT_R rfl rfl)
theorem s86_7_8 : stepT E C B 74 r86_7 o86_7_8 (φ, H) = stpT (some 44) φ H (just (aFieldAddr E.T 45 (fget φ 43) 1)) := stT_go rfl (goT_R rfl rfl)
theorem s86_7_9 : stepT E C B 74 r86_7 o86_7_9 (φ, H) = stpT (some 45) φ H (just (aLoad E.T 3 (fget φ 44))) := stT_go rfl (goT_R rfl rfl)
theorem s86_7_10 : stepT E C B 74 r86_7 o86_7_10 (φ, H) = stpT (some 46) φ H (just (aFieldAddr E.T 45 (fget φ 9) 1)) := stT_go rfl (goT_R rfl rfl)
theorem s86_7_11 : stepT E C B 74 r86_7 o86_7_11 (φ, H) = stpT (some 47) φ H (just (aLoad E.T 3 (fget φ 46))) := stT_go rfl (goT_R rfl rfl)
theorem s86_7_12 : stepT E C B 74 r86_7 o86_7_12 (φ, H) = stpT (some 48) φ H (just (aBin E.T .sub 3 (fget φ 45) (fget φ 47))) := stT_go rfl (goT_R rfl rfl)
theorem s86_7_13 : stepT E C B 74 r86_7 o86_7_13 (φ, H) = stpT (some 49) φ H (just (aFieldAddr E.T 45 (fget φ 9) 0)) := stT_go rfl (goT_R rfl rfl)
theorem s86_7_14 : stepT E C B 74 r86_7 o86_7_14 (φ, H) = stpT (some 50) φ H (just (aLoad E.T 3 (fget φ 49))) := stT_go rfl (goT_R rfl rfl)
theorem s86_7_15 : stepT E C B 74 r86_7 o86_7_15 (φ, H) = stpT (some 51) φ H (just (aBin E.T .sub 3 (fget φ 48) (fget φ 50))) := stT_go rfl (goT_R rfl rfl)
theorem s86_7_16 : stepT E C B 74 r86_7 o86_7_16 (φ, H) = stpT (some 52) φ H (just (aBin E.T .mul 3 (fget φ 40) (fget φ 51))) := stT_go rfl (goT_R rfl rfl)
theorem s86_7_17 : stepT E C B 74 r86_7 o86_7_17 (φ, H) = stpT (some 53) φ H (just (aBin E.T .add 3 (fget φ 36) (fget φ 52))) := stT_go rfl (goT_R rfl rfl)
theorem s86_7_18 : stepT E C B 74 r86_7 o86_7_18 (φ, H) = some ((fput φ 6 (fget φ 53), H), ⟨false, [], []⟩) := stT_go rfl (goT_mv rfl rfl)
noncomputable def c86_27 : Code := kR c86_25
noncomputable def r86_8 : Array Oper := kO c86_27
noncomputable def o86_8_0 : Oper := opN r86_8 0
noncomputable def o86_8_1 : Oper := opN r86_8 1
noncomputable def o86_8_2 : Oper := opN r86_8 2
noncomputable def o86_8_3 : Oper := opN r86_8 3
noncomputable def o86_8_4 : Oper := opN r86_8 4
noncomputable def o86_8_5 : Oper := opN r86_8 5
noncomputable def o86_8_6 : Oper := opN r86_8 6
noncomputable def o86_8_7 : Oper := opN r86_8 7
noncomputable def o86_8_8 : Oper := opN r86_8 8
noncomputable def o86_8_9 : Oper := opN r86_8 9
noncomputable def o86_8_10 : Oper := opN r86_8 10
noncomputable def o86_8_11 : Oper := opN r86_8 11
noncomputable def o86_8_12 : Oper := opN r86_8 12
noncomputable def o86_8_13 : Oper := opN r86_8 13
noncomputable def o86_8_14 : Oper := opN r86_8 14
noncomputable def o86_8_15 : Oper := opN r86_8 15
noncomputable def o86_8_16 : Oper := opN r86_8 16
noncomputable def o86_8_17 : Oper := opN r86_8 17
noncomputable def o86_8_18 : Oper := opN r86_8 18
theorem x86_27 : execA E C (fg 86) B 74 E0 N c86_27 s = regX (drawA E C B 74 r86_8 s) (fun s => gcM E0 [9, 54, 55, 56, 57, 58, 59, 60, 61, 62, 63, 64, 65, 66, 67, 68, 69, 70, 71] (forget s.1 [9, 54, 55, 56, 57, 58, 59, 60, 61, 62, 63, 64, 65, 66, 67, 68, 69, 70, 71], s.2)) := x_draw (ops := r86_8) (by rfl) (by rfl) s
theorem r86_8_l : r86_8.toList = [o86_8_0, o86_8_1, o86_8_2, o86_8_3, o86_8_4, o86_8_5, o86_8_6, o86_8_7, o86_8_8, o86_8_9, o86_8_10, o86_8_11, o86_8_12, o86_8_13, o86_8_14, o86_8_15, o86_8_16, o86_8_17, o86_8_18] := nrfl rfl
theorem r86_8_st : statOk r86_8 = true := by kernel_rfl
theorem r86_8_dr : drawA E C B 74 r86_8 s = if neat 74 s = true then drX r86_8 (runT E C B 74 r86_8 r86_8.toList 0 s) else none := draw_eq r86_8_st s
theorem r86_8_an (l : List (Nat × Tr)) : dynOk r86_8 l = (!writing l || dynPairs [[], [], [], [1, 2], [1, 2, 3], [], [5], [], [7], [5, 6, 7, 8], [], [], [10, 11], [10, 11, 12], [10, 11, 12, 13], [5, 6, 7, 8, 9, 10, 11, 12, 13, 14], [1, 2, 3, 4, 5, 6, 7, 8, 9, 10, 11, 12, 13, 14, 15], [0, 1, 2, 3, 4, 5, 6, 7, 8, 9, 10, 11, 12, 13, 14, 15, 16], [0, 1, 2, 3, 4, 5, 6, 7, 8, 9, 10, 11, 12, 13, 14, 15, 16, 17]] (touching l)) := dynOk_eq (by kernel_rfl) l
theorem s86_8_0 : stepT E C B 74 r86_8 o86_8_0 (φ, H) = some ((fput φ 54 (fget φ 7), H), ⟨false, [], []⟩) := stT_go rfl (goT_mv rfl rfl)
theorem s86_8_1 : stepT E C B 74 r86_8 o86_8_1 (φ, H) = some ((fput φ 55 (fget φ 1), H), ⟨false, [], []⟩) := stT_go rfl (goT_mv rfl rfl)
theorem s86_8_2 : stepT E C B 74 r86_8 o86_8_2 (φ, H) = some ((fput φ 56 (fget φ 8), H), ⟨false, [], []⟩) := stT_go rfl (goT_mv rfl rfl)
theorem s86_8_3 : stepT E C B 74 r86_8 o86_8_3 (φ, H) = stpT (some 57) φ H (just (aIndexAddr E.T 47 (fget φ 55) (fget φ 56))) := stT_go rfl (goT_R rfl rfl)
theorem s86_8_4 : stepT E C B 74 r86_8 o86_8_4 (φ, H) = stpT (some 58) φ H (just (aLoad E.T 3 (fget φ 57))) := stT_go rfl (goT_R rfl rfl)
theorem s86_8_5 : stepT E C B 74 r86_8 o86_8_5 (φ, H) = stpT (some 59) φ H (just (aFieldAddr E.T 45 (fget φ 9) 1)) := stT_go rfl (goT_R rfl rfl)
theorem s86_8_6 : stepT E C B 74 r86_8 o86_8_6 (φ, H) = stpT (some 60) φ H (just (aLoad E.T 3 (fget φ 59))) := stT_go rfl (goT_R rfl rfl)
theorem s86_8_7 : stepT E C B 74 r86_8 o86_8_7 (φ, H) = stpT (some 61) φ H (just (aFieldAddr E.T 45 (fget φ 9) 0)) := stT_go rfl (goT_R rfl rfl)
theorem s86_8_8 : stepT E C B 74 r86_8 o86_8_8 (φ, H) = stpT (some 62) φ H (just (aLoad E.T 3 (fget φ 61))) := stT_go rfl (goT_R rfl rfl)
theorem s86_8_9 : stepT E C B 74 r86_8 o86_8_9 (φ, H) = stpT (some 63) φ H (just (aBin E.T .sub 3 (fget φ 60) (fget φ 62))) := stT_go rfl (goT_R rfl rfl)
theorem s86_8_10 : stepT E C B 74 r86_8 o86_8_10 (φ, H) = some ((fput φ 64 (fget φ 0), H), ⟨false, [], []⟩) := stT_go rfl (goT_mv rfl rfl)
theorem s86_8_11 : stepT E C B 74 r86_8 o86_8_11 (φ, H) = some ((fput φ 65 (fget φ 8), H), ⟨false, [], []⟩) := stT_go rfl (goT_mv rfl rfl)
theorem s86_8_12 : stepT E C B 74 r86_8 o86_8_12 (φ, H) = stpT (some 66) φ H (just (aIndexAddr E.T 22 (fget φ 64) (fget φ 65))) := stT_go rfl (goT_R rfl rfl)
theorem s86_8_13 : stepT E C B 74 r86_8 o86_8_13 (φ, H) = stpT (some 67) φ H (just (aFieldAddr E.T 45 (fget φ 66) 1)) := stT_go rfl (goT_R rfl rfl)
theorem s86_8_14 : stepT E C B 74 r86_8 o86_8_14 (φ, H) = stpT (some 68) φ H (just (aLoad E.T 3 (fget φ 67))) := stT_go rfl (goT_R rfl rfl)
theorem s86_8_15 : stepT E C B 74 r86_8 o86_8_15 (φ, H) = stpT (some 69) φ H (just (aBin E.T .sub 3 (fget φ 63) (fget φ 68))) := stT_go rfl (goT_R rfl rfl)
theorem s86_8_16 : stepT E C B 74 r86_8 o86_8_16 (φ, H) = stpT (some 70) φ H (just (aBin E.T .mul 3 (fget φ 58) (fget φ 69))) := stT_go rfl (goT_R rfl rfl)
theorem s86_8_17 : stepT E C B 74 r86_8 o86_8_17 (φ, H) = stpT (some 71) φ H (just (aBin E.T .add 3 (fget φ 54) (fget φ 70))) := stT_go rfl (goT_R rfl rfl)
theorem s86_8_18 : stepT E C B 74 r86_8 o86_8_18 (φ, H) = some ((fput φ 7 (fget φ 71), H), ⟨false, [], []⟩) := stT_go rfl (goT_mv rfl rfl)
theorem x86_25 : execA E C (fg 86) B 74 E0 N c86_25 s = seqX (execA E C (fg 86) B 74 E0 N c86_26 s) (execA E C (fg 86) B 74 E0 N c86_27) := x_seq (by rfl) s
theorem x86_23 : execA E C (fg 86) B 74 E0 N c86_23 s = seqX (execA E C (fg 86) B 74 E0 N c86_24 s) (execA E C (fg 86) B 74 E0 N c86_25) := x_seq (by rfl) s
theorem x86_15 : execA E C (fg 86) B 74 E0 N c86_15 s = seqX (execA E C (fg 86) B 74 E0 N c86_16 s) (execA E C (fg 86) B 74 E0 N c86_23) := x_seq (by rfl) s
theorem x86_14 : execA E C (fg 86) B 74 E0 N c86_14 s = blockX 1 (fun s => (forget s.1 [], s.2)) (execA E C (fg 86) B 74 E0 N c86_15 s) := x_block (by rfl) (by rfl) s
noncomputable def c86_28 : Code := kR c86_13
noncomputable def r86_3 : Array Oper := kO c86_28
noncomputable def o86_3_0 : Oper := opN r86_3 0
noncomputable def o86_3_1 : Oper := opN r86_3 1
noncomputable def o86_3_2 : Oper := opN r86_3 2
theorem x86_28 : execA E C (fg 86) B 74 E0 N c86_28 s = regX (runA E C B 74 r86_3 r86_3.toList s) (fun s => gcM E0 [15, 16] (forget s.1 [15, 16], s.2)) := x_reg (ops := r86_3) (by rfl) (by rfl) s
theorem r86_3_l : r86_3.toList = [o86_3_0, o86_3_1, o86_3_2] := nrfl rfl
theorem s86_3_0 : stepA E C B 74 r86_3 o86_3_0 (φ, H) = some (fput φ 15 (fget φ 8), H) := nrfl rfl
theorem s86_3_1 : stepA E C B 74 r86_3 o86_3_1 (φ, H) = stp (some 16) φ H (just (aBin E.T .add 3 (fget φ 15) (.int .i64 1))) := nrfl rfl
theorem s86_3_2 : stepA E C B 74 r86_3 o86_3_2 (φ, H) = some (fput φ 8 (fget φ 16), H) := nrfl rfl
theorem x86_13 : execA E C (fg 86) B 74 E0 N c86_13 s = seqX (execA E C (fg 86) B 74 E0 N c86_14 s) (execA E C (fg 86) B 74 E0 N c86_28) := x_seq (by rfl) s
theorem x86_7 : execA E C (fg 86) B 74 E0 N c86_7 s = seqX (execA E C (fg 86) B 74 E0 N c86_8 s) (execA E C (fg 86) B 74 E0 N c86_13) := x_seq (by rfl) s
theorem x86_6 : execA E C (fg 86) B 74 E0 N c86_6 s = iterA (execA E C (fg 86) B 74 E0 N c86_7) (headA E0) N s := x_loop (by rfl) s
theorem x86_5 : execA E C (fg 86) B 74 E0 N c86_5 s = blockX 0 (fun s => (forget s.1 [0, 1, 2, 8, 14], s.2)) (execA E C (fg 86) B 74 E0 N c86_6 s) := x_block (by rfl) (by rfl) s
theorem x86_3 : execA E C (fg 86) B 74 E0 N c86_3 s = seqX (execA E C (fg 86) B 74 E0 N c86_4 s) (execA E C (fg 86) B 74 E0 N c86_5) := x_seq (by rfl) s
noncomputable def c86_29 : Code := kR c86_2
noncomputable def c86_30 : Code := kL c86_29
noncomputable def r86_9 : Array Oper := kO c86_30
noncomputable def o86_9_0 : Oper := opN r86_9 0
noncomputable def o86_9_1 : Oper := opN r86_9 1
noncomputable def o86_9_2 : Oper := opN r86_9 2
noncomputable def o86_9_3 : Oper := opN r86_9 3
theorem x86_30 : execA E C (fg 86) B 74 E0 N c86_30 s = regX (runA E C B 74 r86_9 r86_9.toList s) (fun s => gcM E0 [72, 73] (forget s.1 [72, 73], s.2)) := x_reg (ops := r86_9) (by rfl) (by rfl) s
theorem r86_9_l : r86_9.toList = [o86_9_0, o86_9_1, o86_9_2, o86_9_3] := nrfl rfl
theorem s86_9_0 : stepA E C B 74 r86_9 o86_9_0 (φ, H) = some (fput φ 72 (fget φ 6), H) := nrfl rfl
theorem s86_9_1 : stepA E C B 74 r86_9 o86_9_1 (φ, H) = some (fput φ 73 (fget φ 7), H) := nrfl rfl
theorem s86_9_2 : stepA E C B 74 r86_9 o86_9_2 (φ, H) = some (fput φ 6 (fget φ 72), H) := nrfl rfl
theorem s86_9_3 : stepA E C B 74 r86_9 o86_9_3 (φ, H) = some (fput φ 7 (fget φ 73), H) := nrfl rfl
noncomputable def c86_31 : Code := kR c86_29
theorem x86_31 : execA E C (fg 86) B 74 E0 N c86_31 s = some (.ret, s) := x_ret (by rfl) s
theorem x86_29 : execA E C (fg 86) B 74 E0 N c86_29 s = seqX (execA E C (fg 86) B 74 E0 N c86_30 s) (execA E C (fg 86) B 74 E0 N c86_31) := x_seq (by rfl) s
theorem x86_2 : execA E C (fg 86) B 74 E0 N c86_2 s = seqX (execA E C (fg 86) B 74 E0 N c86_3 s) (execA E C (fg 86) B 74 E0 N c86_29) := x_seq (by rfl) s
theorem x86_0 : execA E C (fg 86) B 74 E0 N c86_0 s = seqX (execA E C (fg 86) B 74 E0 N c86_1 s) (execA E C (fg 86) B 74 E0 N c86_2) := x_seq (by rfl) s
theorem fi_86 : fInfo E 86 = some ⟨74, #[.tmp 6, .tmp 7], c86_0⟩ := nrfl rfl
theorem b_86 (args : List AV) : bodyA E C fg N 86 args H B = bodyX E [.tmp 6, .tmp 7] (execA E C (fg 86) B 74 H N c86_0 (frame0 args 0 [], H)) := bodyA_eq fi_86 args H
noncomputable def c84_0 : Code := kBody Proofs.Try.f84
noncomputable def c84_1 : Code := kL c84_0
noncomputable def r84_0 : Array Oper := kO c84_1
noncomputable def o84_0_0 : Oper := opN r84_0 0
theorem x84_1 : execA E C (fg 84) B 17 E0 N c84_1 s = regX (runA E C B 17 r84_0 r84_0.toList s) (fun s => gcM E0 [2] (forget s.1 [2], s.2)) := x_reg (ops := r84_0) (by rfl) (by rfl) s
theorem r84_0_l : r84_0.toList = [o84_0_0] := nrfl rfl
theorem s84_0_0 : stepA E C B 17 r84_0 o84_0_0 (φ, H) = some (fput φ 2 (.int .i64 0), H) := nrfl rfl
noncomputable def c84_2 : Code := kR c84_0
noncomputable def c84_3 : Code := kL c84_2
noncomputable def r84_1 : Array Oper := kO c84_3
noncomputable def o84_1_0 : Oper := opN r84_1 0
theorem x84_3 : execA E C (fg 84) B 17 E0 N c84_3 s = regX (runA E C B 17 r84_1 r84_1.toList s) (fun s => gcM E0 [] (forget s.1 [], s.2)) := x_reg (ops := r84_1) (by rfl) (by rfl) s
theorem r84_1_l : r84_1.toList = [o84_1_0] := nrfl rfl
theorem s84_1_0 : stepA E C B 17 r84_1 o84_1_0 (φ, H) = some (fput φ 3 (.int .i64 0), H) := nrfl rfl
noncomputable def c84_4 : Code := kR c84_2
noncomputable def c84_5 : Code := kL c84_4
noncomputable def c84_6 : Code := kL c84_5
noncomputable def r84_2 : Array Oper := kO c84_6
noncomputable def o84_2_0 : Oper := opN r84_2 0
noncomputable def o84_2_1 : Oper := opN r84_2 1
noncomputable def o84_2_2 : Oper := opN r84_2 2
theorem x84_6 : execA E C (fg 84) B 17 E0 N c84_6 s = regX (runA E C B 17 r84_2 r84_2.toList s) (fun s => gcM E0 [0] (forget s.1 [0], s.2)) := x_reg (ops := r84_2) (by rfl) (by rfl) s
theorem r84_2_l : r84_2.toList = [o84_2_0, o84_2_1, o84_2_2] := nrfl rfl
theorem s84_2_0 : stepA E C B 17 r84_2 o84_2_0 (φ, H) = some (fput φ 6 (fget φ 0), H) := nrfl rfl
theorem s84_2_1 : stepA E C B 17 r84_2 o84_2_1 (φ, H) = stp (some 7) φ H (aBuiltin E.T (B + 7) .len #[47] [(fget φ 6)]) := nrfl rfl
theorem s84_2_2 : stepA E C B 17 r84_2 o84_2_2 (φ, H) = some (fput φ 8 (.int .i64 0), H) := nrfl rfl
noncomputable def c84_7 : Code := kR c84_5
noncomputable def c84_8 : Code := kB c84_7
noncomputable def c84_9 : Code := kB c84_8
noncomputable def c84_10 : Code := kL c84_9
noncomputable def r84_3 : Array Oper := kO c84_10
noncomputable def o84_3_0 : Oper := opN r84_3 0
theorem x84_10 : execA E C (fg 84) B 17 E0 N c84_10 s = regX (runA E C B 17 r84_3 r84_3.toList s) (fun s => gcM E0 [] (forget s.1 [], s.2)) := x_reg (ops := r84_3) (by rfl) (by rfl) s
theorem r84_3_l : r84_3.toList = [o84_3_0] := nrfl rfl
theorem s84_3_0 : stepA E C B 17 r84_3 o84_3_0 (φ, H) = stp (some 9) φ H (just (aBin E.T .lss 3 (fget φ 8) (fget φ 7))) := nrfl rfl
noncomputable def c84_11 : Code := kR c84_9
noncomputable def c84_12 : Code := kL c84_11
noncomputable def c84_13 : Code := kT c84_12
theorem x84_13 : execA E C (fg 84) B 17 E0 N c84_13 s = some (.normal, s) := x_skip (by rfl) s
noncomputable def c84_14 : Code := kE c84_12
theorem x84_14 : execA E C (fg 84) B 17 E0 N c84_14 s = some (.exit 0, s) := x_exit (by rfl) s
theorem x84_12 : execA E C (fg 84) B 17 E0 N c84_12 (φ, H) = condX (fget φ 9) (execA E C (fg 84) B 17 E0 N c84_13 (φ, H)) (execA E C (fg 84) B 17 E0 N c84_14 (φ, H)) := x_cond (by rfl) _
noncomputable def c84_15 : Code := kR c84_11
noncomputable def c84_16 : Code := kL c84_15
noncomputable def c84_17 : Code := kB c84_16
noncomputable def c84_18 : Code := kL c84_17
noncomputable def r84_4 : Array Oper := kO c84_18
noncomputable def o84_4_0 : Oper := opN r84_4 0
noncomputable def o84_4_1 : Oper := opN r84_4 1
noncomputable def o84_4_2 : Oper := opN r84_4 2
theorem x84_18 : execA E C (fg 84) B 17 E0 N c84_18 s = regX (runA E C B 17 r84_4 r84_4.toList s) (fun s => gcM E0 [9, 10, 11] (forget s.1 [9, 10, 11], s.2)) := x_reg (ops := r84_4) (by rfl) (by rfl) s
theorem r84_4_l : r84_4.toList = [o84_4_0, o84_4_1, o84_4_2] := nrfl rfl
theorem s84_4_0 : stepA E C B 17 r84_4 o84_4_0 (φ, H) = stp (some 10) φ H (just (aIndexAddr E.T 47 (fget φ 6) (fget φ 8))) := nrfl rfl
theorem s84_4_1 : stepA E C B 17 r84_4 o84_4_1 (φ, H) = stp (some 11) φ H (just (aLoad E.T 3 (fget φ 10))) := nrfl rfl
theorem s84_4_2 : stepA E C B 17 r84_4 o84_4_2 (φ, H) = some (fput φ 5 (fget φ 11), H) := nrfl rfl
noncomputable def c84_19 : Code := kR c84_17
noncomputable def r84_5 : Array Oper := kO c84_19
noncomputable def o84_5_0 : Oper := opN r84_5 0
noncomputable def o84_5_1 : Oper := opN r84_5 1
noncomputable def o84_5_2 : Oper := opN r84_5 2
noncomputable def o84_5_3 : Oper := opN r84_5 3
theorem x84_19 : execA E C (fg 84) B 17 E0 N c84_19 s = regX (runA E C B 17 r84_5 r84_5.toList s) (fun s => gcM E0 [5, 12, 13, 14] (forget s.1 [5, 12, 13, 14], s.2)) := x_reg (ops := r84_5) (by rfl) (by rfl) s
theorem r84_5_l : r84_5.toList = [o84_5_0, o84_5_1, o84_5_2, o84_5_3] := nrfl rfl
theorem s84_5_0 : stepA E C B 17 r84_5 o84_5_0 (φ, H) = some (fput φ 12 (fget φ 3), H) := nrfl rfl
theorem s84_5_1 : stepA E C B 17 r84_5 o84_5_1 (φ, H) = some (fput φ 13 (fget φ 5), H) := nrfl rfl
theorem s84_5_2 : stepA E C B 17 r84_5 o84_5_2 (φ, H) = stp (some 14) φ H (just (aBin E.T .add 3 (fget φ 12) (fget φ 13))) := nrfl rfl
theorem s84_5_3 : stepA E C B 17 r84_5 o84_5_3 (φ, H) = some (fput φ 3 (fget φ 14), H) := nrfl rfl
theorem x84_17 : execA E C (fg 84) B 17 E0 N c84_17 s = seqX (execA E C (fg 84) B 17 E0 N c84_18 s) (execA E C (fg 84) B 17 E0 N c84_19) := x_seq (by rfl) s
theorem x84_16 : execA E C (fg 84) B 17 E0 N c84_16 s = blockX 1 (fun s => (forget s.1 [], s.2)) (execA E C (fg 84) B 17 E0 N c84_17 s) := x_block (by rfl) (by rfl) s
noncomputable def c84_20 : Code := kR c84_15
noncomputable def r84_6 : Array Oper := kO c84_20
noncomputable def o84_6_0 : Oper := opN r84_6 0
noncomputable def o84_6_1 : Oper := opN r84_6 1
theorem x84_20 : execA E C (fg 84) B 17 E0 N c84_20 s = regX (runA E C B 17 r84_6 r84_6.toList s) (fun s => gcM E0 [15] (forget s.1 [15], s.2)) := x_reg (ops := r84_6) (by rfl) (by rfl) s
theorem r84_6_l : r84_6.toList = [o84_6_0, o84_6_1] := nrfl rfl
theorem s84_6_0 : stepA E C B 17 r84_6 o84_6_0 (φ, H) = stp (some 15) φ H (just (aBin E.T .add 3 (fget φ 8) (.int .i64 1))) := nrfl rfl
theorem s84_6_1 : stepA E C B 17 r84_6 o84_6_1 (φ, H) = some (fput φ 8 (fget φ 15), H) := nrfl rfl
theorem x84_15 : execA E C (fg 84) B 17 E0 N c84_15 s = seqX (execA E C (fg 84) B 17 E0 N c84_16 s) (execA E C (fg 84) B 17 E0 N c84_20) := x_seq (by rfl) s
theorem x84_11 : execA E C (fg 84) B 17 E0 N c84_11 s = seqX (execA E C (fg 84) B 17 E0 N c84_12 s) (execA E C (fg 84) B 17 E0 N c84_15) := x_seq (by rfl) s
theorem x84_9 : execA E C (fg 84) B 17 E0 N c84_9 s = seqX (execA E C (fg 84) B 17 E0 N c84_10 s) (execA E C (fg 84) B 17 E0 N c84_11) := x_seq (by rfl) s
theorem x84_8 : execA E C (fg 84) B 17 E0 N c84_8 s = iterA (execA E C (fg 84) B 17 E0 N c84_9) (headA E0) N s := x_loop (by rfl) s
theorem x84_7 : execA E C (fg 84) B 17 E0 N c84_7 s = blockX 0 (fun s => (forget s.1 [6, 7, 8, 9], s.2)) (execA E C (fg 84) B 17 E0 N c84_8 s) := x_block (by rfl) (by rfl) s
theorem x84_5 : execA E C (fg 84) B 17 E0 N c84_5 s = seqX (execA E C (fg 84) B 17 E0 N c84_6 s) (execA E C (fg 84) B 17 E0 N c84_7) := x_seq (by rfl) s
noncomputable def c84_21 : Code := kR c84_4
noncomputable def c84_22 : Code := kL c84_21
noncomputable def r84_7 : Array Oper := kO c84_22
noncomputable def o84_7_0 : Oper := opN r84_7 0
noncomputable def o84_7_1 : Oper := opN r84_7 1
theorem x84_22 : execA E C (fg 84) B 17 E0 N c84_22 s = regX (runA E C B 17 r84_7 r84_7.toList s) (fun s => gcM E0 [3, 16] (forget s.1 [3, 16], s.2)) := x_reg (ops := r84_7) (by rfl) (by rfl) s
theorem r84_7_l : r84_7.toList = [o84_7_0, o84_7_1] := nrfl rfl
theorem s84_7_0 : stepA E C B 17 r84_7 o84_7_0 (φ, H) = some (fput φ 16 (fget φ 3), H) := nrfl rfl
theorem s84_7_1 : stepA E C B 17 r84_7 o84_7_1 (φ, H) = some (fput φ 2 (fget φ 16), H) := nrfl rfl
noncomputable def c84_23 : Code := kR c84_21
theorem x84_23 : execA E C (fg 84) B 17 E0 N c84_23 s = some (.ret, s) := x_ret (by rfl) s
theorem x84_21 : execA E C (fg 84) B 17 E0 N c84_21 s = seqX (execA E C (fg 84) B 17 E0 N c84_22 s) (execA E C (fg 84) B 17 E0 N c84_23) := x_seq (by rfl) s
theorem x84_4 : execA E C (fg 84) B 17 E0 N c84_4 s = seqX (execA E C (fg 84) B 17 E0 N c84_5 s) (execA E C (fg 84) B 17 E0 N c84_21) := x_seq (by rfl) s
theorem x84_2 : execA E C (fg 84) B 17 E0 N c84_2 s = seqX (execA E C (fg 84) B 17 E0 N c84_3 s) (execA E C (fg 84) B 17 E0 N c84_4) := x_seq (by rfl) s
theorem x84_0 : execA E C (fg 84) B 17 E0 N c84_0 s = seqX (execA E C (fg 84) B 17 E0 N c84_1 s) (execA E C (fg 84) B 17 E0 N c84_2) := x_seq (by rfl) s
theorem fi_84 : fInfo E 84 = some ⟨17, #[.tmp 2], c84_0⟩ := nrfl rfl
theorem b_84 (args : List AV) : bodyA E C fg N 84 args H B = bodyX E [.tmp 2] (execA E C (fg 84) B 17 H N c84_0 (frame0 args 0 [], H)) := bodyA_eq fi_84 args H
end Go.AM.Ytmhbnflnlglljaa
end

section
namespace Go.AM
/-- A result that leads to one new block, at the first free place. -/
noncomputable def back1 (k : Nat) (seen : List Nat) (r : Nat → AV) (b : Blk) : Rd (AV × Ups) :=
  (freeOff [k] 6 0).bind fun off => (freeAll [k + off]).bind fun _ => (frz seen).bind fun us => .pure (r (k + off), us ++ [(k + off, b)])
theorem back1_eq (k : Nat) (seen : List Nat) (r : Nat → AV) (b : Blk) : ∃ no : Blk → Rd (AV × Ups), back1 k seen r b = .get k fun
    | none => .get k fun
      | none => (frz seen).bind fun us => .pure (r k, us ++ [(k, b)])
      | some _ => .fail
    | some b => no b := by
  refine ⟨fun _ => (freeOff [k] 5 1048576).bind fun off => (freeAll [k + off]).bind fun _ => (frz seen).bind fun us => .pure (r (k + off), us ++ [(k + off, b)]), ?_⟩
  simp only [back1, freeOff, List.map_cons, List.map_nil, allFree, Rd.bind, Nat.add_zero]
  congr 1
  funext x
  cases x with
  | none =>
    simp only [Rd.bind, freeAll, Nat.add_zero]
    congr 1
    funext y
    cases y <;> rfl
  | some _ => rfl
theorem back1_run {k : Nat} {seen : List Nat} {r : Nat → AV} {b : Blk} {H : AHeap} (h : hget H k = none) : (back1 k seen r b).run H = ((frz seen).bind fun us => .pure (r k, us ++ [(k, b)])).run H := by
  obtain ⟨no, e⟩ := back1_eq k seen r b
  rw [e]; simp only [Rd.run, h]
theorem back1_foot {k : Nat} {seen : List Nat} {r : Nat → AV} {b : Blk} {H : AHeap} (h : hget H k = none) : (back1 k seen r b).foot H = k :: k :: ((frz seen).bind fun us => .pure (r k, us ++ [(k, b)])).foot H := by
  obtain ⟨no, e⟩ := back1_eq k seen r b
  rw [e]; simp only [Rd.foot, h]
noncomputable def back1N (k : Nat) (seen : List Nat) (r : Nat → AV) (b : Blk) : Rd (AV × Ups) := back1 k seen r b
theorem back1_r {k : Nat} {seen : List Nat} {r : Nat → AV} {b : Blk} {H : AHeap} : (back1 k seen r b).run H = match hget H k with
    | none => ((frz seen).bind fun us => .pure (r k, us ++ [(k, b)])).run H
    | some _ => (back1N k seen r b).run H := by
  cases h : hget H k with
  | none => exact back1_run h
  | some _ => rfl
theorem back1_f {k : Nat} {seen : List Nat} {r : Nat → AV} {b : Blk} {H : AHeap} : (back1 k seen r b).foot H = match hget H k with
    | none => k :: k :: ((frz seen).bind fun us => .pure (r k, us ++ [(k, b)])).foot H
    | some _ => (back1N k seen r b).foot H := by
  cases h : hget H k with
  | none => exact back1_foot h
  | some _ => rfl
/-- A result that leads to two new blocks. -/
noncomputable def back2 (k0 k1 : Nat) (seen : List Nat) (r : Nat → Nat → AV) (b0 b1 : Blk) : Rd (AV × Ups) :=
  (freeOff [k1, k0] 6 0).bind fun off => (freeAll [k1 + off, k0 + off]).bind fun _ => (frz seen).bind fun us => .pure (r (k0 + off) (k1 + off), us ++ [(k1 + off, b1), (k0 + off, b0)])
noncomputable def back2N (k0 k1 : Nat) (seen : List Nat) (r : Nat → Nat → AV) (b0 b1 : Blk) : Rd (AV × Ups) := back2 k0 k1 seen r b0 b1
theorem back2_eq (k0 k1 : Nat) (seen : List Nat) (r : Nat → Nat → AV) (b0 b1 : Blk) : ∃ no no' : Blk → Rd (AV × Ups), back2 k0 k1 seen r b0 b1 = .get k1 fun
    | none => .get k0 fun
      | none => .get k1 fun
        | none => .get k0 fun
          | none => (frz seen).bind fun us => .pure (r k0 k1, us ++ [(k1, b1), (k0, b0)])
          | some _ => .fail
        | some _ => .fail
      | some b => no b
    | some b => no' b := by
  refine ⟨fun _ => (freeOff [k1, k0] 5 1048576).bind fun off => (freeAll [k1 + off, k0 + off]).bind fun _ => (frz seen).bind fun us => .pure (r (k0 + off) (k1 + off), us ++ [(k1 + off, b1), (k0 + off, b0)]),
    fun _ => (freeOff [k1, k0] 5 1048576).bind fun off => (freeAll [k1 + off, k0 + off]).bind fun _ => (frz seen).bind fun us => .pure (r (k0 + off) (k1 + off), us ++ [(k1 + off, b1), (k0 + off, b0)]), ?_⟩
  simp only [back2, freeOff, List.map_cons, List.map_nil, allFree, Rd.bind, Nat.add_zero]
  congr 1
  funext x
  cases x with
  | some _ => rfl
  | none =>
    simp only [Rd.bind]
    congr 1
    funext y
    cases y with
    | some _ => rfl
    | none =>
      simp only [Rd.bind, freeAll, Nat.add_zero]
      congr 1
      funext x
      cases x with
      | some _ => rfl
      | none =>
        simp only [Rd.bind]
        congr 1
        funext y
        cases y <;> rfl
theorem back2_r {k0 k1 : Nat} {seen : List Nat} {r : Nat → Nat → AV} {b0 b1 : Blk} {H : AHeap} : (back2 k0 k1 seen r b0 b1).run H = match hget H k1 with
    | none => match hget H k0 with
      | none => ((frz seen).bind fun us => .pure (r k0 k1, us ++ [(k1, b1), (k0, b0)])).run H
      | some _ => (back2N k0 k1 seen r b0 b1).run H
    | some _ => (back2N k0 k1 seen r b0 b1).run H := by
  cases h : hget H k1 with
  | some _ => rfl
  | none =>
    cases h2 : hget H k0 with
    | some _ => rfl
    | none =>
      obtain ⟨no, no', e⟩ := back2_eq k0 k1 seen r b0 b1
      rw [e]; simp only [Rd.run, h, h2]
theorem aBack_ref2 {C : Callee} {site : Nat → Nat} {seen : List Nat} {f : FuncId} {args : List AV} {id id' n n' sz sz' : Nat} {cells cells' : List AV} {H' : AHeap} (h : C f args [] 0 = some (.tup [.ref id 0 n n cells.length sz false, .ref id' 0 n' n' cells'.length sz' false], H')) (hg : hget H' id = some ⟨.row, cells⟩) (hg' : hget H' id' = some ⟨.row, cells'⟩) (hne : id' ≠ id) (hs : site 1 ≠ site 0) :
    aBack site true seen (thaw C f args [] 0) = back2 (site 0) (site 1) seen (fun k k' => .tup [.ref k 0 n n cells.length sz false, .ref k' 0 n' n' cells'.length sz' false]) ⟨.row, cells⟩ ⟨.row, cells'⟩ := by
  have hb : ∀ off, (site 1 + off == site 0 + off) = false := fun off => by rw [beq_eq_false_iff_ne]; omega
  simp only [thaw, h, frzRet, aBack, sitesB, aBackAt, imp, imps, hg, hg', hne, hb, List.length_nil, List.length_cons, List.not_mem_nil, List.mem_cons, or_false, not_false_eq_true, and_true, if_true, List.map_cons, List.map_nil, AM.apart, List.elem_cons, List.elem_nil, Bool.not_false, Bool.and_true, AV.leads, AV.leads.leadsL, Bool.or_false, Bool.true_or, Nat.zero_add, back2]
theorem aBack_ref {C : Callee} {site : Nat → Nat} {seen : List Nat} {f : FuncId} {args : List AV} {id n sz : Nat} {cells : List AV} {H' : AHeap} (h : C f args [] 0 = some (.ref id 0 n n cells.length sz false, H')) (hg : hget H' id = some ⟨.row, cells⟩) :
    aBack site true seen (thaw C f args [] 0) = back1 (site 0) seen (fun k => .ref k 0 n n cells.length sz false) ⟨.row, cells⟩ := by
  simp only [thaw, h, frzRet, aBack, sitesB, aBackAt, imp, hg, List.length_nil, List.not_mem_nil, not_false_eq_true, and_true, if_true, List.map_cons, List.map_nil, AM.apart, List.elem_nil, Bool.not_false, Bool.and_true, AV.leads, back1]
theorem aBack_refint {C : Callee} {site : Nat → Nat} {seen : List Nat} {f : FuncId} {args : List AV} {id n sz : Nat} {k : IntKind} {z : Int} {cells : List AV} {H' : AHeap} (h : C f args [] 0 = some (.tup [.ref id 0 n n cells.length sz false, .int k z], H')) (hg : hget H' id = some ⟨.row, cells⟩) :
    aBack site true seen (thaw C f args [] 0) = back1 (site 0) seen (fun j => .tup [.ref j 0 n n cells.length sz false, .int k z]) ⟨.row, cells⟩ := by
  simp only [thaw, h, frzRet, aBack, sitesB, aBackAt, imp, imps, hg, List.length_nil, List.not_mem_nil, not_false_eq_true, and_true, if_true, List.map_cons, List.map_nil, AM.apart, List.elem_nil, Bool.not_false, Bool.and_true, AV.leads, AV.leads.leadsL, Bool.or_false, back1]
end Go.AM
end

section
namespace Go.AM
theorem seqN (s : St) (k) : seqX (some (.normal, s)) k = k s := nrfl rfl
theorem bindN (s : St) (k) : bindR (some s) k = k s := nrfl rfl
theorem regN (s : St) (k) : regX (some s) k = some (.normal, k s) := nrfl rfl
theorem snap_int (d : Nat) (k : IntKind) (z : Int) : snap (d + 1) (.int k z) = .pure (.int k z, []) := rfl
theorem snap_nilsl (d : Nat) : snap (d + 1) .nilsl = .pure (.nilsl, []) := rfl
theorem snap_imm (d : Nat) (c : List AV) (n : Nat) (ex : Bool) : snap (d + 1) (.imm c n ex) = .pure (.imm c n ex, []) := rfl
theorem snap_ref (d id off len cap gl sz : Nat) (ex : Bool) : snap (d + 1) (.ref id off len cap gl sz ex) = (Rd.liveBlk id gl).bind fun b =>
      if off + len * sz ≤ b.cells.length then
        match b.st with
        | .box => (snaps d ((b.cells.drop off).take (len * sz))).bind fun x =>
          .pure (.imm x.1 len (ex && decide (cap = len)), id :: x.2)
        | _ => .pure (.imm ((b.cells.drop off).take (len * sz)) len (ex && decide (cap = len)), [id])
      else .fail := rfl
theorem snap_ptr' (d id off gl : Nat) : snap (d + 1) (.ptr id off gl) = (Rd.liveBlk id gl).bind fun b =>
      match b.st with
      | .box => (snaps d b.cells).bind fun x => .pure (.iptr x.1 off, id :: x.2)
      | _ => .pure (.iptr b.cells off, [id]) := rfl
theorem snap_iptr (d : Nat) (c : List AV) (n : Nat) : snap (d + 1) (.iptr c n) = .pure (.iptr c n, []) := rfl
theorem snap_bool (d : Nat) (b : Bool) : snap (d + 1) (.bool b) = .pure (.bool b, []) := rfl
theorem snap_nilfunc (d : Nat) : snap (d + 1) .nilfunc = .pure (.nilfunc, []) := rfl
theorem snap_agg (d : Nat) (vs : List AV) : snap (d + 1) (.agg vs) = (snaps d vs).bind fun x => .pure (.agg x.1, x.2) := rfl
theorem snap_tup (d : Nat) (vs : List AV) : snap (d + 1) (.tup vs) = (snaps d vs).bind fun x => .pure (.tup x.1, x.2) := rfl
theorem snap_clo (d : Nat) (f : FuncId) (vs : List AV) : snap (d + 1) (.clo f vs) = (snaps d vs).bind fun x => .pure (.clo f x.1, x.2) := rfl
/-- A block is frozen. -/
def frzB (s : BS) (cs : List AV) (i : Nat) (r : Rd Ups) : Rd Ups :=
  match s, cs.all AV.flat with
  | .box, false => .fail
  | .mp, _ => .fail
  | _, _ => r.bind fun us => .pure ((i, ⟨.froz, cs⟩) :: us)
theorem frz_nil : frz [] = .pure [] := rfl
theorem frz_eq (i : Nat) (is : List Nat) : frz (i :: is) = .get i fun
    | some b => frzB b.st b.cells i (frz is)
    | none => .fail := rfl
theorem frzB_row (cs : List AV) (i : Nat) (r : Rd Ups) : frzB .row cs i r = r.bind fun us => .pure ((i, ⟨.froz, cs⟩) :: us) := rfl
theorem frzB_froz (cs : List AV) (i : Nat) (r : Rd Ups) : frzB .froz cs i r = r.bind fun us => .pure ((i, ⟨.froz, cs⟩) :: us) := rfl
theorem frzB_box (cs : List AV) (i : Nat) (r : Rd Ups) : frzB .box cs i r = if cs.all AV.flat = true then r.bind fun us => .pure ((i, ⟨.froz, cs⟩) :: us) else .fail := by
  unfold frzB; cases cs.all AV.flat <;> rfl
theorem snaps_flat : ∀ (l : List AV) (d : Nat), (∀ a ∈ l, ∃ k z, a = AV.int k z) → l.length + 2 ≤ d → snaps d l = .pure (l, [])
  | [], d + 1, _, _ => by simp only [snaps]
  | a :: l, d + 1, h, hd => by
    obtain ⟨k, z, rfl⟩ := h a (List.mem_cons_self ..)
    have hd2 : l.length + 2 ≤ d := by simp only [List.length_cons] at hd; omega
    have ih := snaps_flat l d (fun a ha => h a (List.mem_cons_of_mem _ ha)) hd2
    obtain ⟨e, rfl⟩ : ∃ e, d = e + 1 := ⟨d - 1, by omega⟩
    simp only [snaps, snap, ih, Rd.bind, List.nil_append]
end Go.AM
namespace Go.AM.Ytmhbnflnlglljaa
open Go Go.AM
theorem cl0 : ((0 : Nat) : Int) = 0 := rfl
theorem cl1 : ((1 : Nat) : Int) = 1 := rfl
theorem cl2 : ((2 : Nat) : Int) = 2 := rfl
theorem cl3 : ((3 : Nat) : Int) = 3 := rfl
theorem cl4 : ((4 : Nat) : Int) = 4 := rfl
theorem cl5 : ((5 : Nat) : Int) = 5 := rfl
end Go.AM.Ytmhbnflnlglljaa
end

section
namespace Go.AM.Ytmhbnflnlglljaa
open Go Go.AM
set_option maxRecDepth 100000
set_option maxHeartbeats 4000000
/-- Four numbers of eight bits. -/
structure Q where
  a : Int
  b : Int
  c : Int
  d : Int
deriving Inhabited
def qc (q : Q) : List AV := [.int .u8 q.a, .int .u8 q.b, .int .u8 q.c, .int .u8 q.d]
def qcells : List Q → List AV
  | [] => []
  | q :: l => qc q ++ qcells l
def hcells (m : Int) (qs : List Q) : List AV := .int .u8 m :: qcells qs
def mk (e : Int) (q : Q) : Stone := ⟨1 + q.a.tmod 12, e + 1 - q.b.tmod 15, 1 + q.c.tmod 9, 1 + q.c.tmod 9 + q.d.tmod (10 - (1 + q.c.tmod 9))⟩
theorem tmod_b {x : Int} (h : 0 ≤ x) (k : Int) (hk : 0 < k) : 0 ≤ x.tmod k ∧ x.tmod k ≤ k - 1 := by
  rw [Int.tmod_eq_emod_of_nonneg h]
  exact ⟨Int.emod_nonneg _ (by omega), by have := Int.emod_lt_of_pos x hk; omega⟩
theorem room44 {n : Nat} (h : n ≤ 1000000) : roomOk E.T 45 n = true := by
  simp only [roomOk, T_45, decide_eq_true_eq]; exact ⟨by decide, rfl, by omega⟩
def poutV (id : Nat) : List Stone → AV
  | [] => .nilsl
  | s :: l => .ref id 0 (l.length + 1) (l.length + 1) ((l.length + 1) * 4) 4 false
def poutH (id : Nat) : List Stone → AHeap
  | [] => []
  | s :: l => [(id, ⟨.row, pcells (s :: l)⟩)]
theorem pcells_snoc : ∀ (l : List Stone) (s : Stone), pcells l ++ sc s = pcells (l ++ [s])
  | [], s => by simp [pcells]
  | a :: l, s => by simp only [pcells, List.append_assoc, List.cons_append]; rw [pcells_snoc l s]
theorem poutV_ne {id : Nat} {l : List Stone} (h : 0 < l.length) : poutV id l = .ref id 0 l.length l.length (l.length * 4) 4 false ∧ poutH id l = [(id, ⟨.row, pcells l⟩)] := by
  cases l with
  | nil => simp at h
  | cons a o => exact ⟨rfl, rfl⟩
end Go.AM.Ytmhbnflnlglljaa
end

section
namespace Go.AM
end Go.AM
namespace Go.AM.Ytmhbnflnlglljaa
open Go Go.AM
set_option maxRecDepth 100000
set_option maxHeartbeats 4000000
abbrev sH (sg : Int) (l : List Stone) : AHeap := [(3, ⟨.box, [.int .i64 sg]⟩), (4, ⟨.box, [.int .i64 0, .int .i64 0]⟩), (15, ⟨.row, pcells l⟩)]
end Go.AM.Ytmhbnflnlglljaa
end

section
namespace Go.AM
open Go
mutual
/-- A number for what is asked of a list of values, so that most others are told apart at once. -/
def hashA : AV → Nat → Nat
  | .int _ (.ofNat n), h => h * 31 + (2 * n + 1)
  | .int _ (.negSucc n), h => h * 31 + (2 * n + 2)
  | .agg l, h => hashL l h
  | .imm l _ _, h => hashL l h
  | .iptr l _, h => hashL l h
  | .clo _ l, h => hashL l h
  | _, h => h
def hashL : List AV → Nat → Nat
  | [], h => h
  | a :: l, h => hashL l (hashA a h)
end
/-- A run that is known. -/
structure Kn where
  f : FuncId
  key : Nat
  args : List AV
  r : AV
  H : AHeap
def hOf : Option (AV × AHeap) → AHeap
  | some (_, H) => H
  | none => []
/-- A run whose value leads nowhere: its heap is nobody's concern. -/
def kn (C : Callee) (f : FuncId) (args : List AV) (v : AV) : Kn := ⟨f, hashL args 7, args, v, hOf (C f args [] 0)⟩
end Go.AM
end

section
namespace Go.AM.Ytmhbnflnlglljaa
open Go Go.AM
set_option maxRecDepth 100000
def sumS (f : Stone → Int) : List Stone → Int
  | [] => 0
  | s :: l => f s + sumS f l
/-- Stone by stone those beyond the centre become heavier. -/
def grd (sg : Int) : List Stone → Int → Int → Int × Int
  | [], S, W => (S, W)
  | s :: l, S, W => if sg * (s.pos * W - S) > 0 then grd sg l (S + (s.most - s.least) * s.pos) (W + (s.most - s.least)) else grd sg l S W
def InB : List Stone → List Int → Prop
  | [], [] => True
  | s :: l, w :: ws => (s.least ≤ w ∧ w ≤ s.most) ∧ InB l ws
  | _, _ => False
def dotS : List Stone → List Int → Int
  | s :: l, w :: ws => w * s.pos + dotS l ws
  | _, _ => 0
def totS : List Stone → List Int → Int
  | _ :: l, w :: ws => w + totS l ws
  | _, _ => 0
end Go.AM.Ytmhbnflnlglljaa
end

section
namespace Go.AM.Ytmhbnflnlglljaa
open Go Go.AM
set_option maxRecDepth 100000
variable {C : Callee} {B N : Nat} {E0 : AHeap} (φ : AFr) (H : AHeap) (s : St)
noncomputable def c61_0 : Code := kBody Proofs.Try.f61
noncomputable def c61_1 : Code := kL c61_0
noncomputable def r61_0 : Array Oper := kO c61_1
noncomputable def o61_0_0 : Oper := opN r61_0 0
theorem x61_1 : execA E C (fg 61) B 25 E0 N c61_1 s = regX (runA E C B 25 r61_0 r61_0.toList s) (fun s => gcM E0 [] (forget s.1 [], s.2)) := x_reg (ops := r61_0) (by rfl) (by rfl) s
theorem r61_0_l : r61_0.toList = [o61_0_0] := nrfl rfl
theorem s61_0_0 : stepA E C B 25 r61_0 o61_0_0 (φ, H) = stp (some 4) φ H (opBox (B + 4) (zeroCells E.T 27)) := nrfl rfl
noncomputable def c61_2 : Code := kR c61_0
noncomputable def c61_3 : Code := kL c61_2
noncomputable def r61_1 : Array Oper := kO c61_3
noncomputable def o61_1_0 : Oper := opN r61_1 0
noncomputable def o61_1_1 : Oper := opN r61_1 1
noncomputable def o61_1_2 : Oper := opN r61_1 2
noncomputable def o61_1_3 : Oper := opN r61_1 3
noncomputable def o61_1_4 : Oper := opN r61_1 4
noncomputable def o61_1_5 : Oper := opN r61_1 5
noncomputable def o61_1_6 : Oper := opN r61_1 6
theorem x61_3 : execA E C (fg 61) B 25 E0 N c61_3 s = regX (runA E C B 25 r61_1 r61_1.toList s) (fun s => gcM E0 [7, 8, 9, 10, 11] (forget s.1 [7, 8, 9, 10, 11], s.2)) := x_reg (ops := r61_1) (by rfl) (by rfl) s
theorem r61_1_l : r61_1.toList = [o61_1_0, o61_1_1, o61_1_2, o61_1_3, o61_1_4, o61_1_5, o61_1_6] := nrfl rfl
theorem s61_1_0 : stepA E C B 25 r61_1 o61_1_0 (φ, H) = some (fput φ 7 (fget φ 0), H) := nrfl rfl
theorem s61_1_1 : stepA E C B 25 r61_1 o61_1_1 (φ, H) = some (fput φ 8 (fget φ 0), H) := nrfl rfl
theorem s61_1_2 : stepA E C B 25 r61_1 o61_1_2 (φ, H) = stp (some 9) φ H (justO (aUn .neg (fget φ 8))) := nrfl rfl
theorem s61_1_3 : stepA E C B 25 r61_1 o61_1_3 (φ, H) = stp (some 10) φ H (aBuiltin E.T (B + 10) .max #[3, 3] [(fget φ 7), (fget φ 9)]) := nrfl rfl
theorem s61_1_4 : stepA E C B 25 r61_1 o61_1_4 (φ, H) = some (fput φ 11 (fget φ 1), H) := nrfl rfl
theorem s61_1_5 : stepA E C B 25 r61_1 o61_1_5 (φ, H) = some (fput φ 5 (fget φ 10), H) := nrfl rfl
theorem s61_1_6 : stepA E C B 25 r61_1 o61_1_6 (φ, H) = some (fput φ 6 (fget φ 11), H) := nrfl rfl
noncomputable def c61_4 : Code := kR c61_2
noncomputable def c61_5 : Code := kL c61_4
noncomputable def c61_6 : Code := kB c61_5
noncomputable def c61_7 : Code := kB c61_6
noncomputable def c61_8 : Code := kL c61_7
noncomputable def c61_9 : Code := kL c61_8
noncomputable def r61_2 : Array Oper := kO c61_9
noncomputable def o61_2_0 : Oper := opN r61_2 0
noncomputable def o61_2_1 : Oper := opN r61_2 1
theorem x61_9 : execA E C (fg 61) B 25 E0 N c61_9 s = regX (runA E C B 25 r61_2 r61_2.toList s) (fun s => gcM E0 [12] (forget s.1 [12], s.2)) := x_reg (ops := r61_2) (by rfl) (by rfl) s
theorem r61_2_l : r61_2.toList = [o61_2_0, o61_2_1] := nrfl rfl
theorem s61_2_0 : stepA E C B 25 r61_2 o61_2_0 (φ, H) = some (fput φ 12 (fget φ 6), H) := nrfl rfl
theorem s61_2_1 : stepA E C B 25 r61_2 o61_2_1 (φ, H) = stp (some 13) φ H (just (aBin E.T .neq 3 (fget φ 12) (.int .i64 0))) := nrfl rfl
noncomputable def c61_10 : Code := kR c61_8
noncomputable def c61_11 : Code := kT c61_10
theorem x61_11 : execA E C (fg 61) B 25 E0 N c61_11 s = some (.normal, s) := x_skip (by rfl) s
noncomputable def c61_12 : Code := kE c61_10
theorem x61_12 : execA E C (fg 61) B 25 E0 N c61_12 s = some (.exit 0, s) := x_exit (by rfl) s
theorem x61_10 : execA E C (fg 61) B 25 E0 N c61_10 (φ, H) = condX (fget φ 13) (execA E C (fg 61) B 25 E0 N c61_11 (φ, H)) (execA E C (fg 61) B 25 E0 N c61_12 (φ, H)) := x_cond (by rfl) _
theorem x61_8 : execA E C (fg 61) B 25 E0 N c61_8 s = seqX (execA E C (fg 61) B 25 E0 N c61_9 s) (execA E C (fg 61) B 25 E0 N c61_10) := x_seq (by rfl) s
noncomputable def c61_13 : Code := kR c61_7
noncomputable def c61_14 : Code := kB c61_13
noncomputable def r61_3 : Array Oper := kO c61_14
noncomputable def o61_3_0 : Oper := opN r61_3 0
noncomputable def o61_3_1 : Oper := opN r61_3 1
noncomputable def o61_3_2 : Oper := opN r61_3 2
noncomputable def o61_3_3 : Oper := opN r61_3 3
noncomputable def o61_3_4 : Oper := opN r61_3 4
noncomputable def o61_3_5 : Oper := opN r61_3 5
theorem x61_14 : execA E C (fg 61) B 25 E0 N c61_14 s = regX (drawA E C B 25 r61_3 s) (fun s => gcM E0 [13, 14, 15, 16, 17] (forget s.1 [13, 14, 15, 16, 17], s.2)) := x_draw (ops := r61_3) (by rfl) (by rfl) s
theorem r61_3_l : r61_3.toList = [o61_3_0, o61_3_1, o61_3_2, o61_3_3, o61_3_4, o61_3_5] := nrfl rfl
theorem r61_3_st : statOk r61_3 = true := by kernel_rfl
theorem r61_3_dr : drawA E C B 25 r61_3 s = if neat 25 s = true then drX r61_3 (runT E C B 25 r61_3 r61_3.toList 0 s) else none := draw_eq r61_3_st s
theorem r61_3_an (l : List (Nat × Tr)) : dynOk r61_3 l = (!writing l || dynPairs [[], [], [], [1, 2], [0, 1], [0, 1, 2, 3, 4]] (touching l)) := dynOk_eq (by kernel_rfl) l
theorem s61_3_0 : stepT E C B 25 r61_3 o61_3_0 (φ, H) = some ((fput φ 14 (fget φ 6), H), ⟨false, [], []⟩) := stT_go rfl (goT_mv rfl rfl)
theorem s61_3_1 : stepT E C B 25 r61_3 o61_3_1 (φ, H) = some ((fput φ 15 (fget φ 5), H), ⟨false, [], []⟩) := stT_go rfl (goT_mv rfl rfl)
theorem s61_3_2 : stepT E C B 25 r61_3 o61_3_2 (φ, H) = some ((fput φ 16 (fget φ 6), H), ⟨false, [], []⟩) := stT_go rfl (goT_mv rfl rfl)
theorem s61_3_3 : stepT E C B 25 r61_3 o61_3_3 (φ, H) = stpT (some 17) φ H (just (aBin E.T .rem 3 (fget φ 15) (fget φ 16))) := stT_go rfl (goT_R rfl rfl)
theorem s61_3_4 : stepT E C B 25 r61_3 o61_3_4 (φ, H) = some ((fput φ 5 (fget φ 14), H), ⟨false, [], []⟩) := stT_go rfl (goT_mv rfl rfl)
theorem s61_3_5 : stepT E C B 25 r61_3 o61_3_5 (φ, H) = some ((fput φ 6 (fget φ 17), H), ⟨false, [], []⟩) := stT_go rfl (goT_mv rfl rfl)
theorem x61_13 : execA E C (fg 61) B 25 E0 N c61_13 s = blockX 1 (fun s => (forget s.1 [], s.2)) (execA E C (fg 61) B 25 E0 N c61_14 s) := x_block (by rfl) (by rfl) s
theorem x61_7 : execA E C (fg 61) B 25 E0 N c61_7 s = seqX (execA E C (fg 61) B 25 E0 N c61_8 s) (execA E C (fg 61) B 25 E0 N c61_13) := x_seq (by rfl) s
theorem x61_6 : execA E C (fg 61) B 25 E0 N c61_6 s = iterA (execA E C (fg 61) B 25 E0 N c61_7) (headA E0) N s := x_loop (by rfl) s
theorem x61_5 : execA E C (fg 61) B 25 E0 N c61_5 s = blockX 0 (fun s => (forget s.1 [6, 13], s.2)) (execA E C (fg 61) B 25 E0 N c61_6 s) := x_block (by rfl) (by rfl) s
noncomputable def c61_15 : Code := kR c61_4
noncomputable def c61_16 : Code := kL c61_15
noncomputable def r61_4 : Array Oper := kO c61_16
noncomputable def o61_4_0 : Oper := opN r61_4 0
noncomputable def o61_4_1 : Oper := opN r61_4 1
noncomputable def o61_4_2 : Oper := opN r61_4 2
noncomputable def o61_4_3 : Oper := opN r61_4 3
noncomputable def o61_4_4 : Oper := opN r61_4 4
noncomputable def o61_4_5 : Oper := opN r61_4 5
noncomputable def o61_4_6 : Oper := opN r61_4 6
noncomputable def o61_4_7 : Oper := opN r61_4 7
theorem x61_16 : execA E C (fg 61) B 25 E0 N c61_16 s = regX (drawA E C B 25 r61_4 s) (fun s => gcM E0 [0, 1, 5, 18, 19, 20, 21, 22, 23, 24] (forget s.1 [0, 1, 5, 18, 19, 20, 21, 22, 23, 24], s.2)) := x_draw (ops := r61_4) (by rfl) (by rfl) s
theorem r61_4_l : r61_4.toList = [o61_4_0, o61_4_1, o61_4_2, o61_4_3, o61_4_4, o61_4_5, o61_4_6, o61_4_7] := nrfl rfl
theorem r61_4_st : statOk r61_4 = true := by kernel_rfl
theorem r61_4_dr : drawA E C B 25 r61_4 s = if neat 25 s = true then drX r61_4 (runT E C B 25 r61_4 r61_4.toList 0 s) else none := draw_eq r61_4_st s
theorem r61_4_an (l : List (Nat × Tr)) : dynOk r61_4 l = (!writing l || dynPairs [[], [], [0, 1], [], [], [3, 4], [0, 1, 2, 3, 4, 5], [0, 1, 2, 3, 4, 5, 6]] (touching l)) := dynOk_eq (by kernel_rfl) l
theorem s61_4_0 : stepT E C B 25 r61_4 o61_4_0 (φ, H) = some ((fput φ 18 (fget φ 0), H), ⟨false, [], []⟩) := stT_go rfl (goT_mv rfl rfl)
theorem s61_4_1 : stepT E C B 25 r61_4 o61_4_1 (φ, H) = some ((fput φ 19 (fget φ 5), H), ⟨false, [], []⟩) := stT_go rfl (goT_mv rfl rfl)
theorem s61_4_2 : stepT E C B 25 r61_4 o61_4_2 (φ, H) = stpT (some 20) φ H (just (aBin E.T .quo 3 (fget φ 18) (fget φ 19))) := stT_go rfl (goT_R rfl rfl)
theorem s61_4_3 : stepT E C B 25 r61_4 o61_4_3 (φ, H) = some ((fput φ 21 (fget φ 1), H), ⟨false, [], []⟩) := stT_go rfl (goT_mv rfl rfl)
theorem s61_4_4 : stepT E C B 25 r61_4 o61_4_4 (φ, H) = some ((fput φ 22 (fget φ 5), H), ⟨false, [], []⟩) := stT_go rfl (goT_mv rfl rfl)
theorem s61_4_5 : stepT E C B 25 r61_4 o61_4_5 (φ, H) = stpT (some 23) φ H (just (aBin E.T .quo 3 (fget φ 21) (fget φ 22))) := stT_go rfl (goT_R rfl rfl)
theorem s61_4_6 : stepT E C B 25 r61_4 o61_4_6 (φ, H) = stpT (some 24) φ H (justO (aBuild E.T 27 (evO E φ) [(0, Operand.tmp 20), (1, Operand.tmp 23)])) := stT_go rfl (goT_R rfl rfl)
theorem s61_4_7 : stepT E C B 25 r61_4 o61_4_7 (φ, H) = stpT none φ H (opStore E.T 27 (fget φ 4) (fget φ 24)) := stT_go rfl (goT_R rfl rfl)
noncomputable def c61_17 : Code := kR c61_15
theorem x61_17 : execA E C (fg 61) B 25 E0 N c61_17 s = some (.ret, s) := x_ret (by rfl) s
theorem x61_15 : execA E C (fg 61) B 25 E0 N c61_15 s = seqX (execA E C (fg 61) B 25 E0 N c61_16 s) (execA E C (fg 61) B 25 E0 N c61_17) := x_seq (by rfl) s
theorem x61_4 : execA E C (fg 61) B 25 E0 N c61_4 s = seqX (execA E C (fg 61) B 25 E0 N c61_5 s) (execA E C (fg 61) B 25 E0 N c61_15) := x_seq (by rfl) s
theorem x61_2 : execA E C (fg 61) B 25 E0 N c61_2 s = seqX (execA E C (fg 61) B 25 E0 N c61_3 s) (execA E C (fg 61) B 25 E0 N c61_4) := x_seq (by rfl) s
theorem x61_0 : execA E C (fg 61) B 25 E0 N c61_0 s = seqX (execA E C (fg 61) B 25 E0 N c61_1 s) (execA E C (fg 61) B 25 E0 N c61_2) := x_seq (by rfl) s
theorem fi_61 : fInfo E 61 = some ⟨25, #[.cell 4 27], c61_0⟩ := nrfl rfl
theorem b_61 (args : List AV) : bodyA E C fg N 61 args H B = bodyX E [.cell 4 27] (execA E C (fg 61) B 25 H N c61_0 (frame0 args 0 [], H)) := bodyA_eq fi_61 args H
noncomputable def c74_0 : Code := kBody Proofs.Try.f74
noncomputable def c74_1 : Code := kL c74_0
noncomputable def r74_0 : Array Oper := kO c74_1
noncomputable def o74_0_0 : Oper := opN r74_0 0
noncomputable def o74_0_1 : Oper := opN r74_0 1
theorem x74_1 : execA E C (fg 74) B 21 E0 N c74_1 s = regX (runA E C B 21 r74_0 r74_0.toList s) (fun s => gcM E0 [0] (forget s.1 [0], s.2)) := x_reg (ops := r74_0) (by rfl) (by rfl) s
theorem r74_0_l : r74_0.toList = [o74_0_0, o74_0_1] := nrfl rfl
theorem s74_0_0 : stepA E C B 21 r74_0 o74_0_0 (φ, H) = stp (some 3) φ H (opBox (B + 3) (acells (fget φ 0))) := nrfl rfl
theorem s74_0_1 : stepA E C B 21 r74_0 o74_0_1 (φ, H) = stp (some 6) φ H (opBox (B + 6) (zeroCells E.T 27)) := nrfl rfl
noncomputable def c74_2 : Code := kR c74_0
noncomputable def c74_3 : Code := kL c74_2
noncomputable def r74_1 : Array Oper := kO c74_3
noncomputable def o74_1_0 : Oper := opN r74_1 0
noncomputable def o74_1_1 : Oper := opN r74_1 1
noncomputable def o74_1_2 : Oper := opN r74_1 2
noncomputable def o74_1_3 : Oper := opN r74_1 3
noncomputable def o74_1_4 : Oper := opN r74_1 4
noncomputable def o74_1_5 : Oper := opN r74_1 5
noncomputable def o74_1_6 : Oper := opN r74_1 6
noncomputable def o74_1_7 : Oper := opN r74_1 7
noncomputable def o74_1_8 : Oper := opN r74_1 8
noncomputable def o74_1_9 : Oper := opN r74_1 9
noncomputable def o74_1_10 : Oper := opN r74_1 10
noncomputable def o74_1_11 : Oper := opN r74_1 11
noncomputable def o74_1_12 : Oper := opN r74_1 12
noncomputable def o74_1_13 : Oper := opN r74_1 13
noncomputable def o74_1_14 : Oper := opN r74_1 14
theorem x74_3 : execA E C (fg 74) B 21 E0 N c74_3 s = regX (runA E C B 21 r74_1 r74_1.toList s) (fun s => gcM E0 [1, 2, 3, 7, 8, 9, 10, 11, 12, 13, 14, 15, 16, 17, 18, 19, 20] (forget s.1 [1, 2, 3, 7, 8, 9, 10, 11, 12, 13, 14, 15, 16, 17, 18, 19, 20], s.2)) := x_reg (ops := r74_1) (by rfl) (by rfl) s
theorem r74_1_l : r74_1.toList = [o74_1_0, o74_1_1, o74_1_2, o74_1_3, o74_1_4, o74_1_5, o74_1_6, o74_1_7, o74_1_8, o74_1_9, o74_1_10, o74_1_11, o74_1_12, o74_1_13, o74_1_14] := nrfl rfl
theorem s74_1_0 : stepA E C B 21 r74_1 o74_1_0 (φ, H) = stp (some 7) φ H (just (aFieldAddr E.T 27 (fget φ 3) 0)) := nrfl rfl
theorem s74_1_1 : stepA E C B 21 r74_1 o74_1_1 (φ, H) = stp (some 8) φ H (just (aLoad E.T 3 (fget φ 7))) := nrfl rfl
theorem s74_1_2 : stepA E C B 21 r74_1 o74_1_2 (φ, H) = some (fput φ 9 (fget φ 2), H) := nrfl rfl
theorem s74_1_3 : stepA E C B 21 r74_1 o74_1_3 (φ, H) = stp (some 10) φ H (just (aBin E.T .mul 3 (fget φ 8) (fget φ 9))) := nrfl rfl
theorem s74_1_4 : stepA E C B 21 r74_1 o74_1_4 (φ, H) = some (fput φ 11 (fget φ 1), H) := nrfl rfl
theorem s74_1_5 : stepA E C B 21 r74_1 o74_1_5 (φ, H) = stp (some 12) φ H (just (aFieldAddr E.T 27 (fget φ 3) 1)) := nrfl rfl
theorem s74_1_6 : stepA E C B 21 r74_1 o74_1_6 (φ, H) = stp (some 13) φ H (just (aLoad E.T 3 (fget φ 12))) := nrfl rfl
theorem s74_1_7 : stepA E C B 21 r74_1 o74_1_7 (φ, H) = stp (some 14) φ H (just (aBin E.T .mul 3 (fget φ 11) (fget φ 13))) := nrfl rfl
theorem s74_1_8 : stepA E C B 21 r74_1 o74_1_8 (φ, H) = stp (some 15) φ H (just (aBin E.T .add 3 (fget φ 10) (fget φ 14))) := nrfl rfl
theorem s74_1_9 : stepA E C B 21 r74_1 o74_1_9 (φ, H) = stp (some 16) φ H (just (aFieldAddr E.T 27 (fget φ 3) 1)) := nrfl rfl
theorem s74_1_10 : stepA E C B 21 r74_1 o74_1_10 (φ, H) = stp (some 17) φ H (just (aLoad E.T 3 (fget φ 16))) := nrfl rfl
theorem s74_1_11 : stepA E C B 21 r74_1 o74_1_11 (φ, H) = some (fput φ 18 (fget φ 2), H) := nrfl rfl
theorem s74_1_12 : stepA E C B 21 r74_1 o74_1_12 (φ, H) = stp (some 19) φ H (just (aBin E.T .mul 3 (fget φ 17) (fget φ 18))) := nrfl rfl
theorem s74_1_13 : stepA E C B 21 r74_1 o74_1_13 (φ, H) = stp (some 20) φ H (aCall C (fun j => B + j * 21 + 20) true 61 [(fget φ 15), (fget φ 19)]) := nrfl rfl
theorem s74_1_14 : stepA E C B 21 r74_1 o74_1_14 (φ, H) = stp none φ H (opStore E.T 27 (fget φ 6) (fget φ 20)) := nrfl rfl
noncomputable def c74_4 : Code := kR c74_2
theorem x74_4 : execA E C (fg 74) B 21 E0 N c74_4 s = some (.ret, s) := x_ret (by rfl) s
theorem x74_2 : execA E C (fg 74) B 21 E0 N c74_2 s = seqX (execA E C (fg 74) B 21 E0 N c74_3 s) (execA E C (fg 74) B 21 E0 N c74_4) := x_seq (by rfl) s
theorem x74_0 : execA E C (fg 74) B 21 E0 N c74_0 s = seqX (execA E C (fg 74) B 21 E0 N c74_1 s) (execA E C (fg 74) B 21 E0 N c74_2) := x_seq (by rfl) s
theorem fi_74 : fInfo E 74 = some ⟨21, #[.cell 6 27], c74_0⟩ := nrfl rfl
theorem b_74 (args : List AV) : bodyA E C fg N 74 args H B = bodyX E [.cell 6 27] (execA E C (fg 74) B 21 H N c74_0 (frame0 args 0 [], H)) := bodyA_eq fi_74 args H
noncomputable def c100_0 : Code := kBody Proofs.Try.f100
noncomputable def c100_1 : Code := kL c100_0
noncomputable def r100_0 : Array Oper := kO c100_1
noncomputable def o100_0_0 : Oper := opN r100_0 0
theorem x100_1 : execA E C (fg 100) B 6 E0 N c100_1 s = regX (runA E C B 6 r100_0 r100_0.toList s) (fun s => gcM E0 [0, 4] (forget s.1 [0, 4], s.2)) := x_reg (ops := r100_0) (by rfl) (by rfl) s
theorem r100_0_l : r100_0.toList = [o100_0_0] := nrfl rfl
theorem s100_0_0 : stepA E C B 6 r100_0 o100_0_0 (φ, H) = some (fput φ 4 (.int .i64 0), H) := nrfl rfl
noncomputable def c100_2 : Code := kR c100_0
noncomputable def c100_3 : Code := kL c100_2
noncomputable def r100_1 : Array Oper := kO c100_3
noncomputable def o100_1_0 : Oper := opN r100_1 0
noncomputable def o100_1_1 : Oper := opN r100_1 1
theorem x100_3 : execA E C (fg 100) B 6 E0 N c100_3 s = regX (runA E C B 6 r100_1 r100_1.toList s) (fun s => gcM E0 [1, 5] (forget s.1 [1, 5], s.2)) := x_reg (ops := r100_1) (by rfl) (by rfl) s
theorem r100_1_l : r100_1.toList = [o100_1_0, o100_1_1] := nrfl rfl
theorem s100_1_0 : stepA E C B 6 r100_1 o100_1_0 (φ, H) = some (fput φ 5 (fget φ 1), H) := nrfl rfl
theorem s100_1_1 : stepA E C B 6 r100_1 o100_1_1 (φ, H) = some (fput φ 4 (fget φ 5), H) := nrfl rfl
noncomputable def c100_4 : Code := kR c100_2
theorem x100_4 : execA E C (fg 100) B 6 E0 N c100_4 s = some (.ret, s) := x_ret (by rfl) s
theorem x100_2 : execA E C (fg 100) B 6 E0 N c100_2 s = seqX (execA E C (fg 100) B 6 E0 N c100_3 s) (execA E C (fg 100) B 6 E0 N c100_4) := x_seq (by rfl) s
theorem x100_0 : execA E C (fg 100) B 6 E0 N c100_0 s = seqX (execA E C (fg 100) B 6 E0 N c100_1 s) (execA E C (fg 100) B 6 E0 N c100_2) := x_seq (by rfl) s
theorem fi_100 : fInfo E 100 = some ⟨6, #[.tmp 4], c100_0⟩ := nrfl rfl
theorem b_100 (args : List AV) : bodyA E C fg N 100 args H B = bodyX E [.tmp 4] (execA E C (fg 100) B 6 H N c100_0 (frame0 args 0 [], H)) := bodyA_eq fi_100 args H
noncomputable def c71_0 : Code := kBody Proofs.Try.f71
noncomputable def c71_1 : Code := kL c71_0
noncomputable def r71_0 : Array Oper := kO c71_1
noncomputable def o71_0_0 : Oper := opN r71_0 0
theorem x71_1 : execA E C (fg 71) B 38 E0 N c71_1 s = regX (runA E C B 38 r71_0 r71_0.toList s) (fun s => gcM E0 [4] (forget s.1 [4], s.2)) := x_reg (ops := r71_0) (by rfl) (by rfl) s
theorem r71_0_l : r71_0.toList = [o71_0_0] := nrfl rfl
theorem s71_0_0 : stepA E C B 38 r71_0 o71_0_0 (φ, H) = some (fput φ 4 (.nilsl), H) := nrfl rfl
noncomputable def c71_2 : Code := kR c71_0
noncomputable def c71_3 : Code := kL c71_2
noncomputable def r71_1 : Array Oper := kO c71_3
noncomputable def o71_1_0 : Oper := opN r71_1 0
noncomputable def o71_1_1 : Oper := opN r71_1 1
noncomputable def o71_1_2 : Oper := opN r71_1 2
theorem x71_3 : execA E C (fg 71) B 38 E0 N c71_3 s = regX (runA E C B 38 r71_1 r71_1.toList s) (fun s => gcM E0 [9, 10] (forget s.1 [9, 10], s.2)) := x_reg (ops := r71_1) (by rfl) (by rfl) s
theorem r71_1_l : r71_1.toList = [o71_1_0, o71_1_1, o71_1_2] := nrfl rfl
theorem s71_1_0 : stepA E C B 38 r71_1 o71_1_0 (φ, H) = stp (some 9) φ H (justO (aBuild E.T 27 (evO E φ) [(0, Operand.const (Value.int .i64 0)), (1, Operand.const (Value.int .i64 1))])) := nrfl rfl
theorem s71_1_1 : stepA E C B 38 r71_1 o71_1_1 (φ, H) = stp (some 10) φ H (aBuildSlice E.T (B + 10) 52 1 (evO E φ) [(0, Operand.tmp 9)]) := nrfl rfl
theorem s71_1_2 : stepA E C B 38 r71_1 o71_1_2 (φ, H) = some (fput φ 5 (fget φ 10), H) := nrfl rfl
noncomputable def c71_4 : Code := kR c71_2
noncomputable def c71_5 : Code := kL c71_4
noncomputable def c71_6 : Code := kL c71_5
noncomputable def r71_2 : Array Oper := kO c71_6
noncomputable def o71_2_0 : Oper := opN r71_2 0
noncomputable def o71_2_1 : Oper := opN r71_2 1
noncomputable def o71_2_2 : Oper := opN r71_2 2
theorem x71_6 : execA E C (fg 71) B 38 E0 N c71_6 s = regX (runA E C B 38 r71_2 r71_2.toList s) (fun s => gcM E0 [] (forget s.1 [], s.2)) := x_reg (ops := r71_2) (by rfl) (by rfl) s
theorem r71_2_l : r71_2.toList = [o71_2_0, o71_2_1, o71_2_2] := nrfl rfl
theorem s71_2_0 : stepA E C B 38 r71_2 o71_2_0 (φ, H) = some (fput φ 11 (fget φ 1), H) := nrfl rfl
theorem s71_2_1 : stepA E C B 38 r71_2 o71_2_1 (φ, H) = stp (some 12) φ H (aBuiltin E.T (B + 12) .len #[47] [(fget φ 11)]) := nrfl rfl
theorem s71_2_2 : stepA E C B 38 r71_2 o71_2_2 (φ, H) = some (fput φ 13 (.int .i64 0), H) := nrfl rfl
noncomputable def c71_7 : Code := kR c71_5
noncomputable def c71_8 : Code := kB c71_7
noncomputable def c71_9 : Code := kB c71_8
noncomputable def c71_10 : Code := kL c71_9
noncomputable def r71_3 : Array Oper := kO c71_10
noncomputable def o71_3_0 : Oper := opN r71_3 0
theorem x71_10 : execA E C (fg 71) B 38 E0 N c71_10 s = regX (runA E C B 38 r71_3 r71_3.toList s) (fun s => gcM E0 [] (forget s.1 [], s.2)) := x_reg (ops := r71_3) (by rfl) (by rfl) s
theorem r71_3_l : r71_3.toList = [o71_3_0] := nrfl rfl
theorem s71_3_0 : stepA E C B 38 r71_3 o71_3_0 (φ, H) = stp (some 14) φ H (just (aBin E.T .lss 3 (fget φ 13) (fget φ 12))) := nrfl rfl
noncomputable def c71_11 : Code := kR c71_9
noncomputable def c71_12 : Code := kL c71_11
noncomputable def c71_13 : Code := kT c71_12
theorem x71_13 : execA E C (fg 71) B 38 E0 N c71_13 s = some (.normal, s) := x_skip (by rfl) s
noncomputable def c71_14 : Code := kE c71_12
theorem x71_14 : execA E C (fg 71) B 38 E0 N c71_14 s = some (.exit 0, s) := x_exit (by rfl) s
theorem x71_12 : execA E C (fg 71) B 38 E0 N c71_12 (φ, H) = condX (fget φ 14) (execA E C (fg 71) B 38 E0 N c71_13 (φ, H)) (execA E C (fg 71) B 38 E0 N c71_14 (φ, H)) := x_cond (by rfl) _
noncomputable def c71_15 : Code := kR c71_11
noncomputable def c71_16 : Code := kL c71_15
noncomputable def c71_17 : Code := kB c71_16
noncomputable def c71_18 : Code := kL c71_17
noncomputable def r71_4 : Array Oper := kO c71_18
noncomputable def o71_4_0 : Oper := opN r71_4 0
noncomputable def o71_4_1 : Oper := opN r71_4 1
noncomputable def o71_4_2 : Oper := opN r71_4 2
noncomputable def o71_4_3 : Oper := opN r71_4 3
noncomputable def o71_4_4 : Oper := opN r71_4 4
theorem x71_18 : execA E C (fg 71) B 38 E0 N c71_18 s = regX (runA E C B 38 r71_4 r71_4.toList s) (fun s => gcM E0 [14, 15, 16, 17] (forget s.1 [14, 15, 16, 17], s.2)) := x_reg (ops := r71_4) (by rfl) (by rfl) s
theorem r71_4_l : r71_4.toList = [o71_4_0, o71_4_1, o71_4_2, o71_4_3, o71_4_4] := nrfl rfl
theorem s71_4_0 : stepA E C B 38 r71_4 o71_4_0 (φ, H) = some (fput φ 15 (fget φ 13), H) := nrfl rfl
theorem s71_4_1 : stepA E C B 38 r71_4 o71_4_1 (φ, H) = stp (some 16) φ H (just (aIndexAddr E.T 47 (fget φ 11) (fget φ 13))) := nrfl rfl
theorem s71_4_2 : stepA E C B 38 r71_4 o71_4_2 (φ, H) = stp (some 17) φ H (just (aLoad E.T 3 (fget φ 16))) := nrfl rfl
theorem s71_4_3 : stepA E C B 38 r71_4 o71_4_3 (φ, H) = some (fput φ 6 (fget φ 15), H) := nrfl rfl
theorem s71_4_4 : stepA E C B 38 r71_4 o71_4_4 (φ, H) = some (fput φ 7 (fget φ 17), H) := nrfl rfl
noncomputable def c71_19 : Code := kR c71_17
noncomputable def c71_20 : Code := kL c71_19
noncomputable def r71_5 : Array Oper := kO c71_20
noncomputable def o71_5_0 : Oper := opN r71_5 0
noncomputable def o71_5_1 : Oper := opN r71_5 1
noncomputable def o71_5_2 : Oper := opN r71_5 2
noncomputable def o71_5_3 : Oper := opN r71_5 3
theorem x71_20 : execA E C (fg 71) B 38 E0 N c71_20 s = regX (runA E C B 38 r71_5 r71_5.toList s) (fun s => gcM E0 [18, 19, 20] (forget s.1 [18, 19, 20], s.2)) := x_reg (ops := r71_5) (by rfl) (by rfl) s
theorem r71_5_l : r71_5.toList = [o71_5_0, o71_5_1, o71_5_2, o71_5_3] := nrfl rfl
theorem s71_5_0 : stepA E C B 38 r71_5 o71_5_0 (φ, H) = some (fput φ 18 (fget φ 1), H) := nrfl rfl
theorem s71_5_1 : stepA E C B 38 r71_5 o71_5_1 (φ, H) = some (fput φ 19 (fget φ 6), H) := nrfl rfl
theorem s71_5_2 : stepA E C B 38 r71_5 o71_5_2 (φ, H) = stp (some 20) φ H (aCall C (fun j => B + j * 38 + 20) true 72 [(fget φ 18), (fget φ 19), (.clo 100 [])]) := nrfl rfl
theorem s71_5_3 : stepA E C B 38 r71_5 o71_5_3 (φ, H) = some (fput φ 8 (fget φ 20), H) := nrfl rfl
noncomputable def c71_21 : Code := kR c71_19
noncomputable def r71_6 : Array Oper := kO c71_21
noncomputable def o71_6_0 : Oper := opN r71_6 0
noncomputable def o71_6_1 : Oper := opN r71_6 1
noncomputable def o71_6_2 : Oper := opN r71_6 2
noncomputable def o71_6_3 : Oper := opN r71_6 3
noncomputable def o71_6_4 : Oper := opN r71_6 4
noncomputable def o71_6_5 : Oper := opN r71_6 5
noncomputable def o71_6_6 : Oper := opN r71_6 6
noncomputable def o71_6_7 : Oper := opN r71_6 7
noncomputable def o71_6_8 : Oper := opN r71_6 8
noncomputable def o71_6_9 : Oper := opN r71_6 9
noncomputable def o71_6_10 : Oper := opN r71_6 10
noncomputable def o71_6_11 : Oper := opN r71_6 11
noncomputable def o71_6_12 : Oper := opN r71_6 12
noncomputable def o71_6_13 : Oper := opN r71_6 13
noncomputable def o71_6_14 : Oper := opN r71_6 14
noncomputable def o71_6_15 : Oper := opN r71_6 15
theorem x71_21 : execA E C (fg 71) B 38 E0 N c71_21 s = regX (drawA E C B 38 r71_6 s) (fun s => gcM E0 [6, 7, 8, 21, 22, 23, 24, 25, 26, 27, 28, 29, 30, 31, 32, 33, 34, 35] (forget s.1 [6, 7, 8, 21, 22, 23, 24, 25, 26, 27, 28, 29, 30, 31, 32, 33, 34, 35], s.2)) := x_draw (ops := r71_6) (by rfl) (by rfl) s
theorem r71_6_l : r71_6.toList = [o71_6_0, o71_6_1, o71_6_2, o71_6_3, o71_6_4, o71_6_5, o71_6_6, o71_6_7, o71_6_8, o71_6_9, o71_6_10, o71_6_11, o71_6_12, o71_6_13, o71_6_14, o71_6_15] := nrfl rfl
theorem r71_6_st : statOk r71_6 = true := by kernel_rfl
theorem r71_6_dr : drawA E C B 38 r71_6 s = if neat 38 s = true then drX r71_6 (runT E C B 38 r71_6 r71_6.toList 0 s) else none := draw_eq r71_6_st s
theorem r71_6_an (l : List (Nat × Tr)) : dynOk r71_6 l = (!writing l || dynPairs [[], [], [], [1, 2], [1, 2, 3], [], [], [5, 6], [5, 6, 7], [], [5, 6, 7, 8, 9], [], [1, 2, 3, 4, 5, 6, 7, 8, 9, 10, 11], [1, 2, 3, 4, 5, 6, 7, 8, 9, 10, 11, 12], [0, 1, 2, 3, 4, 5, 6, 7, 8, 9, 10, 11, 12, 13], [0, 1, 2, 3, 4, 5, 6, 7, 8, 9, 10, 11, 12, 13, 14]] (touching l)) := dynOk_eq (by kernel_rfl) l
theorem s71_6_0 : stepT E C B 38 r71_6 o71_6_0 (φ, H) = some ((fput φ 21 (fget φ 5), H), ⟨false, [], []⟩) := stT_go rfl (goT_mv rfl rfl)
theorem s71_6_1 : stepT E C B 38 r71_6 o71_6_1 (φ, H) = some ((fput φ 22 (fget φ 5), H), ⟨false, [], []⟩) := stT_go rfl (goT_mv rfl rfl)
theorem s71_6_2 : stepT E C B 38 r71_6 o71_6_2 (φ, H) = some ((fput φ 23 (fget φ 6), H), ⟨false, [], []⟩) := stT_go rfl (goT_mv rfl rfl)
theorem s71_6_3 : stepT E C B 38 r71_6 o71_6_3 (φ, H) = stpT (some 24) φ H (just (aIndexAddr E.T 52 (fget φ 22) (fget φ 23))) := stT_go rfl (goT_R rfl rfl)
theorem s71_6_4 : stepT E C B 38 r71_6 o71_6_4 (φ, H) = stpT (some 25) φ H (just (aLoad E.T 27 (fget φ 24))) := stT_go rfl (goT_R rfl rfl)
theorem s71_6_5 : stepT E C B 38 r71_6 o71_6_5 (φ, H) = some ((fput φ 26 (fget φ 0), H), ⟨false, [], []⟩) := stT_go rfl (goT_mv rfl rfl)
theorem s71_6_6 : stepT E C B 38 r71_6 o71_6_6 (φ, H) = some ((fput φ 27 (fget φ 6), H), ⟨false, [], []⟩) := stT_go rfl (goT_mv rfl rfl)
theorem s71_6_7 : stepT E C B 38 r71_6 o71_6_7 (φ, H) = stpT (some 28) φ H (just (aIndexAddr E.T 47 (fget φ 26) (fget φ 27))) := stT_go rfl (goT_R rfl rfl)
theorem s71_6_8 : stepT E C B 38 r71_6 o71_6_8 (φ, H) = stpT (some 29) φ H (just (aLoad E.T 3 (fget φ 28))) := stT_go rfl (goT_R rfl rfl)
theorem s71_6_9 : stepT E C B 38 r71_6 o71_6_9 (φ, H) = some ((fput φ 30 (fget φ 7), H), ⟨false, [], []⟩) := stT_go rfl (goT_mv rfl rfl)
theorem s71_6_10 : stepT E C B 38 r71_6 o71_6_10 (φ, H) = stpT (some 31) φ H (just (aBin E.T .mul 3 (fget φ 29) (fget φ 30))) := stT_go rfl (goT_R rfl rfl)
theorem s71_6_11 : stepT E C B 38 r71_6 o71_6_11 (φ, H) = some ((fput φ 32 (fget φ 8), H), ⟨false, [], []⟩) := stT_go rfl (goT_mv rfl rfl)
theorem s71_6_12 : stepT E C B 38 r71_6 o71_6_12 (φ, H) = stpT (some 33) φ H (aCall C (fun j => B + j * 38 + 33) true 74 [(fget φ 25), (fget φ 31), (fget φ 32)]) := stT_go rfl (goT_R rfl rfl)
theorem s71_6_13 : stepT E C B 38 r71_6 o71_6_13 (φ, H) = stpT (some 34) φ H (aBuildSlice E.T (B + 34) 52 1 (evO E φ) [(0, Operand.tmp 33)]) := stT_go rfl (goT_R rfl rfl)
theorem s71_6_14 : stepT E C B 38 r71_6 o71_6_14 (φ, H) = stpT (some 35) φ H (aBuiltin E.T (B + 35) .append #[52, 52] [(fget φ 21), (fget φ 34)]) := stT_go rfl (goT_R rfl rfl)
theorem s71_6_15 : stepT E C B 38 r71_6 o71_6_15 (φ, H) = some ((fput φ 5 (fget φ 35), H), ⟨false, [], []⟩) := stT_go rfl (goT_mv rfl rfl)
theorem x71_19 : execA E C (fg 71) B 38 E0 N c71_19 s = seqX (execA E C (fg 71) B 38 E0 N c71_20 s) (execA E C (fg 71) B 38 E0 N c71_21) := x_seq (by rfl) s
theorem x71_17 : execA E C (fg 71) B 38 E0 N c71_17 s = seqX (execA E C (fg 71) B 38 E0 N c71_18 s) (execA E C (fg 71) B 38 E0 N c71_19) := x_seq (by rfl) s
theorem x71_16 : execA E C (fg 71) B 38 E0 N c71_16 s = blockX 1 (fun s => (forget s.1 [], s.2)) (execA E C (fg 71) B 38 E0 N c71_17 s) := x_block (by rfl) (by rfl) s
noncomputable def c71_22 : Code := kR c71_15
noncomputable def r71_7 : Array Oper := kO c71_22
noncomputable def o71_7_0 : Oper := opN r71_7 0
noncomputable def o71_7_1 : Oper := opN r71_7 1
theorem x71_22 : execA E C (fg 71) B 38 E0 N c71_22 s = regX (runA E C B 38 r71_7 r71_7.toList s) (fun s => gcM E0 [36] (forget s.1 [36], s.2)) := x_reg (ops := r71_7) (by rfl) (by rfl) s
theorem r71_7_l : r71_7.toList = [o71_7_0, o71_7_1] := nrfl rfl
theorem s71_7_0 : stepA E C B 38 r71_7 o71_7_0 (φ, H) = stp (some 36) φ H (just (aBin E.T .add 3 (fget φ 13) (.int .i64 1))) := nrfl rfl
theorem s71_7_1 : stepA E C B 38 r71_7 o71_7_1 (φ, H) = some (fput φ 13 (fget φ 36), H) := nrfl rfl
theorem x71_15 : execA E C (fg 71) B 38 E0 N c71_15 s = seqX (execA E C (fg 71) B 38 E0 N c71_16 s) (execA E C (fg 71) B 38 E0 N c71_22) := x_seq (by rfl) s
theorem x71_11 : execA E C (fg 71) B 38 E0 N c71_11 s = seqX (execA E C (fg 71) B 38 E0 N c71_12 s) (execA E C (fg 71) B 38 E0 N c71_15) := x_seq (by rfl) s
theorem x71_9 : execA E C (fg 71) B 38 E0 N c71_9 s = seqX (execA E C (fg 71) B 38 E0 N c71_10 s) (execA E C (fg 71) B 38 E0 N c71_11) := x_seq (by rfl) s
theorem x71_8 : execA E C (fg 71) B 38 E0 N c71_8 s = iterA (execA E C (fg 71) B 38 E0 N c71_9) (headA E0) N s := x_loop (by rfl) s
theorem x71_7 : execA E C (fg 71) B 38 E0 N c71_7 s = blockX 0 (fun s => (forget s.1 [0, 1, 11, 12, 13, 14], s.2)) (execA E C (fg 71) B 38 E0 N c71_8 s) := x_block (by rfl) (by rfl) s
theorem x71_5 : execA E C (fg 71) B 38 E0 N c71_5 s = seqX (execA E C (fg 71) B 38 E0 N c71_6 s) (execA E C (fg 71) B 38 E0 N c71_7) := x_seq (by rfl) s
noncomputable def c71_23 : Code := kR c71_4
noncomputable def c71_24 : Code := kL c71_23
noncomputable def r71_8 : Array Oper := kO c71_24
noncomputable def o71_8_0 : Oper := opN r71_8 0
noncomputable def o71_8_1 : Oper := opN r71_8 1
theorem x71_24 : execA E C (fg 71) B 38 E0 N c71_24 s = regX (runA E C B 38 r71_8 r71_8.toList s) (fun s => gcM E0 [5, 37] (forget s.1 [5, 37], s.2)) := x_reg (ops := r71_8) (by rfl) (by rfl) s
theorem r71_8_l : r71_8.toList = [o71_8_0, o71_8_1] := nrfl rfl
theorem s71_8_0 : stepA E C B 38 r71_8 o71_8_0 (φ, H) = some (fput φ 37 (fget φ 5), H) := nrfl rfl
theorem s71_8_1 : stepA E C B 38 r71_8 o71_8_1 (φ, H) = some (fput φ 4 (fget φ 37), H) := nrfl rfl
noncomputable def c71_25 : Code := kR c71_23
theorem x71_25 : execA E C (fg 71) B 38 E0 N c71_25 s = some (.ret, s) := x_ret (by rfl) s
theorem x71_23 : execA E C (fg 71) B 38 E0 N c71_23 s = seqX (execA E C (fg 71) B 38 E0 N c71_24 s) (execA E C (fg 71) B 38 E0 N c71_25) := x_seq (by rfl) s
theorem x71_4 : execA E C (fg 71) B 38 E0 N c71_4 s = seqX (execA E C (fg 71) B 38 E0 N c71_5 s) (execA E C (fg 71) B 38 E0 N c71_23) := x_seq (by rfl) s
theorem x71_2 : execA E C (fg 71) B 38 E0 N c71_2 s = seqX (execA E C (fg 71) B 38 E0 N c71_3 s) (execA E C (fg 71) B 38 E0 N c71_4) := x_seq (by rfl) s
theorem x71_0 : execA E C (fg 71) B 38 E0 N c71_0 s = seqX (execA E C (fg 71) B 38 E0 N c71_1 s) (execA E C (fg 71) B 38 E0 N c71_2) := x_seq (by rfl) s
theorem fi_71 : fInfo E 71 = some ⟨38, #[.tmp 4], c71_0⟩ := nrfl rfl
theorem b_71 (args : List AV) : bodyA E C fg N 71 args H B = bodyX E [.tmp 4] (execA E C (fg 71) B 38 H N c71_0 (frame0 args 0 [], H)) := bodyA_eq fi_71 args H
noncomputable def c73_0 : Code := kBody Proofs.Try.f73
noncomputable def c73_1 : Code := kL c73_0
noncomputable def r73_0 : Array Oper := kO c73_1
noncomputable def o73_0_0 : Oper := opN r73_0 0
theorem x73_1 : execA E C (fg 73) B 6 E0 N c73_1 s = regX (runA E C B 6 r73_0 r73_0.toList s) (fun s => gcM E0 [0, 4] (forget s.1 [0, 4], s.2)) := x_reg (ops := r73_0) (by rfl) (by rfl) s
theorem r73_0_l : r73_0.toList = [o73_0_0] := nrfl rfl
theorem s73_0_0 : stepA E C B 6 r73_0 o73_0_0 (φ, H) = some (fput φ 4 (.int .i64 0), H) := nrfl rfl
noncomputable def c73_2 : Code := kR c73_0
noncomputable def c73_3 : Code := kL c73_2
noncomputable def r73_1 : Array Oper := kO c73_3
noncomputable def o73_1_0 : Oper := opN r73_1 0
noncomputable def o73_1_1 : Oper := opN r73_1 1
theorem x73_3 : execA E C (fg 73) B 6 E0 N c73_3 s = regX (runA E C B 6 r73_1 r73_1.toList s) (fun s => gcM E0 [1, 5] (forget s.1 [1, 5], s.2)) := x_reg (ops := r73_1) (by rfl) (by rfl) s
theorem r73_1_l : r73_1.toList = [o73_1_0, o73_1_1] := nrfl rfl
theorem s73_1_0 : stepA E C B 6 r73_1 o73_1_0 (φ, H) = some (fput φ 5 (fget φ 1), H) := nrfl rfl
theorem s73_1_1 : stepA E C B 6 r73_1 o73_1_1 (φ, H) = some (fput φ 4 (fget φ 5), H) := nrfl rfl
noncomputable def c73_4 : Code := kR c73_2
theorem x73_4 : execA E C (fg 73) B 6 E0 N c73_4 s = some (.ret, s) := x_ret (by rfl) s
theorem x73_2 : execA E C (fg 73) B 6 E0 N c73_2 s = seqX (execA E C (fg 73) B 6 E0 N c73_3 s) (execA E C (fg 73) B 6 E0 N c73_4) := x_seq (by rfl) s
theorem x73_0 : execA E C (fg 73) B 6 E0 N c73_0 s = seqX (execA E C (fg 73) B 6 E0 N c73_1 s) (execA E C (fg 73) B 6 E0 N c73_2) := x_seq (by rfl) s
theorem fi_73 : fInfo E 73 = some ⟨6, #[.tmp 4], c73_0⟩ := nrfl rfl
theorem b_73 (args : List AV) : bodyA E C fg N 73 args H B = bodyX E [.tmp 4] (execA E C (fg 73) B 6 H N c73_0 (frame0 args 0 [], H)) := bodyA_eq fi_73 args H
noncomputable def c20_0 : Code := kBody Proofs.Try.f20
noncomputable def c20_1 : Code := kL c20_0
noncomputable def r20_0 : Array Oper := kO c20_1
noncomputable def o20_0_0 : Oper := opN r20_0 0
noncomputable def o20_0_1 : Oper := opN r20_0 1
theorem x20_1 : execA E C (fg 20) B 57 E0 N c20_1 s = regX (runA E C B 57 r20_0 r20_0.toList s) (fun s => gcM E0 [7] (forget s.1 [7], s.2)) := x_reg (ops := r20_0) (by rfl) (by rfl) s
theorem r20_0_l : r20_0.toList = [o20_0_0, o20_0_1] := nrfl rfl
theorem s20_0_0 : stepA E C B 57 r20_0 o20_0_0 (φ, H) = stp (some 6) φ H (opBox (B + 6) (zeroCells E.T 27)) := nrfl rfl
theorem s20_0_1 : stepA E C B 57 r20_0 o20_0_1 (φ, H) = some (fput φ 7 (.int .i64 0), H) := nrfl rfl
noncomputable def c20_2 : Code := kR c20_0
noncomputable def c20_3 : Code := kL c20_2
noncomputable def r20_1 : Array Oper := kO c20_3
noncomputable def o20_1_0 : Oper := opN r20_1 0
noncomputable def o20_1_1 : Oper := opN r20_1 1
noncomputable def o20_1_2 : Oper := opN r20_1 2
noncomputable def o20_1_3 : Oper := opN r20_1 3
theorem x20_3 : execA E C (fg 20) B 57 E0 N c20_3 s = regX (runA E C B 57 r20_1 r20_1.toList s) (fun s => gcM E0 [11, 12, 13] (forget s.1 [11, 12, 13], s.2)) := x_reg (ops := r20_1) (by rfl) (by rfl) s
theorem r20_1_l : r20_1.toList = [o20_1_0, o20_1_1, o20_1_2, o20_1_3] := nrfl rfl
theorem s20_1_0 : stepA E C B 57 r20_1 o20_1_0 (φ, H) = some (fput φ 11 (fget φ 0), H) := nrfl rfl
theorem s20_1_1 : stepA E C B 57 r20_1 o20_1_1 (φ, H) = some (fput φ 12 (fget φ 1), H) := nrfl rfl
theorem s20_1_2 : stepA E C B 57 r20_1 o20_1_2 (φ, H) = stp (some 13) φ H (aCall C (fun j => B + j * 57 + 13) true 29 [(fget φ 11), (fget φ 12)]) := nrfl rfl
theorem s20_1_3 : stepA E C B 57 r20_1 o20_1_3 (φ, H) = some (fput φ 8 (fget φ 13), H) := nrfl rfl
noncomputable def c20_4 : Code := kR c20_2
noncomputable def c20_5 : Code := kL c20_4
noncomputable def c20_6 : Code := kB c20_5
noncomputable def c20_7 : Code := kL c20_6
noncomputable def r20_2 : Array Oper := kO c20_7
noncomputable def o20_2_0 : Oper := opN r20_2 0
noncomputable def o20_2_1 : Oper := opN r20_2 1
noncomputable def o20_2_2 : Oper := opN r20_2 2
theorem x20_7 : execA E C (fg 20) B 57 E0 N c20_7 s = regX (runA E C B 57 r20_2 r20_2.toList s) (fun s => gcM E0 [15, 16] (forget s.1 [15, 16], s.2)) := x_reg (ops := r20_2) (by rfl) (by rfl) s
theorem r20_2_l : r20_2.toList = [o20_2_0, o20_2_1, o20_2_2] := nrfl rfl
theorem s20_2_0 : stepA E C B 57 r20_2 o20_2_0 (φ, H) = some (fput φ 15 (fget φ 8), H) := nrfl rfl
theorem s20_2_1 : stepA E C B 57 r20_2 o20_2_1 (φ, H) = stp (some 16) φ H (just (aBin E.T .neq 28 (fget φ 15) (.int .i64 0))) := nrfl rfl
theorem s20_2_2 : stepA E C B 57 r20_2 o20_2_2 (φ, H) = some (fput φ 14 (fget φ 16), H) := nrfl rfl
noncomputable def c20_8 : Code := kR c20_6
noncomputable def c20_9 : Code := kT c20_8
noncomputable def c20_10 : Code := kL c20_9
noncomputable def r20_3 : Array Oper := kO c20_10
noncomputable def o20_3_0 : Oper := opN r20_3 0
noncomputable def o20_3_1 : Oper := opN r20_3 1
noncomputable def o20_3_2 : Oper := opN r20_3 2
noncomputable def o20_3_3 : Oper := opN r20_3 3
theorem x20_10 : execA E C (fg 20) B 57 E0 N c20_10 s = regX (runA E C B 57 r20_3 r20_3.toList s) (fun s => gcM E0 [0, 1, 2, 8, 14, 17, 18] (forget s.1 [0, 1, 2, 8, 14, 17, 18], s.2)) := x_reg (ops := r20_3) (by rfl) (by rfl) s
theorem r20_3_l : r20_3.toList = [o20_3_0, o20_3_1, o20_3_2, o20_3_3] := nrfl rfl
theorem s20_3_0 : stepA E C B 57 r20_3 o20_3_0 (φ, H) = stp (some 17) φ H (justO (aBuild E.T 27 (evO E φ) [])) := nrfl rfl
theorem s20_3_1 : stepA E C B 57 r20_3 o20_3_1 (φ, H) = some (fput φ 18 (fget φ 8), H) := nrfl rfl
theorem s20_3_2 : stepA E C B 57 r20_3 o20_3_2 (φ, H) = stp none φ H (opStore E.T 27 (fget φ 6) (fget φ 17)) := nrfl rfl
theorem s20_3_3 : stepA E C B 57 r20_3 o20_3_3 (φ, H) = some (fput φ 7 (fget φ 18), H) := nrfl rfl
noncomputable def c20_11 : Code := kR c20_9
theorem x20_11 : execA E C (fg 20) B 57 E0 N c20_11 s = some (.ret, s) := x_ret (by rfl) s
theorem x20_9 : execA E C (fg 20) B 57 E0 N c20_9 s = seqX (execA E C (fg 20) B 57 E0 N c20_10 s) (execA E C (fg 20) B 57 E0 N c20_11) := x_seq (by rfl) s
noncomputable def c20_12 : Code := kE c20_8
noncomputable def c20_13 : Code := kL c20_12
noncomputable def r20_4 : Array Oper := kO c20_13
noncomputable def o20_4_0 : Oper := opN r20_4 0
noncomputable def o20_4_1 : Oper := opN r20_4 1
noncomputable def o20_4_2 : Oper := opN r20_4 2
noncomputable def o20_4_3 : Oper := opN r20_4 3
noncomputable def o20_4_4 : Oper := opN r20_4 4
noncomputable def o20_4_5 : Oper := opN r20_4 5
noncomputable def o20_4_6 : Oper := opN r20_4 6
noncomputable def o20_4_7 : Oper := opN r20_4 7
noncomputable def o20_4_8 : Oper := opN r20_4 8
theorem x20_13 : execA E C (fg 20) B 57 E0 N c20_13 s = regX (runA E C B 57 r20_4 r20_4.toList s) (fun s => gcM E0 [8, 14, 20, 21, 22, 23, 24, 25, 26, 27] (forget s.1 [8, 14, 20, 21, 22, 23, 24, 25, 26, 27], s.2)) := x_reg (ops := r20_4) (by rfl) (by rfl) s
theorem r20_4_l : r20_4.toList = [o20_4_0, o20_4_1, o20_4_2, o20_4_3, o20_4_4, o20_4_5, o20_4_6, o20_4_7, o20_4_8] := nrfl rfl
theorem s20_4_0 : stepA E C B 57 r20_4 o20_4_0 (φ, H) = some (fput φ 20 (fget φ 2), H) := nrfl rfl
theorem s20_4_1 : stepA E C B 57 r20_4 o20_4_1 (φ, H) = stp (some 21) φ H (just (aBin E.T .lss 3 (fget φ 20) (.int .i64 0))) := nrfl rfl
theorem s20_4_2 : stepA E C B 57 r20_4 o20_4_2 (φ, H) = some (fput φ 22 (fget φ 21), H) := nrfl rfl
theorem s20_4_3 : stepA E C B 57 r20_4 o20_4_3 (φ, H) = gd φ 22 false (fun φ => some (fput φ 23 (.tup []), H)) (fun φ => some (fput φ 23 (fget φ 2), H)) := s_gd (j := 2) (oj := o20_4_2) rfl rfl rfl (fun _ => rfl) (fun _ => rfl)
theorem s20_4_4 : stepA E C B 57 r20_4 o20_4_4 (φ, H) = gd φ 22 false (fun φ => some (fput φ 24 (.tup []), H)) (fun φ => some (fput φ 24 (fget φ 0), H)) := s_gd (j := 2) (oj := o20_4_2) rfl rfl rfl (fun _ => rfl) (fun _ => rfl)
theorem s20_4_5 : stepA E C B 57 r20_4 o20_4_5 (φ, H) = gd φ 22 false (fun φ => some (fput φ 25 (.tup []), H)) (fun φ => stp (some 25) φ H (aBuiltin E.T (B + 25) .len #[47] [(fget φ 24)])) := s_gd (j := 2) (oj := o20_4_2) rfl rfl rfl (fun _ => rfl) (fun _ => rfl)
theorem s20_4_6 : stepA E C B 57 r20_4 o20_4_6 (φ, H) = gd φ 22 false (fun φ => some (fput φ 26 (.tup []), H)) (fun φ => stp (some 26) φ H (just (aBin E.T .geq 3 (fget φ 23) (fget φ 25)))) := s_gd (j := 2) (oj := o20_4_2) rfl rfl rfl (fun _ => rfl) (fun _ => rfl)
theorem s20_4_7 : stepA E C B 57 r20_4 o20_4_7 (φ, H) = stp (some 27) φ H (opPick (fget φ 22) (.bool true) (fget φ 26)) := nrfl rfl
theorem s20_4_8 : stepA E C B 57 r20_4 o20_4_8 (φ, H) = some (fput φ 19 (fget φ 27), H) := nrfl rfl
noncomputable def c20_14 : Code := kR c20_12
noncomputable def c20_15 : Code := kT c20_14
noncomputable def c20_16 : Code := kL c20_15
noncomputable def r20_5 : Array Oper := kO c20_16
noncomputable def o20_5_0 : Oper := opN r20_5 0
noncomputable def o20_5_1 : Oper := opN r20_5 1
noncomputable def o20_5_2 : Oper := opN r20_5 2
theorem x20_16 : execA E C (fg 20) B 57 E0 N c20_16 s = regX (runA E C B 57 r20_5 r20_5.toList s) (fun s => gcM E0 [0, 1, 2, 19, 28] (forget s.1 [0, 1, 2, 19, 28], s.2)) := x_reg (ops := r20_5) (by rfl) (by rfl) s
theorem r20_5_l : r20_5.toList = [o20_5_0, o20_5_1, o20_5_2] := nrfl rfl
theorem s20_5_0 : stepA E C B 57 r20_5 o20_5_0 (φ, H) = stp (some 28) φ H (justO (aBuild E.T 27 (evO E φ) [])) := nrfl rfl
theorem s20_5_1 : stepA E C B 57 r20_5 o20_5_1 (φ, H) = stp none φ H (opStore E.T 27 (fget φ 6) (fget φ 28)) := nrfl rfl
theorem s20_5_2 : stepA E C B 57 r20_5 o20_5_2 (φ, H) = some (fput φ 7 (.int .i64 2), H) := nrfl rfl
noncomputable def c20_17 : Code := kR c20_15
theorem x20_17 : execA E C (fg 20) B 57 E0 N c20_17 s = some (.ret, s) := x_ret (by rfl) s
theorem x20_15 : execA E C (fg 20) B 57 E0 N c20_15 s = seqX (execA E C (fg 20) B 57 E0 N c20_16 s) (execA E C (fg 20) B 57 E0 N c20_17) := x_seq (by rfl) s
noncomputable def c20_18 : Code := kE c20_14
theorem x20_18 : execA E C (fg 20) B 57 E0 N c20_18 s = some (.normal, s) := x_skip (by rfl) s
theorem x20_14 : execA E C (fg 20) B 57 E0 N c20_14 (φ, H) = condX (fget φ 19) (execA E C (fg 20) B 57 E0 N c20_15 (φ, H)) (execA E C (fg 20) B 57 E0 N c20_18 (φ, H)) := x_cond (by rfl) _
theorem x20_12 : execA E C (fg 20) B 57 E0 N c20_12 s = seqX (execA E C (fg 20) B 57 E0 N c20_13 s) (execA E C (fg 20) B 57 E0 N c20_14) := x_seq (by rfl) s
theorem x20_8 : execA E C (fg 20) B 57 E0 N c20_8 (φ, H) = condX (fget φ 14) (execA E C (fg 20) B 57 E0 N c20_9 (φ, H)) (execA E C (fg 20) B 57 E0 N c20_12 (φ, H)) := x_cond (by rfl) _
theorem x20_6 : execA E C (fg 20) B 57 E0 N c20_6 s = seqX (execA E C (fg 20) B 57 E0 N c20_7 s) (execA E C (fg 20) B 57 E0 N c20_8) := x_seq (by rfl) s
theorem x20_5 : execA E C (fg 20) B 57 E0 N c20_5 s = blockX 0 (fun s => (forget s.1 [19], s.2)) (execA E C (fg 20) B 57 E0 N c20_6 s) := x_block (by rfl) (by rfl) s
noncomputable def c20_19 : Code := kR c20_4
noncomputable def c20_20 : Code := kL c20_19
noncomputable def r20_6 : Array Oper := kO c20_20
noncomputable def o20_6_0 : Oper := opN r20_6 0
noncomputable def o20_6_1 : Oper := opN r20_6 1
noncomputable def o20_6_2 : Oper := opN r20_6 2
noncomputable def o20_6_3 : Oper := opN r20_6 3
noncomputable def o20_6_4 : Oper := opN r20_6 4
noncomputable def o20_6_5 : Oper := opN r20_6 5
noncomputable def o20_6_6 : Oper := opN r20_6 6
noncomputable def o20_6_7 : Oper := opN r20_6 7
theorem x20_20 : execA E C (fg 20) B 57 E0 N c20_20 s = regX (runA E C B 57 r20_6 r20_6.toList s) (fun s => gcM E0 [29, 30, 31, 32, 33, 34] (forget s.1 [29, 30, 31, 32, 33, 34], s.2)) := x_reg (ops := r20_6) (by rfl) (by rfl) s
theorem r20_6_l : r20_6.toList = [o20_6_0, o20_6_1, o20_6_2, o20_6_3, o20_6_4, o20_6_5, o20_6_6, o20_6_7] := nrfl rfl
theorem s20_6_0 : stepA E C B 57 r20_6 o20_6_0 (φ, H) = some (fput φ 29 (fget φ 0), H) := nrfl rfl
theorem s20_6_1 : stepA E C B 57 r20_6 o20_6_1 (φ, H) = some (fput φ 30 (fget φ 1), H) := nrfl rfl
theorem s20_6_2 : stepA E C B 57 r20_6 o20_6_2 (φ, H) = stp (some 31) φ H (aCall C (fun j => B + j * 57 + 31) true 71 [(fget φ 29), (fget φ 30)]) := nrfl rfl
theorem s20_6_3 : stepA E C B 57 r20_6 o20_6_3 (φ, H) = some (fput φ 32 (fget φ 2), H) := nrfl rfl
theorem s20_6_4 : stepA E C B 57 r20_6 o20_6_4 (φ, H) = stp (some 33) φ H (just (aIndexAddr E.T 52 (fget φ 31) (fget φ 32))) := nrfl rfl
theorem s20_6_5 : stepA E C B 57 r20_6 o20_6_5 (φ, H) = stp (some 34) φ H (just (aLoad E.T 27 (fget φ 33))) := nrfl rfl
theorem s20_6_6 : stepA E C B 57 r20_6 o20_6_6 (φ, H) = stp (some 9) φ H (opBox (B + 9) (zeroCells E.T 27)) := nrfl rfl
theorem s20_6_7 : stepA E C B 57 r20_6 o20_6_7 (φ, H) = stp none φ H (opStore E.T 27 (fget φ 9) (fget φ 34)) := nrfl rfl
noncomputable def c20_21 : Code := kR c20_19
noncomputable def c20_22 : Code := kL c20_21
noncomputable def r20_7 : Array Oper := kO c20_22
noncomputable def o20_7_0 : Oper := opN r20_7 0
noncomputable def o20_7_1 : Oper := opN r20_7 1
noncomputable def o20_7_2 : Oper := opN r20_7 2
noncomputable def o20_7_3 : Oper := opN r20_7 3
theorem x20_22 : execA E C (fg 20) B 57 E0 N c20_22 s = regX (runA E C B 57 r20_7 r20_7.toList s) (fun s => gcM E0 [35, 36, 37] (forget s.1 [35, 36, 37], s.2)) := x_reg (ops := r20_7) (by rfl) (by rfl) s
theorem r20_7_l : r20_7.toList = [o20_7_0, o20_7_1, o20_7_2, o20_7_3] := nrfl rfl
theorem s20_7_0 : stepA E C B 57 r20_7 o20_7_0 (φ, H) = some (fput φ 35 (fget φ 1), H) := nrfl rfl
theorem s20_7_1 : stepA E C B 57 r20_7 o20_7_1 (φ, H) = some (fput φ 36 (fget φ 2), H) := nrfl rfl
theorem s20_7_2 : stepA E C B 57 r20_7 o20_7_2 (φ, H) = stp (some 37) φ H (aCall C (fun j => B + j * 57 + 37) true 72 [(fget φ 35), (fget φ 36), (.clo 73 [])]) := nrfl rfl
theorem s20_7_3 : stepA E C B 57 r20_7 o20_7_3 (φ, H) = some (fput φ 10 (fget φ 37), H) := nrfl rfl
noncomputable def c20_23 : Code := kR c20_21
noncomputable def c20_24 : Code := kL c20_23
noncomputable def r20_8 : Array Oper := kO c20_24
noncomputable def o20_8_0 : Oper := opN r20_8 0
noncomputable def o20_8_1 : Oper := opN r20_8 1
noncomputable def o20_8_2 : Oper := opN r20_8 2
noncomputable def o20_8_3 : Oper := opN r20_8 3
noncomputable def o20_8_4 : Oper := opN r20_8 4
noncomputable def o20_8_5 : Oper := opN r20_8 5
noncomputable def o20_8_6 : Oper := opN r20_8 6
noncomputable def o20_8_7 : Oper := opN r20_8 7
noncomputable def o20_8_8 : Oper := opN r20_8 8
noncomputable def o20_8_9 : Oper := opN r20_8 9
noncomputable def o20_8_10 : Oper := opN r20_8 10
noncomputable def o20_8_11 : Oper := opN r20_8 11
noncomputable def o20_8_12 : Oper := opN r20_8 12
noncomputable def o20_8_13 : Oper := opN r20_8 13
noncomputable def o20_8_14 : Oper := opN r20_8 14
noncomputable def o20_8_15 : Oper := opN r20_8 15
noncomputable def o20_8_16 : Oper := opN r20_8 16
noncomputable def o20_8_17 : Oper := opN r20_8 17
noncomputable def o20_8_18 : Oper := opN r20_8 18
noncomputable def o20_8_19 : Oper := opN r20_8 19
noncomputable def o20_8_20 : Oper := opN r20_8 20
theorem x20_24 : execA E C (fg 20) B 57 E0 N c20_24 s = regX (drawA E C B 57 r20_8 s) (fun s => gcM E0 [0, 1, 2, 9, 10, 38, 39, 40, 41, 42, 43, 44, 45, 46, 47, 48, 49, 50, 51, 52, 53, 54, 55, 56] (forget s.1 [0, 1, 2, 9, 10, 38, 39, 40, 41, 42, 43, 44, 45, 46, 47, 48, 49, 50, 51, 52, 53, 54, 55, 56], s.2)) := x_draw (ops := r20_8) (by rfl) (by rfl) s
theorem r20_8_l : r20_8.toList = [o20_8_0, o20_8_1, o20_8_2, o20_8_3, o20_8_4, o20_8_5, o20_8_6, o20_8_7, o20_8_8, o20_8_9, o20_8_10, o20_8_11, o20_8_12, o20_8_13, o20_8_14, o20_8_15, o20_8_16, o20_8_17, o20_8_18, o20_8_19, o20_8_20] := nrfl rfl
theorem r20_8_st : statOk r20_8 = true := by kernel_rfl
theorem r20_8_dr : drawA E C B 57 r20_8 s = if neat 57 s = true then drX r20_8 (runT E C B 57 r20_8 r20_8.toList 0 s) else none := draw_eq r20_8_st s
theorem r20_8_an (l : List (Nat × Tr)) : dynOk r20_8 l = (!writing l || dynPairs [[], [], [], [], [2, 3], [2, 3, 4], [1, 2, 3, 4, 5], [], [], [7, 8], [7, 8, 9], [1, 2, 3, 4, 5, 6, 7, 8, 9, 10], [], [0, 1, 2, 3, 4, 5, 6, 7, 8, 9, 10, 11, 12], [], [], [14, 15], [14, 15, 16], [0, 1, 2, 3, 4, 5, 6, 7, 8, 9, 10, 11, 12, 13, 14, 15, 16, 17], [0, 1, 2, 3, 4, 5, 6, 7, 8, 9, 10, 11, 12, 13, 14, 15, 16, 17, 18], [0, 1, 2, 3, 4, 5, 6, 7, 8, 9, 10, 11, 12, 13, 14, 15, 16, 17, 18, 19]] (touching l)) := dynOk_eq (by kernel_rfl) l
theorem s20_8_0 : stepT E C B 57 r20_8 o20_8_0 (φ, H) = stpT (some 38) φ H (just (aLoad E.T 27 (fget φ 9))) := stT_go rfl (goT_R rfl rfl)
theorem s20_8_1 : stepT E C B 57 r20_8 o20_8_1 (φ, H) = some ((fput φ 39 (fget φ 10), H), ⟨false, [], []⟩) := stT_go rfl (goT_mv rfl rfl)
theorem s20_8_2 : stepT E C B 57 r20_8 o20_8_2 (φ, H) = some ((fput φ 40 (fget φ 1), H), ⟨false, [], []⟩) := stT_go rfl (goT_mv rfl rfl)
theorem s20_8_3 : stepT E C B 57 r20_8 o20_8_3 (φ, H) = some ((fput φ 41 (fget φ 2), H), ⟨false, [], []⟩) := stT_go rfl (goT_mv rfl rfl)
theorem s20_8_4 : stepT E C B 57 r20_8 o20_8_4 (φ, H) = stpT (some 42) φ H (just (aIndexAddr E.T 47 (fget φ 40) (fget φ 41))) := stT_go rfl (goT_R rfl rfl)
theorem s20_8_5 : stepT E C B 57 r20_8 o20_8_5 (φ, H) = stpT (some 43) φ H (just (aLoad E.T 3 (fget φ 42))) := stT_go rfl (goT_R rfl rfl)
theorem s20_8_6 : stepT E C B 57 r20_8 o20_8_6 (φ, H) = stpT (some 44) φ H (just (aBin E.T .sub 3 (fget φ 39) (fget φ 43))) := stT_go rfl (goT_R rfl rfl)
theorem s20_8_7 : stepT E C B 57 r20_8 o20_8_7 (φ, H) = some ((fput φ 45 (fget φ 0), H), ⟨false, [], []⟩) := stT_go rfl (goT_mv rfl rfl)
theorem s20_8_8 : stepT E C B 57 r20_8 o20_8_8 (φ, H) = some ((fput φ 46 (fget φ 2), H), ⟨false, [], []⟩) := stT_go rfl (goT_mv rfl rfl)
theorem s20_8_9 : stepT E C B 57 r20_8 o20_8_9 (φ, H) = stpT (some 47) φ H (just (aIndexAddr E.T 47 (fget φ 45) (fget φ 46))) := stT_go rfl (goT_R rfl rfl)
theorem s20_8_10 : stepT E C B 57 r20_8 o20_8_10 (φ, H) = stpT (some 48) φ H (just (aLoad E.T 3 (fget φ 47))) := stT_go rfl (goT_R rfl rfl)
theorem s20_8_11 : stepT E C B 57 r20_8 o20_8_11 (φ, H) = stpT (some 49) φ H (just (aBin E.T .mul 3 (fget φ 44) (fget φ 48))) := stT_go rfl (goT_R rfl rfl)
theorem s20_8_12 : stepT E C B 57 r20_8 o20_8_12 (φ, H) = some ((fput φ 50 (fget φ 10), H), ⟨false, [], []⟩) := stT_go rfl (goT_mv rfl rfl)
theorem s20_8_13 : stepT E C B 57 r20_8 o20_8_13 (φ, H) = stpT (some 51) φ H (aCall C (fun j => B + j * 57 + 51) true 74 [(fget φ 38), (fget φ 49), (fget φ 50)]) := stT_go rfl (goT_R rfl rfl)
theorem s20_8_14 : stepT E C B 57 r20_8 o20_8_14 (φ, H) = some ((fput φ 52 (fget φ 0), H), ⟨false, [], []⟩) := stT_go rfl (goT_mv rfl rfl)
theorem s20_8_15 : stepT E C B 57 r20_8 o20_8_15 (φ, H) = some ((fput φ 53 (fget φ 2), H), ⟨false, [], []⟩) := stT_go rfl (goT_mv rfl rfl)
theorem s20_8_16 : stepT E C B 57 r20_8 o20_8_16 (φ, H) = stpT (some 54) φ H (just (aIndexAddr E.T 47 (fget φ 52) (fget φ 53))) := stT_go rfl (goT_R rfl rfl)
theorem s20_8_17 : stepT E C B 57 r20_8 o20_8_17 (φ, H) = stpT (some 55) φ H (just (aLoad E.T 3 (fget φ 54))) := stT_go rfl (goT_R rfl rfl)
theorem s20_8_18 : stepT E C B 57 r20_8 o20_8_18 (φ, H) = stpT (some 56) φ H (aCall C (fun j => B + j * 57 + 56) true 74 [(fget φ 51), (fget φ 55), (.int .i64 1)]) := stT_go rfl (goT_R rfl rfl)
theorem s20_8_19 : stepT E C B 57 r20_8 o20_8_19 (φ, H) = stpT none φ H (opStore E.T 27 (fget φ 6) (fget φ 56)) := stT_go rfl (goT_R rfl rfl)
theorem s20_8_20 : stepT E C B 57 r20_8 o20_8_20 (φ, H) = some ((fput φ 7 (.int .i64 0), H), ⟨false, [], []⟩) := stT_go rfl (goT_mv rfl rfl)
noncomputable def c20_25 : Code := kR c20_23
theorem x20_25 : execA E C (fg 20) B 57 E0 N c20_25 s = some (.ret, s) := x_ret (by rfl) s
theorem x20_23 : execA E C (fg 20) B 57 E0 N c20_23 s = seqX (execA E C (fg 20) B 57 E0 N c20_24 s) (execA E C (fg 20) B 57 E0 N c20_25) := x_seq (by rfl) s
theorem x20_21 : execA E C (fg 20) B 57 E0 N c20_21 s = seqX (execA E C (fg 20) B 57 E0 N c20_22 s) (execA E C (fg 20) B 57 E0 N c20_23) := x_seq (by rfl) s
theorem x20_19 : execA E C (fg 20) B 57 E0 N c20_19 s = seqX (execA E C (fg 20) B 57 E0 N c20_20 s) (execA E C (fg 20) B 57 E0 N c20_21) := x_seq (by rfl) s
theorem x20_4 : execA E C (fg 20) B 57 E0 N c20_4 s = seqX (execA E C (fg 20) B 57 E0 N c20_5 s) (execA E C (fg 20) B 57 E0 N c20_19) := x_seq (by rfl) s
theorem x20_2 : execA E C (fg 20) B 57 E0 N c20_2 s = seqX (execA E C (fg 20) B 57 E0 N c20_3 s) (execA E C (fg 20) B 57 E0 N c20_4) := x_seq (by rfl) s
theorem x20_0 : execA E C (fg 20) B 57 E0 N c20_0 s = seqX (execA E C (fg 20) B 57 E0 N c20_1 s) (execA E C (fg 20) B 57 E0 N c20_2) := x_seq (by rfl) s
theorem fi_20 : fInfo E 20 = some ⟨57, #[.cell 6 27, .tmp 7], c20_0⟩ := nrfl rfl
theorem b_20 (args : List AV) : bodyA E C fg N 20 args H B = bodyX E [.cell 6 27, .tmp 7] (execA E C (fg 20) B 57 H N c20_0 (frame0 args 0 [], H)) := bodyA_eq fi_20 args H
noncomputable def c29_0 : Code := kBody Proofs.Try.f29
noncomputable def c29_1 : Code := kL c29_0
noncomputable def r29_0 : Array Oper := kO c29_1
noncomputable def o29_0_0 : Oper := opN r29_0 0
theorem x29_1 : execA E C (fg 29) B 49 E0 N c29_1 s = regX (runA E C B 49 r29_0 r29_0.toList s) (fun s => gcM E0 [4] (forget s.1 [4], s.2)) := x_reg (ops := r29_0) (by rfl) (by rfl) s
theorem r29_0_l : r29_0.toList = [o29_0_0] := nrfl rfl
theorem s29_0_0 : stepA E C B 49 r29_0 o29_0_0 (φ, H) = some (fput φ 4 (.int .i64 0), H) := nrfl rfl
noncomputable def c29_2 : Code := kR c29_0
noncomputable def c29_3 : Code := kL c29_2
noncomputable def c29_4 : Code := kB c29_3
noncomputable def c29_5 : Code := kL c29_4
noncomputable def r29_1 : Array Oper := kO c29_5
noncomputable def o29_1_0 : Oper := opN r29_1 0
noncomputable def o29_1_1 : Oper := opN r29_1 1
noncomputable def o29_1_2 : Oper := opN r29_1 2
noncomputable def o29_1_3 : Oper := opN r29_1 3
theorem x29_5 : execA E C (fg 29) B 49 E0 N c29_5 s = regX (runA E C B 49 r29_1 r29_1.toList s) (fun s => gcM E0 [8, 9, 10] (forget s.1 [8, 9, 10], s.2)) := x_reg (ops := r29_1) (by rfl) (by rfl) s
theorem r29_1_l : r29_1.toList = [o29_1_0, o29_1_1, o29_1_2, o29_1_3] := nrfl rfl
theorem s29_1_0 : stepA E C B 49 r29_1 o29_1_0 (φ, H) = some (fput φ 8 (fget φ 0), H) := nrfl rfl
theorem s29_1_1 : stepA E C B 49 r29_1 o29_1_1 (φ, H) = stp (some 9) φ H (aBuiltin E.T (B + 9) .len #[47] [(fget φ 8)]) := nrfl rfl
theorem s29_1_2 : stepA E C B 49 r29_1 o29_1_2 (φ, H) = stp (some 10) φ H (just (aBin E.T .eql 3 (fget φ 9) (.int .i64 0))) := nrfl rfl
theorem s29_1_3 : stepA E C B 49 r29_1 o29_1_3 (φ, H) = some (fput φ 7 (fget φ 10), H) := nrfl rfl
noncomputable def c29_6 : Code := kR c29_4
noncomputable def c29_7 : Code := kT c29_6
noncomputable def c29_8 : Code := kL c29_7
noncomputable def r29_2 : Array Oper := kO c29_8
noncomputable def o29_2_0 : Oper := opN r29_2 0
theorem x29_8 : execA E C (fg 29) B 49 E0 N c29_8 s = regX (runA E C B 49 r29_2 r29_2.toList s) (fun s => gcM E0 [0, 1, 7] (forget s.1 [0, 1, 7], s.2)) := x_reg (ops := r29_2) (by rfl) (by rfl) s
theorem r29_2_l : r29_2.toList = [o29_2_0] := nrfl rfl
theorem s29_2_0 : stepA E C B 49 r29_2 o29_2_0 (φ, H) = some (fput φ 4 (.int .i64 4), H) := nrfl rfl
noncomputable def c29_9 : Code := kR c29_7
theorem x29_9 : execA E C (fg 29) B 49 E0 N c29_9 s = some (.ret, s) := x_ret (by rfl) s
theorem x29_7 : execA E C (fg 29) B 49 E0 N c29_7 s = seqX (execA E C (fg 29) B 49 E0 N c29_8 s) (execA E C (fg 29) B 49 E0 N c29_9) := x_seq (by rfl) s
noncomputable def c29_10 : Code := kE c29_6
noncomputable def c29_11 : Code := kL c29_10
noncomputable def r29_3 : Array Oper := kO c29_11
noncomputable def o29_3_0 : Oper := opN r29_3 0
noncomputable def o29_3_1 : Oper := opN r29_3 1
noncomputable def o29_3_2 : Oper := opN r29_3 2
noncomputable def o29_3_3 : Oper := opN r29_3 3
theorem x29_11 : execA E C (fg 29) B 49 E0 N c29_11 s = regX (runA E C B 49 r29_3 r29_3.toList s) (fun s => gcM E0 [7, 12, 13, 14] (forget s.1 [7, 12, 13, 14], s.2)) := x_reg (ops := r29_3) (by rfl) (by rfl) s
theorem r29_3_l : r29_3.toList = [o29_3_0, o29_3_1, o29_3_2, o29_3_3] := nrfl rfl
theorem s29_3_0 : stepA E C B 49 r29_3 o29_3_0 (φ, H) = some (fput φ 12 (fget φ 0), H) := nrfl rfl
theorem s29_3_1 : stepA E C B 49 r29_3 o29_3_1 (φ, H) = stp (some 13) φ H (aBuiltin E.T (B + 13) .len #[47] [(fget φ 12)]) := nrfl rfl
theorem s29_3_2 : stepA E C B 49 r29_3 o29_3_2 (φ, H) = stp (some 14) φ H (just (aBin E.T .gtr 3 (fget φ 13) (.int .i64 5))) := nrfl rfl
theorem s29_3_3 : stepA E C B 49 r29_3 o29_3_3 (φ, H) = some (fput φ 11 (fget φ 14), H) := nrfl rfl
noncomputable def c29_12 : Code := kR c29_10
noncomputable def c29_13 : Code := kT c29_12
noncomputable def c29_14 : Code := kL c29_13
noncomputable def r29_4 : Array Oper := kO c29_14
noncomputable def o29_4_0 : Oper := opN r29_4 0
theorem x29_14 : execA E C (fg 29) B 49 E0 N c29_14 s = regX (runA E C B 49 r29_4 r29_4.toList s) (fun s => gcM E0 [0, 1, 11] (forget s.1 [0, 1, 11], s.2)) := x_reg (ops := r29_4) (by rfl) (by rfl) s
theorem r29_4_l : r29_4.toList = [o29_4_0] := nrfl rfl
theorem s29_4_0 : stepA E C B 49 r29_4 o29_4_0 (φ, H) = some (fput φ 4 (.int .i64 3), H) := nrfl rfl
noncomputable def c29_15 : Code := kR c29_13
theorem x29_15 : execA E C (fg 29) B 49 E0 N c29_15 s = some (.ret, s) := x_ret (by rfl) s
theorem x29_13 : execA E C (fg 29) B 49 E0 N c29_13 s = seqX (execA E C (fg 29) B 49 E0 N c29_14 s) (execA E C (fg 29) B 49 E0 N c29_15) := x_seq (by rfl) s
noncomputable def c29_16 : Code := kE c29_12
noncomputable def c29_17 : Code := kL c29_16
noncomputable def r29_5 : Array Oper := kO c29_17
noncomputable def o29_5_0 : Oper := opN r29_5 0
noncomputable def o29_5_1 : Oper := opN r29_5 1
noncomputable def o29_5_2 : Oper := opN r29_5 2
noncomputable def o29_5_3 : Oper := opN r29_5 3
noncomputable def o29_5_4 : Oper := opN r29_5 4
noncomputable def o29_5_5 : Oper := opN r29_5 5
theorem x29_17 : execA E C (fg 29) B 49 E0 N c29_17 s = regX (runA E C B 49 r29_5 r29_5.toList s) (fun s => gcM E0 [11, 16, 17, 18, 19, 20] (forget s.1 [11, 16, 17, 18, 19, 20], s.2)) := x_reg (ops := r29_5) (by rfl) (by rfl) s
theorem r29_5_l : r29_5.toList = [o29_5_0, o29_5_1, o29_5_2, o29_5_3, o29_5_4, o29_5_5] := nrfl rfl
theorem s29_5_0 : stepA E C B 49 r29_5 o29_5_0 (φ, H) = some (fput φ 16 (fget φ 1), H) := nrfl rfl
theorem s29_5_1 : stepA E C B 49 r29_5 o29_5_1 (φ, H) = stp (some 17) φ H (aBuiltin E.T (B + 17) .len #[47] [(fget φ 16)]) := nrfl rfl
theorem s29_5_2 : stepA E C B 49 r29_5 o29_5_2 (φ, H) = some (fput φ 18 (fget φ 0), H) := nrfl rfl
theorem s29_5_3 : stepA E C B 49 r29_5 o29_5_3 (φ, H) = stp (some 19) φ H (aBuiltin E.T (B + 19) .len #[47] [(fget φ 18)]) := nrfl rfl
theorem s29_5_4 : stepA E C B 49 r29_5 o29_5_4 (φ, H) = stp (some 20) φ H (just (aBin E.T .neq 3 (fget φ 17) (fget φ 19))) := nrfl rfl
theorem s29_5_5 : stepA E C B 49 r29_5 o29_5_5 (φ, H) = some (fput φ 15 (fget φ 20), H) := nrfl rfl
noncomputable def c29_18 : Code := kR c29_16
noncomputable def c29_19 : Code := kT c29_18
noncomputable def c29_20 : Code := kL c29_19
noncomputable def r29_6 : Array Oper := kO c29_20
noncomputable def o29_6_0 : Oper := opN r29_6 0
theorem x29_20 : execA E C (fg 29) B 49 E0 N c29_20 s = regX (runA E C B 49 r29_6 r29_6.toList s) (fun s => gcM E0 [0, 1, 15] (forget s.1 [0, 1, 15], s.2)) := x_reg (ops := r29_6) (by rfl) (by rfl) s
theorem r29_6_l : r29_6.toList = [o29_6_0] := nrfl rfl
theorem s29_6_0 : stepA E C B 49 r29_6 o29_6_0 (φ, H) = some (fput φ 4 (.int .i64 5), H) := nrfl rfl
noncomputable def c29_21 : Code := kR c29_19
theorem x29_21 : execA E C (fg 29) B 49 E0 N c29_21 s = some (.ret, s) := x_ret (by rfl) s
theorem x29_19 : execA E C (fg 29) B 49 E0 N c29_19 s = seqX (execA E C (fg 29) B 49 E0 N c29_20 s) (execA E C (fg 29) B 49 E0 N c29_21) := x_seq (by rfl) s
noncomputable def c29_22 : Code := kE c29_18
theorem x29_22 : execA E C (fg 29) B 49 E0 N c29_22 s = some (.normal, s) := x_skip (by rfl) s
theorem x29_18 : execA E C (fg 29) B 49 E0 N c29_18 (φ, H) = condX (fget φ 15) (execA E C (fg 29) B 49 E0 N c29_19 (φ, H)) (execA E C (fg 29) B 49 E0 N c29_22 (φ, H)) := x_cond (by rfl) _
theorem x29_16 : execA E C (fg 29) B 49 E0 N c29_16 s = seqX (execA E C (fg 29) B 49 E0 N c29_17 s) (execA E C (fg 29) B 49 E0 N c29_18) := x_seq (by rfl) s
theorem x29_12 : execA E C (fg 29) B 49 E0 N c29_12 (φ, H) = condX (fget φ 11) (execA E C (fg 29) B 49 E0 N c29_13 (φ, H)) (execA E C (fg 29) B 49 E0 N c29_16 (φ, H)) := x_cond (by rfl) _
theorem x29_10 : execA E C (fg 29) B 49 E0 N c29_10 s = seqX (execA E C (fg 29) B 49 E0 N c29_11 s) (execA E C (fg 29) B 49 E0 N c29_12) := x_seq (by rfl) s
theorem x29_6 : execA E C (fg 29) B 49 E0 N c29_6 (φ, H) = condX (fget φ 7) (execA E C (fg 29) B 49 E0 N c29_7 (φ, H)) (execA E C (fg 29) B 49 E0 N c29_10 (φ, H)) := x_cond (by rfl) _
theorem x29_4 : execA E C (fg 29) B 49 E0 N c29_4 s = seqX (execA E C (fg 29) B 49 E0 N c29_5 s) (execA E C (fg 29) B 49 E0 N c29_6) := x_seq (by rfl) s
theorem x29_3 : execA E C (fg 29) B 49 E0 N c29_3 s = blockX 0 (fun s => (forget s.1 [15], s.2)) (execA E C (fg 29) B 49 E0 N c29_4 s) := x_block (by rfl) (by rfl) s
noncomputable def c29_23 : Code := kR c29_2
noncomputable def c29_24 : Code := kL c29_23
noncomputable def c29_25 : Code := kL c29_24
noncomputable def r29_7 : Array Oper := kO c29_25
noncomputable def o29_7_0 : Oper := opN r29_7 0
noncomputable def o29_7_1 : Oper := opN r29_7 1
noncomputable def o29_7_2 : Oper := opN r29_7 2
theorem x29_25 : execA E C (fg 29) B 49 E0 N c29_25 s = regX (runA E C B 49 r29_7 r29_7.toList s) (fun s => gcM E0 [1] (forget s.1 [1], s.2)) := x_reg (ops := r29_7) (by rfl) (by rfl) s
theorem r29_7_l : r29_7.toList = [o29_7_0, o29_7_1, o29_7_2] := nrfl rfl
theorem s29_7_0 : stepA E C B 49 r29_7 o29_7_0 (φ, H) = some (fput φ 21 (fget φ 1), H) := nrfl rfl
theorem s29_7_1 : stepA E C B 49 r29_7 o29_7_1 (φ, H) = stp (some 22) φ H (aBuiltin E.T (B + 22) .len #[47] [(fget φ 21)]) := nrfl rfl
theorem s29_7_2 : stepA E C B 49 r29_7 o29_7_2 (φ, H) = some (fput φ 23 (.int .i64 0), H) := nrfl rfl
noncomputable def c29_26 : Code := kR c29_24
noncomputable def c29_27 : Code := kB c29_26
noncomputable def c29_28 : Code := kB c29_27
noncomputable def c29_29 : Code := kL c29_28
noncomputable def r29_8 : Array Oper := kO c29_29
noncomputable def o29_8_0 : Oper := opN r29_8 0
theorem x29_29 : execA E C (fg 29) B 49 E0 N c29_29 s = regX (runA E C B 49 r29_8 r29_8.toList s) (fun s => gcM E0 [] (forget s.1 [], s.2)) := x_reg (ops := r29_8) (by rfl) (by rfl) s
theorem r29_8_l : r29_8.toList = [o29_8_0] := nrfl rfl
theorem s29_8_0 : stepA E C B 49 r29_8 o29_8_0 (φ, H) = stp (some 24) φ H (just (aBin E.T .lss 3 (fget φ 23) (fget φ 22))) := nrfl rfl
noncomputable def c29_30 : Code := kR c29_28
noncomputable def c29_31 : Code := kL c29_30
noncomputable def c29_32 : Code := kT c29_31
theorem x29_32 : execA E C (fg 29) B 49 E0 N c29_32 s = some (.normal, s) := x_skip (by rfl) s
noncomputable def c29_33 : Code := kE c29_31
theorem x29_33 : execA E C (fg 29) B 49 E0 N c29_33 s = some (.exit 1, s) := x_exit (by rfl) s
theorem x29_31 : execA E C (fg 29) B 49 E0 N c29_31 (φ, H) = condX (fget φ 24) (execA E C (fg 29) B 49 E0 N c29_32 (φ, H)) (execA E C (fg 29) B 49 E0 N c29_33 (φ, H)) := x_cond (by rfl) _
noncomputable def c29_34 : Code := kR c29_30
noncomputable def c29_35 : Code := kL c29_34
noncomputable def c29_36 : Code := kB c29_35
noncomputable def c29_37 : Code := kL c29_36
noncomputable def r29_9 : Array Oper := kO c29_37
noncomputable def o29_9_0 : Oper := opN r29_9 0
noncomputable def o29_9_1 : Oper := opN r29_9 1
noncomputable def o29_9_2 : Oper := opN r29_9 2
noncomputable def o29_9_3 : Oper := opN r29_9 3
noncomputable def o29_9_4 : Oper := opN r29_9 4
theorem x29_37 : execA E C (fg 29) B 49 E0 N c29_37 s = regX (runA E C B 49 r29_9 r29_9.toList s) (fun s => gcM E0 [24, 25, 26, 27] (forget s.1 [24, 25, 26, 27], s.2)) := x_reg (ops := r29_9) (by rfl) (by rfl) s
theorem r29_9_l : r29_9.toList = [o29_9_0, o29_9_1, o29_9_2, o29_9_3, o29_9_4] := nrfl rfl
theorem s29_9_0 : stepA E C B 49 r29_9 o29_9_0 (φ, H) = some (fput φ 25 (fget φ 23), H) := nrfl rfl
theorem s29_9_1 : stepA E C B 49 r29_9 o29_9_1 (φ, H) = stp (some 26) φ H (just (aIndexAddr E.T 47 (fget φ 21) (fget φ 23))) := nrfl rfl
theorem s29_9_2 : stepA E C B 49 r29_9 o29_9_2 (φ, H) = stp (some 27) φ H (just (aLoad E.T 3 (fget φ 26))) := nrfl rfl
theorem s29_9_3 : stepA E C B 49 r29_9 o29_9_3 (φ, H) = some (fput φ 5 (fget φ 25), H) := nrfl rfl
theorem s29_9_4 : stepA E C B 49 r29_9 o29_9_4 (φ, H) = some (fput φ 6 (fget φ 27), H) := nrfl rfl
noncomputable def c29_38 : Code := kR c29_36
noncomputable def c29_39 : Code := kL c29_38
noncomputable def r29_10 : Array Oper := kO c29_39
noncomputable def o29_10_0 : Oper := opN r29_10 0
noncomputable def o29_10_1 : Oper := opN r29_10 1
noncomputable def o29_10_2 : Oper := opN r29_10 2
noncomputable def o29_10_3 : Oper := opN r29_10 3
noncomputable def o29_10_4 : Oper := opN r29_10 4
noncomputable def o29_10_5 : Oper := opN r29_10 5
noncomputable def o29_10_6 : Oper := opN r29_10 6
noncomputable def o29_10_7 : Oper := opN r29_10 7
noncomputable def o29_10_8 : Oper := opN r29_10 8
noncomputable def o29_10_9 : Oper := opN r29_10 9
noncomputable def o29_10_10 : Oper := opN r29_10 10
noncomputable def o29_10_11 : Oper := opN r29_10 11
noncomputable def o29_10_12 : Oper := opN r29_10 12
noncomputable def o29_10_13 : Oper := opN r29_10 13
noncomputable def o29_10_14 : Oper := opN r29_10 14
noncomputable def o29_10_15 : Oper := opN r29_10 15
noncomputable def o29_10_16 : Oper := opN r29_10 16
noncomputable def o29_10_17 : Oper := opN r29_10 17
noncomputable def o29_10_18 : Oper := opN r29_10 18
noncomputable def o29_10_19 : Oper := opN r29_10 19
theorem x29_39 : execA E C (fg 29) B 49 E0 N c29_39 s = regX (runA E C B 49 r29_10 r29_10.toList s) (fun s => gcM E0 [5, 6, 28, 29, 30, 31, 32, 33, 34, 35, 36, 37, 38, 39, 40, 41, 42, 43, 44, 45, 46] (forget s.1 [5, 6, 28, 29, 30, 31, 32, 33, 34, 35, 36, 37, 38, 39, 40, 41, 42, 43, 44, 45, 46], s.2)) := x_reg (ops := r29_10) (by rfl) (by rfl) s
theorem r29_10_l : r29_10.toList = [o29_10_0, o29_10_1, o29_10_2, o29_10_3, o29_10_4, o29_10_5, o29_10_6, o29_10_7, o29_10_8, o29_10_9, o29_10_10, o29_10_11, o29_10_12, o29_10_13, o29_10_14, o29_10_15, o29_10_16, o29_10_17, o29_10_18, o29_10_19] := nrfl rfl
theorem s29_10_0 : stepA E C B 49 r29_10 o29_10_0 (φ, H) = some (fput φ 28 (fget φ 0), H) := nrfl rfl
theorem s29_10_1 : stepA E C B 49 r29_10 o29_10_1 (φ, H) = some (fput φ 29 (fget φ 5), H) := nrfl rfl
theorem s29_10_2 : stepA E C B 49 r29_10 o29_10_2 (φ, H) = stp (some 30) φ H (just (aIndexAddr E.T 47 (fget φ 28) (fget φ 29))) := nrfl rfl
theorem s29_10_3 : stepA E C B 49 r29_10 o29_10_3 (φ, H) = stp (some 31) φ H (just (aLoad E.T 3 (fget φ 30))) := nrfl rfl
theorem s29_10_4 : stepA E C B 49 r29_10 o29_10_4 (φ, H) = stp (some 32) φ H (just (aBin E.T .lss 3 (fget φ 31) (.int .i64 1))) := nrfl rfl
theorem s29_10_5 : stepA E C B 49 r29_10 o29_10_5 (φ, H) = some (fput φ 33 (fget φ 32), H) := nrfl rfl
theorem s29_10_6 : stepA E C B 49 r29_10 o29_10_6 (φ, H) = gd φ 33 false (fun φ => some (fput φ 34 (.tup []), H)) (fun φ => some (fput φ 34 (fget φ 0), H)) := s_gd (j := 5) (oj := o29_10_5) rfl rfl rfl (fun _ => rfl) (fun _ => rfl)
theorem s29_10_7 : stepA E C B 49 r29_10 o29_10_7 (φ, H) = gd φ 33 false (fun φ => some (fput φ 35 (.tup []), H)) (fun φ => some (fput φ 35 (fget φ 5), H)) := s_gd (j := 5) (oj := o29_10_5) rfl rfl rfl (fun _ => rfl) (fun _ => rfl)
theorem s29_10_8 : stepA E C B 49 r29_10 o29_10_8 (φ, H) = gd φ 33 false (fun φ => some (fput φ 36 (.tup []), H)) (fun φ => stp (some 36) φ H (just (aIndexAddr E.T 47 (fget φ 34) (fget φ 35)))) := s_gd (j := 5) (oj := o29_10_5) rfl rfl rfl (fun _ => rfl) (fun _ => rfl)
theorem s29_10_9 : stepA E C B 49 r29_10 o29_10_9 (φ, H) = gd φ 33 false (fun φ => some (fput φ 37 (.tup []), H)) (fun φ => stp (some 37) φ H (just (aLoad E.T 3 (fget φ 36)))) := s_gd (j := 5) (oj := o29_10_5) rfl rfl rfl (fun _ => rfl) (fun _ => rfl)
theorem s29_10_10 : stepA E C B 49 r29_10 o29_10_10 (φ, H) = gd φ 33 false (fun φ => some (fput φ 38 (.tup []), H)) (fun φ => stp (some 38) φ H (just (aBin E.T .gtr 3 (fget φ 37) (.int .i64 4194304)))) := s_gd (j := 5) (oj := o29_10_5) rfl rfl rfl (fun _ => rfl) (fun _ => rfl)
theorem s29_10_11 : stepA E C B 49 r29_10 o29_10_11 (φ, H) = stp (some 39) φ H (opPick (fget φ 33) (.bool true) (fget φ 38)) := nrfl rfl
theorem s29_10_12 : stepA E C B 49 r29_10 o29_10_12 (φ, H) = some (fput φ 40 (fget φ 39), H) := nrfl rfl
theorem s29_10_13 : stepA E C B 49 r29_10 o29_10_13 (φ, H) = gd φ 40 false (fun φ => some (fput φ 41 (.tup []), H)) (fun φ => some (fput φ 41 (fget φ 6), H)) := s_gd (j := 12) (oj := o29_10_12) rfl rfl rfl (fun _ => rfl) (fun _ => rfl)
theorem s29_10_14 : stepA E C B 49 r29_10 o29_10_14 (φ, H) = gd φ 40 false (fun φ => some (fput φ 42 (.tup []), H)) (fun φ => stp (some 42) φ H (just (aBin E.T .lss 3 (fget φ 41) (.int .i64 1)))) := s_gd (j := 12) (oj := o29_10_12) rfl rfl rfl (fun _ => rfl) (fun _ => rfl)
theorem s29_10_15 : stepA E C B 49 r29_10 o29_10_15 (φ, H) = stp (some 43) φ H (opPick (fget φ 40) (.bool true) (fget φ 42)) := nrfl rfl
theorem s29_10_16 : stepA E C B 49 r29_10 o29_10_16 (φ, H) = some (fput φ 44 (fget φ 43), H) := nrfl rfl
theorem s29_10_17 : stepA E C B 49 r29_10 o29_10_17 (φ, H) = gd φ 44 false (fun φ => some (fput φ 45 (.tup []), H)) (fun φ => some (fput φ 45 (fget φ 6), H)) := s_gd (j := 16) (oj := o29_10_16) rfl rfl rfl (fun _ => rfl) (fun _ => rfl)
theorem s29_10_18 : stepA E C B 49 r29_10 o29_10_18 (φ, H) = gd φ 44 false (fun φ => some (fput φ 46 (.tup []), H)) (fun φ => stp (some 46) φ H (just (aBin E.T .gtr 3 (fget φ 45) (.int .i64 9)))) := s_gd (j := 16) (oj := o29_10_16) rfl rfl rfl (fun _ => rfl) (fun _ => rfl)
theorem s29_10_19 : stepA E C B 49 r29_10 o29_10_19 (φ, H) = stp (some 47) φ H (opPick (fget φ 44) (.bool true) (fget φ 46)) := nrfl rfl
noncomputable def c29_40 : Code := kR c29_38
noncomputable def c29_41 : Code := kT c29_40
noncomputable def c29_42 : Code := kL c29_41
noncomputable def r29_11 : Array Oper := kO c29_42
noncomputable def o29_11_0 : Oper := opN r29_11 0
theorem x29_42 : execA E C (fg 29) B 49 E0 N c29_42 s = regX (runA E C B 49 r29_11 r29_11.toList s) (fun s => gcM E0 [0, 21, 22, 23, 47] (forget s.1 [0, 21, 22, 23, 47], s.2)) := x_reg (ops := r29_11) (by rfl) (by rfl) s
theorem r29_11_l : r29_11.toList = [o29_11_0] := nrfl rfl
theorem s29_11_0 : stepA E C B 49 r29_11 o29_11_0 (φ, H) = some (fput φ 4 (.int .i64 1), H) := nrfl rfl
noncomputable def c29_43 : Code := kR c29_41
theorem x29_43 : execA E C (fg 29) B 49 E0 N c29_43 s = some (.ret, s) := x_ret (by rfl) s
theorem x29_41 : execA E C (fg 29) B 49 E0 N c29_41 s = seqX (execA E C (fg 29) B 49 E0 N c29_42 s) (execA E C (fg 29) B 49 E0 N c29_43) := x_seq (by rfl) s
noncomputable def c29_44 : Code := kE c29_40
theorem x29_44 : execA E C (fg 29) B 49 E0 N c29_44 s = some (.normal, s) := x_skip (by rfl) s
theorem x29_40 : execA E C (fg 29) B 49 E0 N c29_40 (φ, H) = condX (fget φ 47) (execA E C (fg 29) B 49 E0 N c29_41 (φ, H)) (execA E C (fg 29) B 49 E0 N c29_44 (φ, H)) := x_cond (by rfl) _
theorem x29_38 : execA E C (fg 29) B 49 E0 N c29_38 s = seqX (execA E C (fg 29) B 49 E0 N c29_39 s) (execA E C (fg 29) B 49 E0 N c29_40) := x_seq (by rfl) s
theorem x29_36 : execA E C (fg 29) B 49 E0 N c29_36 s = seqX (execA E C (fg 29) B 49 E0 N c29_37 s) (execA E C (fg 29) B 49 E0 N c29_38) := x_seq (by rfl) s
theorem x29_35 : execA E C (fg 29) B 49 E0 N c29_35 s = blockX 2 (fun s => (forget s.1 [47], s.2)) (execA E C (fg 29) B 49 E0 N c29_36 s) := x_block (by rfl) (by rfl) s
noncomputable def c29_45 : Code := kR c29_34
noncomputable def r29_12 : Array Oper := kO c29_45
noncomputable def o29_12_0 : Oper := opN r29_12 0
noncomputable def o29_12_1 : Oper := opN r29_12 1
theorem x29_45 : execA E C (fg 29) B 49 E0 N c29_45 s = regX (runA E C B 49 r29_12 r29_12.toList s) (fun s => gcM E0 [48] (forget s.1 [48], s.2)) := x_reg (ops := r29_12) (by rfl) (by rfl) s
theorem r29_12_l : r29_12.toList = [o29_12_0, o29_12_1] := nrfl rfl
theorem s29_12_0 : stepA E C B 49 r29_12 o29_12_0 (φ, H) = stp (some 48) φ H (just (aBin E.T .add 3 (fget φ 23) (.int .i64 1))) := nrfl rfl
theorem s29_12_1 : stepA E C B 49 r29_12 o29_12_1 (φ, H) = some (fput φ 23 (fget φ 48), H) := nrfl rfl
theorem x29_34 : execA E C (fg 29) B 49 E0 N c29_34 s = seqX (execA E C (fg 29) B 49 E0 N c29_35 s) (execA E C (fg 29) B 49 E0 N c29_45) := x_seq (by rfl) s
theorem x29_30 : execA E C (fg 29) B 49 E0 N c29_30 s = seqX (execA E C (fg 29) B 49 E0 N c29_31 s) (execA E C (fg 29) B 49 E0 N c29_34) := x_seq (by rfl) s
theorem x29_28 : execA E C (fg 29) B 49 E0 N c29_28 s = seqX (execA E C (fg 29) B 49 E0 N c29_29 s) (execA E C (fg 29) B 49 E0 N c29_30) := x_seq (by rfl) s
theorem x29_27 : execA E C (fg 29) B 49 E0 N c29_27 s = iterA (execA E C (fg 29) B 49 E0 N c29_28) (headA E0) N s := x_loop (by rfl) s
theorem x29_26 : execA E C (fg 29) B 49 E0 N c29_26 s = blockX 1 (fun s => (forget s.1 [0, 21, 22, 23, 24], s.2)) (execA E C (fg 29) B 49 E0 N c29_27 s) := x_block (by rfl) (by rfl) s
theorem x29_24 : execA E C (fg 29) B 49 E0 N c29_24 s = seqX (execA E C (fg 29) B 49 E0 N c29_25 s) (execA E C (fg 29) B 49 E0 N c29_26) := x_seq (by rfl) s
noncomputable def c29_46 : Code := kR c29_23
noncomputable def c29_47 : Code := kL c29_46
noncomputable def r29_13 : Array Oper := kO c29_47
noncomputable def o29_13_0 : Oper := opN r29_13 0
theorem x29_47 : execA E C (fg 29) B 49 E0 N c29_47 s = regX (runA E C B 49 r29_13 r29_13.toList s) (fun s => gcM E0 [] (forget s.1 [], s.2)) := x_reg (ops := r29_13) (by rfl) (by rfl) s
theorem r29_13_l : r29_13.toList = [o29_13_0] := nrfl rfl
theorem s29_13_0 : stepA E C B 49 r29_13 o29_13_0 (φ, H) = some (fput φ 4 (.int .i64 0), H) := nrfl rfl
noncomputable def c29_48 : Code := kR c29_46
theorem x29_48 : execA E C (fg 29) B 49 E0 N c29_48 s = some (.ret, s) := x_ret (by rfl) s
theorem x29_46 : execA E C (fg 29) B 49 E0 N c29_46 s = seqX (execA E C (fg 29) B 49 E0 N c29_47 s) (execA E C (fg 29) B 49 E0 N c29_48) := x_seq (by rfl) s
theorem x29_23 : execA E C (fg 29) B 49 E0 N c29_23 s = seqX (execA E C (fg 29) B 49 E0 N c29_24 s) (execA E C (fg 29) B 49 E0 N c29_46) := x_seq (by rfl) s
theorem x29_2 : execA E C (fg 29) B 49 E0 N c29_2 s = seqX (execA E C (fg 29) B 49 E0 N c29_3 s) (execA E C (fg 29) B 49 E0 N c29_23) := x_seq (by rfl) s
theorem x29_0 : execA E C (fg 29) B 49 E0 N c29_0 s = seqX (execA E C (fg 29) B 49 E0 N c29_1 s) (execA E C (fg 29) B 49 E0 N c29_2) := x_seq (by rfl) s
theorem fi_29 : fInfo E 29 = some ⟨49, #[.tmp 4], c29_0⟩ := nrfl rfl
theorem b_29 (args : List AV) : bodyA E C fg N 29 args H B = bodyX E [.tmp 4] (execA E C (fg 29) B 49 H N c29_0 (frame0 args 0 [], H)) := bodyA_eq fi_29 args H
noncomputable def c22_0 : Code := kBody Proofs.Try.f22
noncomputable def c22_1 : Code := kL c22_0
noncomputable def r22_0 : Array Oper := kO c22_1
noncomputable def o22_0_0 : Oper := opN r22_0 0
noncomputable def o22_0_1 : Oper := opN r22_0 1
theorem x22_1 : execA E C (fg 22) B 40 E0 N c22_1 s = regX (runA E C B 40 r22_0 r22_0.toList s) (fun s => gcM E0 [4, 5] (forget s.1 [4, 5], s.2)) := x_reg (ops := r22_0) (by rfl) (by rfl) s
theorem r22_0_l : r22_0.toList = [o22_0_0, o22_0_1] := nrfl rfl
theorem s22_0_0 : stepA E C B 40 r22_0 o22_0_0 (φ, H) = some (fput φ 4 (.nilsl), H) := nrfl rfl
theorem s22_0_1 : stepA E C B 40 r22_0 o22_0_1 (φ, H) = some (fput φ 5 (.int .i64 0), H) := nrfl rfl
noncomputable def c22_2 : Code := kR c22_0
noncomputable def c22_3 : Code := kL c22_2
noncomputable def c22_4 : Code := kL c22_3
noncomputable def r22_1 : Array Oper := kO c22_4
noncomputable def o22_1_0 : Oper := opN r22_1 0
noncomputable def o22_1_1 : Oper := opN r22_1 1
noncomputable def o22_1_2 : Oper := opN r22_1 2
noncomputable def o22_1_3 : Oper := opN r22_1 3
theorem x22_4 : execA E C (fg 22) B 40 E0 N c22_4 s = regX (runA E C B 40 r22_1 r22_1.toList s) (fun s => gcM E0 [11, 12, 13] (forget s.1 [11, 12, 13], s.2)) := x_reg (ops := r22_1) (by rfl) (by rfl) s
theorem r22_1_l : r22_1.toList = [o22_1_0, o22_1_1, o22_1_2, o22_1_3] := nrfl rfl
theorem s22_1_0 : stepA E C B 40 r22_1 o22_1_0 (φ, H) = some (fput φ 11 (fget φ 0), H) := nrfl rfl
theorem s22_1_1 : stepA E C B 40 r22_1 o22_1_1 (φ, H) = some (fput φ 12 (fget φ 1), H) := nrfl rfl
theorem s22_1_2 : stepA E C B 40 r22_1 o22_1_2 (φ, H) = stp (some 13) φ H (aCall C (fun j => B + j * 40 + 13) true 29 [(fget φ 11), (fget φ 12)]) := nrfl rfl
theorem s22_1_3 : stepA E C B 40 r22_1 o22_1_3 (φ, H) = some (fput φ 6 (fget φ 13), H) := nrfl rfl
noncomputable def c22_5 : Code := kR c22_3
noncomputable def c22_6 : Code := kL c22_5
noncomputable def r22_2 : Array Oper := kO c22_6
noncomputable def o22_2_0 : Oper := opN r22_2 0
noncomputable def o22_2_1 : Oper := opN r22_2 1
theorem x22_6 : execA E C (fg 22) B 40 E0 N c22_6 s = regX (runA E C B 40 r22_2 r22_2.toList s) (fun s => gcM E0 [14] (forget s.1 [14], s.2)) := x_reg (ops := r22_2) (by rfl) (by rfl) s
theorem r22_2_l : r22_2.toList = [o22_2_0, o22_2_1] := nrfl rfl
theorem s22_2_0 : stepA E C B 40 r22_2 o22_2_0 (φ, H) = some (fput φ 14 (fget φ 6), H) := nrfl rfl
theorem s22_2_1 : stepA E C B 40 r22_2 o22_2_1 (φ, H) = stp (some 15) φ H (just (aBin E.T .neq 28 (fget φ 14) (.int .i64 0))) := nrfl rfl
noncomputable def c22_7 : Code := kR c22_5
noncomputable def c22_8 : Code := kT c22_7
noncomputable def c22_9 : Code := kL c22_8
noncomputable def r22_3 : Array Oper := kO c22_9
noncomputable def o22_3_0 : Oper := opN r22_3 0
noncomputable def o22_3_1 : Oper := opN r22_3 1
noncomputable def o22_3_2 : Oper := opN r22_3 2
theorem x22_9 : execA E C (fg 22) B 40 E0 N c22_9 s = regX (runA E C B 40 r22_3 r22_3.toList s) (fun s => gcM E0 [0, 1, 6, 15, 16] (forget s.1 [0, 1, 6, 15, 16], s.2)) := x_reg (ops := r22_3) (by rfl) (by rfl) s
theorem r22_3_l : r22_3.toList = [o22_3_0, o22_3_1, o22_3_2] := nrfl rfl
theorem s22_3_0 : stepA E C B 40 r22_3 o22_3_0 (φ, H) = some (fput φ 16 (fget φ 6), H) := nrfl rfl
theorem s22_3_1 : stepA E C B 40 r22_3 o22_3_1 (φ, H) = some (fput φ 4 (.nilsl), H) := nrfl rfl
theorem s22_3_2 : stepA E C B 40 r22_3 o22_3_2 (φ, H) = some (fput φ 5 (fget φ 16), H) := nrfl rfl
noncomputable def c22_10 : Code := kR c22_8
theorem x22_10 : execA E C (fg 22) B 40 E0 N c22_10 s = some (.ret, s) := x_ret (by rfl) s
theorem x22_8 : execA E C (fg 22) B 40 E0 N c22_8 s = seqX (execA E C (fg 22) B 40 E0 N c22_9 s) (execA E C (fg 22) B 40 E0 N c22_10) := x_seq (by rfl) s
noncomputable def c22_11 : Code := kE c22_7
theorem x22_11 : execA E C (fg 22) B 40 E0 N c22_11 s = some (.normal, s) := x_skip (by rfl) s
theorem x22_7 : execA E C (fg 22) B 40 E0 N c22_7 (φ, H) = condX (fget φ 15) (execA E C (fg 22) B 40 E0 N c22_8 (φ, H)) (execA E C (fg 22) B 40 E0 N c22_11 (φ, H)) := x_cond (by rfl) _
theorem x22_5 : execA E C (fg 22) B 40 E0 N c22_5 s = seqX (execA E C (fg 22) B 40 E0 N c22_6 s) (execA E C (fg 22) B 40 E0 N c22_7) := x_seq (by rfl) s
theorem x22_3 : execA E C (fg 22) B 40 E0 N c22_3 s = seqX (execA E C (fg 22) B 40 E0 N c22_4 s) (execA E C (fg 22) B 40 E0 N c22_5) := x_seq (by rfl) s
noncomputable def c22_12 : Code := kR c22_2
noncomputable def c22_13 : Code := kL c22_12
noncomputable def r22_4 : Array Oper := kO c22_13
noncomputable def o22_4_0 : Oper := opN r22_4 0
noncomputable def o22_4_1 : Oper := opN r22_4 1
noncomputable def o22_4_2 : Oper := opN r22_4 2
noncomputable def o22_4_3 : Oper := opN r22_4 3
theorem x22_13 : execA E C (fg 22) B 40 E0 N c22_13 s = regX (runA E C B 40 r22_4 r22_4.toList s) (fun s => gcM E0 [1, 6, 15, 17, 18, 19] (forget s.1 [1, 6, 15, 17, 18, 19], s.2)) := x_reg (ops := r22_4) (by rfl) (by rfl) s
theorem r22_4_l : r22_4.toList = [o22_4_0, o22_4_1, o22_4_2, o22_4_3] := nrfl rfl
theorem s22_4_0 : stepA E C B 40 r22_4 o22_4_0 (φ, H) = some (fput φ 17 (fget φ 0), H) := nrfl rfl
theorem s22_4_1 : stepA E C B 40 r22_4 o22_4_1 (φ, H) = some (fput φ 18 (fget φ 1), H) := nrfl rfl
theorem s22_4_2 : stepA E C B 40 r22_4 o22_4_2 (φ, H) = stp (some 19) φ H (aCall C (fun j => B + j * 40 + 19) true 71 [(fget φ 17), (fget φ 18)]) := nrfl rfl
theorem s22_4_3 : stepA E C B 40 r22_4 o22_4_3 (φ, H) = some (fput φ 7 (fget φ 19), H) := nrfl rfl
noncomputable def c22_14 : Code := kR c22_12
noncomputable def c22_15 : Code := kL c22_14
noncomputable def r22_5 : Array Oper := kO c22_15
noncomputable def o22_5_0 : Oper := opN r22_5 0
theorem x22_15 : execA E C (fg 22) B 40 E0 N c22_15 s = regX (runA E C B 40 r22_5 r22_5.toList s) (fun s => gcM E0 [] (forget s.1 [], s.2)) := x_reg (ops := r22_5) (by rfl) (by rfl) s
theorem r22_5_l : r22_5.toList = [o22_5_0] := nrfl rfl
theorem s22_5_0 : stepA E C B 40 r22_5 o22_5_0 (φ, H) = some (fput φ 8 (.nilsl), H) := nrfl rfl
noncomputable def c22_16 : Code := kR c22_14
noncomputable def c22_17 : Code := kL c22_16
noncomputable def c22_18 : Code := kL c22_17
noncomputable def r22_6 : Array Oper := kO c22_18
noncomputable def o22_6_0 : Oper := opN r22_6 0
noncomputable def o22_6_1 : Oper := opN r22_6 1
noncomputable def o22_6_2 : Oper := opN r22_6 2
theorem x22_18 : execA E C (fg 22) B 40 E0 N c22_18 s = regX (runA E C B 40 r22_6 r22_6.toList s) (fun s => gcM E0 [0] (forget s.1 [0], s.2)) := x_reg (ops := r22_6) (by rfl) (by rfl) s
theorem r22_6_l : r22_6.toList = [o22_6_0, o22_6_1, o22_6_2] := nrfl rfl
theorem s22_6_0 : stepA E C B 40 r22_6 o22_6_0 (φ, H) = some (fput φ 20 (fget φ 0), H) := nrfl rfl
theorem s22_6_1 : stepA E C B 40 r22_6 o22_6_1 (φ, H) = stp (some 21) φ H (aBuiltin E.T (B + 21) .len #[47] [(fget φ 20)]) := nrfl rfl
theorem s22_6_2 : stepA E C B 40 r22_6 o22_6_2 (φ, H) = some (fput φ 22 (.int .i64 0), H) := nrfl rfl
noncomputable def c22_19 : Code := kR c22_17
noncomputable def c22_20 : Code := kB c22_19
noncomputable def c22_21 : Code := kB c22_20
noncomputable def c22_22 : Code := kL c22_21
noncomputable def r22_7 : Array Oper := kO c22_22
noncomputable def o22_7_0 : Oper := opN r22_7 0
theorem x22_22 : execA E C (fg 22) B 40 E0 N c22_22 s = regX (runA E C B 40 r22_7 r22_7.toList s) (fun s => gcM E0 [] (forget s.1 [], s.2)) := x_reg (ops := r22_7) (by rfl) (by rfl) s
theorem r22_7_l : r22_7.toList = [o22_7_0] := nrfl rfl
theorem s22_7_0 : stepA E C B 40 r22_7 o22_7_0 (φ, H) = stp (some 23) φ H (just (aBin E.T .lss 3 (fget φ 22) (fget φ 21))) := nrfl rfl
noncomputable def c22_23 : Code := kR c22_21
noncomputable def c22_24 : Code := kL c22_23
noncomputable def c22_25 : Code := kT c22_24
theorem x22_25 : execA E C (fg 22) B 40 E0 N c22_25 s = some (.normal, s) := x_skip (by rfl) s
noncomputable def c22_26 : Code := kE c22_24
theorem x22_26 : execA E C (fg 22) B 40 E0 N c22_26 s = some (.exit 0, s) := x_exit (by rfl) s
theorem x22_24 : execA E C (fg 22) B 40 E0 N c22_24 (φ, H) = condX (fget φ 23) (execA E C (fg 22) B 40 E0 N c22_25 (φ, H)) (execA E C (fg 22) B 40 E0 N c22_26 (φ, H)) := x_cond (by rfl) _
noncomputable def c22_27 : Code := kR c22_23
noncomputable def c22_28 : Code := kL c22_27
noncomputable def c22_29 : Code := kB c22_28
noncomputable def c22_30 : Code := kL c22_29
noncomputable def r22_8 : Array Oper := kO c22_30
noncomputable def o22_8_0 : Oper := opN r22_8 0
noncomputable def o22_8_1 : Oper := opN r22_8 1
noncomputable def o22_8_2 : Oper := opN r22_8 2
noncomputable def o22_8_3 : Oper := opN r22_8 3
noncomputable def o22_8_4 : Oper := opN r22_8 4
theorem x22_30 : execA E C (fg 22) B 40 E0 N c22_30 s = regX (runA E C B 40 r22_8 r22_8.toList s) (fun s => gcM E0 [23, 24, 25, 26] (forget s.1 [23, 24, 25, 26], s.2)) := x_reg (ops := r22_8) (by rfl) (by rfl) s
theorem r22_8_l : r22_8.toList = [o22_8_0, o22_8_1, o22_8_2, o22_8_3, o22_8_4] := nrfl rfl
theorem s22_8_0 : stepA E C B 40 r22_8 o22_8_0 (φ, H) = some (fput φ 24 (fget φ 22), H) := nrfl rfl
theorem s22_8_1 : stepA E C B 40 r22_8 o22_8_1 (φ, H) = stp (some 25) φ H (just (aIndexAddr E.T 47 (fget φ 20) (fget φ 22))) := nrfl rfl
theorem s22_8_2 : stepA E C B 40 r22_8 o22_8_2 (φ, H) = stp (some 26) φ H (just (aLoad E.T 3 (fget φ 25))) := nrfl rfl
theorem s22_8_3 : stepA E C B 40 r22_8 o22_8_3 (φ, H) = some (fput φ 9 (fget φ 24), H) := nrfl rfl
theorem s22_8_4 : stepA E C B 40 r22_8 o22_8_4 (φ, H) = some (fput φ 10 (fget φ 26), H) := nrfl rfl
noncomputable def c22_31 : Code := kR c22_29
noncomputable def r22_9 : Array Oper := kO c22_31
noncomputable def o22_9_0 : Oper := opN r22_9 0
noncomputable def o22_9_1 : Oper := opN r22_9 1
noncomputable def o22_9_2 : Oper := opN r22_9 2
noncomputable def o22_9_3 : Oper := opN r22_9 3
noncomputable def o22_9_4 : Oper := opN r22_9 4
noncomputable def o22_9_5 : Oper := opN r22_9 5
noncomputable def o22_9_6 : Oper := opN r22_9 6
noncomputable def o22_9_7 : Oper := opN r22_9 7
noncomputable def o22_9_8 : Oper := opN r22_9 8
noncomputable def o22_9_9 : Oper := opN r22_9 9
noncomputable def o22_9_10 : Oper := opN r22_9 10
noncomputable def o22_9_11 : Oper := opN r22_9 11
theorem x22_31 : execA E C (fg 22) B 40 E0 N c22_31 s = regX (runA E C B 40 r22_9 r22_9.toList s) (fun s => gcM E0 [9, 10, 27, 28, 29, 30, 31, 32, 33, 34, 35, 36, 37] (forget s.1 [9, 10, 27, 28, 29, 30, 31, 32, 33, 34, 35, 36, 37], s.2)) := x_reg (ops := r22_9) (by rfl) (by rfl) s
theorem r22_9_l : r22_9.toList = [o22_9_0, o22_9_1, o22_9_2, o22_9_3, o22_9_4, o22_9_5, o22_9_6, o22_9_7, o22_9_8, o22_9_9, o22_9_10, o22_9_11] := nrfl rfl
theorem s22_9_0 : stepA E C B 40 r22_9 o22_9_0 (φ, H) = some (fput φ 27 (fget φ 8), H) := nrfl rfl
theorem s22_9_1 : stepA E C B 40 r22_9 o22_9_1 (φ, H) = some (fput φ 28 (fget φ 7), H) := nrfl rfl
theorem s22_9_2 : stepA E C B 40 r22_9 o22_9_2 (φ, H) = some (fput φ 29 (fget φ 9), H) := nrfl rfl
theorem s22_9_3 : stepA E C B 40 r22_9 o22_9_3 (φ, H) = stp (some 30) φ H (just (aBin E.T .add 3 (fget φ 29) (.int .i64 1))) := nrfl rfl
theorem s22_9_4 : stepA E C B 40 r22_9 o22_9_4 (φ, H) = stp (some 31) φ H (just (aIndexAddr E.T 52 (fget φ 28) (fget φ 30))) := nrfl rfl
theorem s22_9_5 : stepA E C B 40 r22_9 o22_9_5 (φ, H) = stp (some 32) φ H (just (aLoad E.T 27 (fget φ 31))) := nrfl rfl
theorem s22_9_6 : stepA E C B 40 r22_9 o22_9_6 (φ, H) = some (fput φ 33 (fget φ 10), H) := nrfl rfl
theorem s22_9_7 : stepA E C B 40 r22_9 o22_9_7 (φ, H) = stp (some 34) φ H (justO (aUn .neg (fget φ 33))) := nrfl rfl
theorem s22_9_8 : stepA E C B 40 r22_9 o22_9_8 (φ, H) = stp (some 35) φ H (aCall C (fun j => B + j * 40 + 35) true 74 [(fget φ 32), (fget φ 34), (.int .i64 1)]) := nrfl rfl
theorem s22_9_9 : stepA E C B 40 r22_9 o22_9_9 (φ, H) = stp (some 36) φ H (aBuildSlice E.T (B + 36) 52 1 (evO E φ) [(0, Operand.tmp 35)]) := nrfl rfl
theorem s22_9_10 : stepA E C B 40 r22_9 o22_9_10 (φ, H) = stp (some 37) φ H (aBuiltin E.T (B + 37) .append #[52, 52] [(fget φ 27), (fget φ 36)]) := nrfl rfl
theorem s22_9_11 : stepA E C B 40 r22_9 o22_9_11 (φ, H) = some (fput φ 8 (fget φ 37), H) := nrfl rfl
theorem x22_29 : execA E C (fg 22) B 40 E0 N c22_29 s = seqX (execA E C (fg 22) B 40 E0 N c22_30 s) (execA E C (fg 22) B 40 E0 N c22_31) := x_seq (by rfl) s
theorem x22_28 : execA E C (fg 22) B 40 E0 N c22_28 s = blockX 1 (fun s => (forget s.1 [], s.2)) (execA E C (fg 22) B 40 E0 N c22_29 s) := x_block (by rfl) (by rfl) s
noncomputable def c22_32 : Code := kR c22_27
noncomputable def r22_10 : Array Oper := kO c22_32
noncomputable def o22_10_0 : Oper := opN r22_10 0
noncomputable def o22_10_1 : Oper := opN r22_10 1
theorem x22_32 : execA E C (fg 22) B 40 E0 N c22_32 s = regX (runA E C B 40 r22_10 r22_10.toList s) (fun s => gcM E0 [38] (forget s.1 [38], s.2)) := x_reg (ops := r22_10) (by rfl) (by rfl) s
theorem r22_10_l : r22_10.toList = [o22_10_0, o22_10_1] := nrfl rfl
theorem s22_10_0 : stepA E C B 40 r22_10 o22_10_0 (φ, H) = stp (some 38) φ H (just (aBin E.T .add 3 (fget φ 22) (.int .i64 1))) := nrfl rfl
theorem s22_10_1 : stepA E C B 40 r22_10 o22_10_1 (φ, H) = some (fput φ 22 (fget φ 38), H) := nrfl rfl
theorem x22_27 : execA E C (fg 22) B 40 E0 N c22_27 s = seqX (execA E C (fg 22) B 40 E0 N c22_28 s) (execA E C (fg 22) B 40 E0 N c22_32) := x_seq (by rfl) s
theorem x22_23 : execA E C (fg 22) B 40 E0 N c22_23 s = seqX (execA E C (fg 22) B 40 E0 N c22_24 s) (execA E C (fg 22) B 40 E0 N c22_27) := x_seq (by rfl) s
theorem x22_21 : execA E C (fg 22) B 40 E0 N c22_21 s = seqX (execA E C (fg 22) B 40 E0 N c22_22 s) (execA E C (fg 22) B 40 E0 N c22_23) := x_seq (by rfl) s
theorem x22_20 : execA E C (fg 22) B 40 E0 N c22_20 s = iterA (execA E C (fg 22) B 40 E0 N c22_21) (headA E0) N s := x_loop (by rfl) s
theorem x22_19 : execA E C (fg 22) B 40 E0 N c22_19 s = blockX 0 (fun s => (forget s.1 [7, 20, 21, 22, 23], s.2)) (execA E C (fg 22) B 40 E0 N c22_20 s) := x_block (by rfl) (by rfl) s
theorem x22_17 : execA E C (fg 22) B 40 E0 N c22_17 s = seqX (execA E C (fg 22) B 40 E0 N c22_18 s) (execA E C (fg 22) B 40 E0 N c22_19) := x_seq (by rfl) s
noncomputable def c22_33 : Code := kR c22_16
noncomputable def c22_34 : Code := kL c22_33
noncomputable def r22_11 : Array Oper := kO c22_34
noncomputable def o22_11_0 : Oper := opN r22_11 0
noncomputable def o22_11_1 : Oper := opN r22_11 1
noncomputable def o22_11_2 : Oper := opN r22_11 2
theorem x22_34 : execA E C (fg 22) B 40 E0 N c22_34 s = regX (runA E C B 40 r22_11 r22_11.toList s) (fun s => gcM E0 [8, 39] (forget s.1 [8, 39], s.2)) := x_reg (ops := r22_11) (by rfl) (by rfl) s
theorem r22_11_l : r22_11.toList = [o22_11_0, o22_11_1, o22_11_2] := nrfl rfl
theorem s22_11_0 : stepA E C B 40 r22_11 o22_11_0 (φ, H) = some (fput φ 39 (fget φ 8), H) := nrfl rfl
theorem s22_11_1 : stepA E C B 40 r22_11 o22_11_1 (φ, H) = some (fput φ 4 (fget φ 39), H) := nrfl rfl
theorem s22_11_2 : stepA E C B 40 r22_11 o22_11_2 (φ, H) = some (fput φ 5 (.int .i64 0), H) := nrfl rfl
noncomputable def c22_35 : Code := kR c22_33
theorem x22_35 : execA E C (fg 22) B 40 E0 N c22_35 s = some (.ret, s) := x_ret (by rfl) s
theorem x22_33 : execA E C (fg 22) B 40 E0 N c22_33 s = seqX (execA E C (fg 22) B 40 E0 N c22_34 s) (execA E C (fg 22) B 40 E0 N c22_35) := x_seq (by rfl) s
theorem x22_16 : execA E C (fg 22) B 40 E0 N c22_16 s = seqX (execA E C (fg 22) B 40 E0 N c22_17 s) (execA E C (fg 22) B 40 E0 N c22_33) := x_seq (by rfl) s
theorem x22_14 : execA E C (fg 22) B 40 E0 N c22_14 s = seqX (execA E C (fg 22) B 40 E0 N c22_15 s) (execA E C (fg 22) B 40 E0 N c22_16) := x_seq (by rfl) s
theorem x22_12 : execA E C (fg 22) B 40 E0 N c22_12 s = seqX (execA E C (fg 22) B 40 E0 N c22_13 s) (execA E C (fg 22) B 40 E0 N c22_14) := x_seq (by rfl) s
theorem x22_2 : execA E C (fg 22) B 40 E0 N c22_2 s = seqX (execA E C (fg 22) B 40 E0 N c22_3 s) (execA E C (fg 22) B 40 E0 N c22_12) := x_seq (by rfl) s
theorem x22_0 : execA E C (fg 22) B 40 E0 N c22_0 s = seqX (execA E C (fg 22) B 40 E0 N c22_1 s) (execA E C (fg 22) B 40 E0 N c22_2) := x_seq (by rfl) s
theorem fi_22 : fInfo E 22 = some ⟨40, #[.tmp 4, .tmp 5], c22_0⟩ := nrfl rfl
theorem b_22 (args : List AV) : bodyA E C fg N 22 args H B = bodyX E [.tmp 4, .tmp 5] (execA E C (fg 22) B 40 H N c22_0 (frame0 args 0 [], H)) := bodyA_eq fi_22 args H
noncomputable def c83_0 : Code := kBody Proofs.Try.f83
noncomputable def c83_1 : Code := kL c83_0
noncomputable def r83_0 : Array Oper := kO c83_1
noncomputable def o83_0_0 : Oper := opN r83_0 0
theorem x83_1 : execA E C (fg 83) B 20 E0 N c83_1 s = regX (runA E C B 20 r83_0 r83_0.toList s) (fun s => gcM E0 [4] (forget s.1 [4], s.2)) := x_reg (ops := r83_0) (by rfl) (by rfl) s
theorem r83_0_l : r83_0.toList = [o83_0_0] := nrfl rfl
theorem s83_0_0 : stepA E C B 20 r83_0 o83_0_0 (φ, H) = some (fput φ 4 (.int .i64 0), H) := nrfl rfl
noncomputable def c83_2 : Code := kR c83_0
noncomputable def c83_3 : Code := kL c83_2
noncomputable def r83_1 : Array Oper := kO c83_3
noncomputable def o83_1_0 : Oper := opN r83_1 0
noncomputable def o83_1_1 : Oper := opN r83_1 1
noncomputable def o83_1_2 : Oper := opN r83_1 2
noncomputable def o83_1_3 : Oper := opN r83_1 3
noncomputable def o83_1_4 : Oper := opN r83_1 4
noncomputable def o83_1_5 : Oper := opN r83_1 5
noncomputable def o83_1_6 : Oper := opN r83_1 6
noncomputable def o83_1_7 : Oper := opN r83_1 7
noncomputable def o83_1_8 : Oper := opN r83_1 8
noncomputable def o83_1_9 : Oper := opN r83_1 9
theorem x83_3 : execA E C (fg 83) B 20 E0 N c83_3 s = regX (runA E C B 20 r83_1 r83_1.toList s) (fun s => gcM E0 [5, 6, 7, 8, 9, 10, 11, 12] (forget s.1 [5, 6, 7, 8, 9, 10, 11, 12], s.2)) := x_reg (ops := r83_1) (by rfl) (by rfl) s
theorem r83_1_l : r83_1.toList = [o83_1_0, o83_1_1, o83_1_2, o83_1_3, o83_1_4, o83_1_5, o83_1_6, o83_1_7, o83_1_8, o83_1_9] := nrfl rfl
theorem s83_1_0 : stepA E C B 20 r83_1 o83_1_0 (φ, H) = some (fput φ 5 (fget φ 0), H) := nrfl rfl
theorem s83_1_1 : stepA E C B 20 r83_1 o83_1_1 (φ, H) = some (fput φ 6 (fget φ 0), H) := nrfl rfl
theorem s83_1_2 : stepA E C B 20 r83_1 o83_1_2 (φ, H) = stp (some 7) φ H (justO (aUn .neg (fget φ 6))) := nrfl rfl
theorem s83_1_3 : stepA E C B 20 r83_1 o83_1_3 (φ, H) = stp (some 8) φ H (aBuiltin E.T (B + 8) .max #[3, 3] [(fget φ 5), (fget φ 7)]) := nrfl rfl
theorem s83_1_4 : stepA E C B 20 r83_1 o83_1_4 (φ, H) = some (fput φ 9 (fget φ 1), H) := nrfl rfl
theorem s83_1_5 : stepA E C B 20 r83_1 o83_1_5 (φ, H) = some (fput φ 10 (fget φ 1), H) := nrfl rfl
theorem s83_1_6 : stepA E C B 20 r83_1 o83_1_6 (φ, H) = stp (some 11) φ H (justO (aUn .neg (fget φ 10))) := nrfl rfl
theorem s83_1_7 : stepA E C B 20 r83_1 o83_1_7 (φ, H) = stp (some 12) φ H (aBuiltin E.T (B + 12) .max #[3, 3] [(fget φ 9), (fget φ 11)]) := nrfl rfl
theorem s83_1_8 : stepA E C B 20 r83_1 o83_1_8 (φ, H) = some (fput φ 0 (fget φ 8), H) := nrfl rfl
theorem s83_1_9 : stepA E C B 20 r83_1 o83_1_9 (φ, H) = some (fput φ 1 (fget φ 12), H) := nrfl rfl
noncomputable def c83_4 : Code := kR c83_2
noncomputable def c83_5 : Code := kL c83_4
noncomputable def c83_6 : Code := kB c83_5
noncomputable def c83_7 : Code := kB c83_6
noncomputable def c83_8 : Code := kL c83_7
noncomputable def c83_9 : Code := kL c83_8
noncomputable def r83_2 : Array Oper := kO c83_9
noncomputable def o83_2_0 : Oper := opN r83_2 0
noncomputable def o83_2_1 : Oper := opN r83_2 1
theorem x83_9 : execA E C (fg 83) B 20 E0 N c83_9 s = regX (runA E C B 20 r83_2 r83_2.toList s) (fun s => gcM E0 [13] (forget s.1 [13], s.2)) := x_reg (ops := r83_2) (by rfl) (by rfl) s
theorem r83_2_l : r83_2.toList = [o83_2_0, o83_2_1] := nrfl rfl
theorem s83_2_0 : stepA E C B 20 r83_2 o83_2_0 (φ, H) = some (fput φ 13 (fget φ 1), H) := nrfl rfl
theorem s83_2_1 : stepA E C B 20 r83_2 o83_2_1 (φ, H) = stp (some 14) φ H (just (aBin E.T .neq 3 (fget φ 13) (.int .i64 0))) := nrfl rfl
noncomputable def c83_10 : Code := kR c83_8
noncomputable def c83_11 : Code := kT c83_10
theorem x83_11 : execA E C (fg 83) B 20 E0 N c83_11 s = some (.normal, s) := x_skip (by rfl) s
noncomputable def c83_12 : Code := kE c83_10
theorem x83_12 : execA E C (fg 83) B 20 E0 N c83_12 s = some (.exit 0, s) := x_exit (by rfl) s
theorem x83_10 : execA E C (fg 83) B 20 E0 N c83_10 (φ, H) = condX (fget φ 14) (execA E C (fg 83) B 20 E0 N c83_11 (φ, H)) (execA E C (fg 83) B 20 E0 N c83_12 (φ, H)) := x_cond (by rfl) _
theorem x83_8 : execA E C (fg 83) B 20 E0 N c83_8 s = seqX (execA E C (fg 83) B 20 E0 N c83_9 s) (execA E C (fg 83) B 20 E0 N c83_10) := x_seq (by rfl) s
noncomputable def c83_13 : Code := kR c83_7
noncomputable def c83_14 : Code := kB c83_13
noncomputable def r83_3 : Array Oper := kO c83_14
noncomputable def o83_3_0 : Oper := opN r83_3 0
noncomputable def o83_3_1 : Oper := opN r83_3 1
noncomputable def o83_3_2 : Oper := opN r83_3 2
noncomputable def o83_3_3 : Oper := opN r83_3 3
noncomputable def o83_3_4 : Oper := opN r83_3 4
noncomputable def o83_3_5 : Oper := opN r83_3 5
theorem x83_14 : execA E C (fg 83) B 20 E0 N c83_14 s = regX (drawA E C B 20 r83_3 s) (fun s => gcM E0 [14, 15, 16, 17, 18] (forget s.1 [14, 15, 16, 17, 18], s.2)) := x_draw (ops := r83_3) (by rfl) (by rfl) s
theorem r83_3_l : r83_3.toList = [o83_3_0, o83_3_1, o83_3_2, o83_3_3, o83_3_4, o83_3_5] := nrfl rfl
theorem r83_3_st : statOk r83_3 = true := by kernel_rfl
theorem r83_3_dr : drawA E C B 20 r83_3 s = if neat 20 s = true then drX r83_3 (runT E C B 20 r83_3 r83_3.toList 0 s) else none := draw_eq r83_3_st s
theorem r83_3_an (l : List (Nat × Tr)) : dynOk r83_3 l = (!writing l || dynPairs [[], [], [], [1, 2], [0, 1], [0, 1, 2, 3, 4]] (touching l)) := dynOk_eq (by kernel_rfl) l
theorem s83_3_0 : stepT E C B 20 r83_3 o83_3_0 (φ, H) = some ((fput φ 15 (fget φ 1), H), ⟨false, [], []⟩) := stT_go rfl (goT_mv rfl rfl)
theorem s83_3_1 : stepT E C B 20 r83_3 o83_3_1 (φ, H) = some ((fput φ 16 (fget φ 0), H), ⟨false, [], []⟩) := stT_go rfl (goT_mv rfl rfl)
theorem s83_3_2 : stepT E C B 20 r83_3 o83_3_2 (φ, H) = some ((fput φ 17 (fget φ 1), H), ⟨false, [], []⟩) := stT_go rfl (goT_mv rfl rfl)
theorem s83_3_3 : stepT E C B 20 r83_3 o83_3_3 (φ, H) = stpT (some 18) φ H (just (aBin E.T .rem 3 (fget φ 16) (fget φ 17))) := stT_go rfl (goT_R rfl rfl)
theorem s83_3_4 : stepT E C B 20 r83_3 o83_3_4 (φ, H) = some ((fput φ 0 (fget φ 15), H), ⟨false, [], []⟩) := stT_go rfl (goT_mv rfl rfl)
theorem s83_3_5 : stepT E C B 20 r83_3 o83_3_5 (φ, H) = some ((fput φ 1 (fget φ 18), H), ⟨false, [], []⟩) := stT_go rfl (goT_mv rfl rfl)
theorem x83_13 : execA E C (fg 83) B 20 E0 N c83_13 s = blockX 1 (fun s => (forget s.1 [], s.2)) (execA E C (fg 83) B 20 E0 N c83_14 s) := x_block (by rfl) (by rfl) s
theorem x83_7 : execA E C (fg 83) B 20 E0 N c83_7 s = seqX (execA E C (fg 83) B 20 E0 N c83_8 s) (execA E C (fg 83) B 20 E0 N c83_13) := x_seq (by rfl) s
theorem x83_6 : execA E C (fg 83) B 20 E0 N c83_6 s = iterA (execA E C (fg 83) B 20 E0 N c83_7) (headA E0) N s := x_loop (by rfl) s
theorem x83_5 : execA E C (fg 83) B 20 E0 N c83_5 s = blockX 0 (fun s => (forget s.1 [1, 14], s.2)) (execA E C (fg 83) B 20 E0 N c83_6 s) := x_block (by rfl) (by rfl) s
noncomputable def c83_15 : Code := kR c83_4
noncomputable def c83_16 : Code := kL c83_15
noncomputable def r83_4 : Array Oper := kO c83_16
noncomputable def o83_4_0 : Oper := opN r83_4 0
noncomputable def o83_4_1 : Oper := opN r83_4 1
theorem x83_16 : execA E C (fg 83) B 20 E0 N c83_16 s = regX (runA E C B 20 r83_4 r83_4.toList s) (fun s => gcM E0 [0, 19] (forget s.1 [0, 19], s.2)) := x_reg (ops := r83_4) (by rfl) (by rfl) s
theorem r83_4_l : r83_4.toList = [o83_4_0, o83_4_1] := nrfl rfl
theorem s83_4_0 : stepA E C B 20 r83_4 o83_4_0 (φ, H) = some (fput φ 19 (fget φ 0), H) := nrfl rfl
theorem s83_4_1 : stepA E C B 20 r83_4 o83_4_1 (φ, H) = some (fput φ 4 (fget φ 19), H) := nrfl rfl
noncomputable def c83_17 : Code := kR c83_15
theorem x83_17 : execA E C (fg 83) B 20 E0 N c83_17 s = some (.ret, s) := x_ret (by rfl) s
theorem x83_15 : execA E C (fg 83) B 20 E0 N c83_15 s = seqX (execA E C (fg 83) B 20 E0 N c83_16 s) (execA E C (fg 83) B 20 E0 N c83_17) := x_seq (by rfl) s
theorem x83_4 : execA E C (fg 83) B 20 E0 N c83_4 s = seqX (execA E C (fg 83) B 20 E0 N c83_5 s) (execA E C (fg 83) B 20 E0 N c83_15) := x_seq (by rfl) s
theorem x83_2 : execA E C (fg 83) B 20 E0 N c83_2 s = seqX (execA E C (fg 83) B 20 E0 N c83_3 s) (execA E C (fg 83) B 20 E0 N c83_4) := x_seq (by rfl) s
theorem x83_0 : execA E C (fg 83) B 20 E0 N c83_0 s = seqX (execA E C (fg 83) B 20 E0 N c83_1 s) (execA E C (fg 83) B 20 E0 N c83_2) := x_seq (by rfl) s
theorem fi_83 : fInfo E 83 = some ⟨20, #[.tmp 4], c83_0⟩ := nrfl rfl
theorem b_83 (args : List AV) : bodyA E C fg N 83 args H B = bodyX E [.tmp 4] (execA E C (fg 83) B 20 H N c83_0 (frame0 args 0 [], H)) := bodyA_eq fi_83 args H
noncomputable def c35_0 : Code := kBody Proofs.Try.f35
noncomputable def c35_1 : Code := kL c35_0
noncomputable def r35_0 : Array Oper := kO c35_1
noncomputable def o35_0_0 : Oper := opN r35_0 0
theorem x35_1 : execA E C (fg 35) B 16 E0 N c35_1 s = regX (runA E C B 16 r35_0 r35_0.toList s) (fun s => gcM E0 [] (forget s.1 [], s.2)) := x_reg (ops := r35_0) (by rfl) (by rfl) s
theorem r35_0_l : r35_0.toList = [o35_0_0] := nrfl rfl
theorem s35_0_0 : stepA E C B 16 r35_0 o35_0_0 (φ, H) = stp (some 4) φ H (opBox (B + 4) (zeroCells E.T 27)) := nrfl rfl
noncomputable def c35_2 : Code := kR c35_0
noncomputable def c35_3 : Code := kL c35_2
noncomputable def r35_1 : Array Oper := kO c35_3
noncomputable def o35_1_0 : Oper := opN r35_1 0
noncomputable def o35_1_1 : Oper := opN r35_1 1
noncomputable def o35_1_2 : Oper := opN r35_1 2
noncomputable def o35_1_3 : Oper := opN r35_1 3
theorem x35_3 : execA E C (fg 35) B 16 E0 N c35_3 s = regX (runA E C B 16 r35_1 r35_1.toList s) (fun s => gcM E0 [6, 7, 8] (forget s.1 [6, 7, 8], s.2)) := x_reg (ops := r35_1) (by rfl) (by rfl) s
theorem r35_1_l : r35_1.toList = [o35_1_0, o35_1_1, o35_1_2, o35_1_3] := nrfl rfl
theorem s35_1_0 : stepA E C B 16 r35_1 o35_1_0 (φ, H) = some (fput φ 6 (fget φ 0), H) := nrfl rfl
theorem s35_1_1 : stepA E C B 16 r35_1 o35_1_1 (φ, H) = some (fput φ 7 (fget φ 1), H) := nrfl rfl
theorem s35_1_2 : stepA E C B 16 r35_1 o35_1_2 (φ, H) = stp (some 8) φ H (aCall C (fun j => B + j * 16 + 8) true 83 [(fget φ 6), (fget φ 7)]) := nrfl rfl
theorem s35_1_3 : stepA E C B 16 r35_1 o35_1_3 (φ, H) = some (fput φ 5 (fget φ 8), H) := nrfl rfl
noncomputable def c35_4 : Code := kR c35_2
noncomputable def c35_5 : Code := kL c35_4
noncomputable def r35_2 : Array Oper := kO c35_5
noncomputable def o35_2_0 : Oper := opN r35_2 0
noncomputable def o35_2_1 : Oper := opN r35_2 1
noncomputable def o35_2_2 : Oper := opN r35_2 2
noncomputable def o35_2_3 : Oper := opN r35_2 3
noncomputable def o35_2_4 : Oper := opN r35_2 4
noncomputable def o35_2_5 : Oper := opN r35_2 5
noncomputable def o35_2_6 : Oper := opN r35_2 6
noncomputable def o35_2_7 : Oper := opN r35_2 7
theorem x35_5 : execA E C (fg 35) B 16 E0 N c35_5 s = regX (drawA E C B 16 r35_2 s) (fun s => gcM E0 [0, 1, 5, 9, 10, 11, 12, 13, 14, 15] (forget s.1 [0, 1, 5, 9, 10, 11, 12, 13, 14, 15], s.2)) := x_draw (ops := r35_2) (by rfl) (by rfl) s
theorem r35_2_l : r35_2.toList = [o35_2_0, o35_2_1, o35_2_2, o35_2_3, o35_2_4, o35_2_5, o35_2_6, o35_2_7] := nrfl rfl
theorem r35_2_st : statOk r35_2 = true := by kernel_rfl
theorem r35_2_dr : drawA E C B 16 r35_2 s = if neat 16 s = true then drX r35_2 (runT E C B 16 r35_2 r35_2.toList 0 s) else none := draw_eq r35_2_st s
theorem r35_2_an (l : List (Nat × Tr)) : dynOk r35_2 l = (!writing l || dynPairs [[], [], [0, 1], [], [], [3, 4], [0, 1, 2, 3, 4, 5], [0, 1, 2, 3, 4, 5, 6]] (touching l)) := dynOk_eq (by kernel_rfl) l
theorem s35_2_0 : stepT E C B 16 r35_2 o35_2_0 (φ, H) = some ((fput φ 9 (fget φ 0), H), ⟨false, [], []⟩) := stT_go rfl (goT_mv rfl rfl)
theorem s35_2_1 : stepT E C B 16 r35_2 o35_2_1 (φ, H) = some ((fput φ 10 (fget φ 5), H), ⟨false, [], []⟩) := stT_go rfl (goT_mv rfl rfl)
theorem s35_2_2 : stepT E C B 16 r35_2 o35_2_2 (φ, H) = stpT (some 11) φ H (just (aBin E.T .quo 3 (fget φ 9) (fget φ 10))) := stT_go rfl (goT_R rfl rfl)
theorem s35_2_3 : stepT E C B 16 r35_2 o35_2_3 (φ, H) = some ((fput φ 12 (fget φ 1), H), ⟨false, [], []⟩) := stT_go rfl (goT_mv rfl rfl)
theorem s35_2_4 : stepT E C B 16 r35_2 o35_2_4 (φ, H) = some ((fput φ 13 (fget φ 5), H), ⟨false, [], []⟩) := stT_go rfl (goT_mv rfl rfl)
theorem s35_2_5 : stepT E C B 16 r35_2 o35_2_5 (φ, H) = stpT (some 14) φ H (just (aBin E.T .quo 3 (fget φ 12) (fget φ 13))) := stT_go rfl (goT_R rfl rfl)
theorem s35_2_6 : stepT E C B 16 r35_2 o35_2_6 (φ, H) = stpT (some 15) φ H (aCall C (fun j => B + j * 16 + 15) true 40 [(fget φ 11), (fget φ 14)]) := stT_go rfl (goT_R rfl rfl)
theorem s35_2_7 : stepT E C B 16 r35_2 o35_2_7 (φ, H) = stpT none φ H (opStore E.T 27 (fget φ 4) (fget φ 15)) := stT_go rfl (goT_R rfl rfl)
noncomputable def c35_6 : Code := kR c35_4
theorem x35_6 : execA E C (fg 35) B 16 E0 N c35_6 s = some (.ret, s) := x_ret (by rfl) s
theorem x35_4 : execA E C (fg 35) B 16 E0 N c35_4 s = seqX (execA E C (fg 35) B 16 E0 N c35_5 s) (execA E C (fg 35) B 16 E0 N c35_6) := x_seq (by rfl) s
theorem x35_2 : execA E C (fg 35) B 16 E0 N c35_2 s = seqX (execA E C (fg 35) B 16 E0 N c35_3 s) (execA E C (fg 35) B 16 E0 N c35_4) := x_seq (by rfl) s
theorem x35_0 : execA E C (fg 35) B 16 E0 N c35_0 s = seqX (execA E C (fg 35) B 16 E0 N c35_1 s) (execA E C (fg 35) B 16 E0 N c35_2) := x_seq (by rfl) s
theorem fi_35 : fInfo E 35 = some ⟨16, #[.cell 4 27], c35_0⟩ := nrfl rfl
theorem b_35 (args : List AV) : bodyA E C fg N 35 args H B = bodyX E [.cell 4 27] (execA E C (fg 35) B 16 H N c35_0 (frame0 args 0 [], H)) := bodyA_eq fi_35 args H
noncomputable def c40_0 : Code := kBody Proofs.Try.f40
noncomputable def c40_1 : Code := kL c40_0
noncomputable def r40_0 : Array Oper := kO c40_1
noncomputable def o40_0_0 : Oper := opN r40_0 0
theorem x40_1 : execA E C (fg 40) B 8 E0 N c40_1 s = regX (runA E C B 8 r40_0 r40_0.toList s) (fun s => gcM E0 [] (forget s.1 [], s.2)) := x_reg (ops := r40_0) (by rfl) (by rfl) s
theorem r40_0_l : r40_0.toList = [o40_0_0] := nrfl rfl
theorem s40_0_0 : stepA E C B 8 r40_0 o40_0_0 (φ, H) = stp (some 4) φ H (opBox (B + 4) (zeroCells E.T 27)) := nrfl rfl
noncomputable def c40_2 : Code := kR c40_0
noncomputable def c40_3 : Code := kL c40_2
noncomputable def r40_1 : Array Oper := kO c40_3
noncomputable def o40_1_0 : Oper := opN r40_1 0
noncomputable def o40_1_1 : Oper := opN r40_1 1
noncomputable def o40_1_2 : Oper := opN r40_1 2
noncomputable def o40_1_3 : Oper := opN r40_1 3
theorem x40_3 : execA E C (fg 40) B 8 E0 N c40_3 s = regX (runA E C B 8 r40_1 r40_1.toList s) (fun s => gcM E0 [0, 1, 5, 6, 7] (forget s.1 [0, 1, 5, 6, 7], s.2)) := x_reg (ops := r40_1) (by rfl) (by rfl) s
theorem r40_1_l : r40_1.toList = [o40_1_0, o40_1_1, o40_1_2, o40_1_3] := nrfl rfl
theorem s40_1_0 : stepA E C B 8 r40_1 o40_1_0 (φ, H) = some (fput φ 5 (fget φ 0), H) := nrfl rfl
theorem s40_1_1 : stepA E C B 8 r40_1 o40_1_1 (φ, H) = some (fput φ 6 (fget φ 1), H) := nrfl rfl
theorem s40_1_2 : stepA E C B 8 r40_1 o40_1_2 (φ, H) = stp (some 7) φ H (justO (aBuild E.T 27 (evO E φ) [(0, Operand.tmp 5), (1, Operand.tmp 6)])) := nrfl rfl
theorem s40_1_3 : stepA E C B 8 r40_1 o40_1_3 (φ, H) = stp none φ H (opStore E.T 27 (fget φ 4) (fget φ 7)) := nrfl rfl
noncomputable def c40_4 : Code := kR c40_2
theorem x40_4 : execA E C (fg 40) B 8 E0 N c40_4 s = some (.ret, s) := x_ret (by rfl) s
theorem x40_2 : execA E C (fg 40) B 8 E0 N c40_2 s = seqX (execA E C (fg 40) B 8 E0 N c40_3 s) (execA E C (fg 40) B 8 E0 N c40_4) := x_seq (by rfl) s
theorem x40_0 : execA E C (fg 40) B 8 E0 N c40_0 s = seqX (execA E C (fg 40) B 8 E0 N c40_1 s) (execA E C (fg 40) B 8 E0 N c40_2) := x_seq (by rfl) s
theorem fi_40 : fInfo E 40 = some ⟨8, #[.cell 4 27], c40_0⟩ := nrfl rfl
theorem b_40 (args : List AV) : bodyA E C fg N 40 args H B = bodyX E [.cell 4 27] (execA E C (fg 40) B 8 H N c40_0 (frame0 args 0 [], H)) := bodyA_eq fi_40 args H
noncomputable def c33_0 : Code := kBody Proofs.Try.f33
noncomputable def c33_1 : Code := kL c33_0
noncomputable def r33_0 : Array Oper := kO c33_1
noncomputable def o33_0_0 : Oper := opN r33_0 0
noncomputable def o33_0_1 : Oper := opN r33_0 1
theorem x33_1 : execA E C (fg 33) B 29 E0 N c33_1 s = regX (runA E C B 29 r33_0 r33_0.toList s) (fun s => gcM E0 [0, 2] (forget s.1 [0, 2], s.2)) := x_reg (ops := r33_0) (by rfl) (by rfl) s
theorem r33_0_l : r33_0.toList = [o33_0_0, o33_0_1] := nrfl rfl
theorem s33_0_0 : stepA E C B 29 r33_0 o33_0_0 (φ, H) = stp (some 1) φ H (opBox (B + 1) (acells (fget φ 0))) := nrfl rfl
theorem s33_0_1 : stepA E C B 29 r33_0 o33_0_1 (φ, H) = some (fput φ 2 (.bool false), H) := nrfl rfl
noncomputable def c33_2 : Code := kR c33_0
noncomputable def c33_3 : Code := kL c33_2
noncomputable def r33_1 : Array Oper := kO c33_3
noncomputable def o33_1_0 : Oper := opN r33_1 0
noncomputable def o33_1_1 : Oper := opN r33_1 1
noncomputable def o33_1_2 : Oper := opN r33_1 2
noncomputable def o33_1_3 : Oper := opN r33_1 3
noncomputable def o33_1_4 : Oper := opN r33_1 4
noncomputable def o33_1_5 : Oper := opN r33_1 5
noncomputable def o33_1_6 : Oper := opN r33_1 6
noncomputable def o33_1_7 : Oper := opN r33_1 7
noncomputable def o33_1_8 : Oper := opN r33_1 8
noncomputable def o33_1_9 : Oper := opN r33_1 9
noncomputable def o33_1_10 : Oper := opN r33_1 10
noncomputable def o33_1_11 : Oper := opN r33_1 11
noncomputable def o33_1_12 : Oper := opN r33_1 12
noncomputable def o33_1_13 : Oper := opN r33_1 13
noncomputable def o33_1_14 : Oper := opN r33_1 14
noncomputable def o33_1_15 : Oper := opN r33_1 15
noncomputable def o33_1_16 : Oper := opN r33_1 16
noncomputable def o33_1_17 : Oper := opN r33_1 17
noncomputable def o33_1_18 : Oper := opN r33_1 18
noncomputable def o33_1_19 : Oper := opN r33_1 19
noncomputable def o33_1_20 : Oper := opN r33_1 20
noncomputable def o33_1_21 : Oper := opN r33_1 21
noncomputable def o33_1_22 : Oper := opN r33_1 22
noncomputable def o33_1_23 : Oper := opN r33_1 23
noncomputable def o33_1_24 : Oper := opN r33_1 24
noncomputable def o33_1_25 : Oper := opN r33_1 25
noncomputable def o33_1_26 : Oper := opN r33_1 26
theorem x33_3 : execA E C (fg 33) B 29 E0 N c33_3 s = regX (runA E C B 29 r33_1 r33_1.toList s) (fun s => gcM E0 [1, 3, 4, 5, 6, 7, 8, 9, 10, 11, 12, 13, 14, 15, 16, 17, 18, 19, 20, 21, 22, 23, 24, 25, 26, 27, 28] (forget s.1 [1, 3, 4, 5, 6, 7, 8, 9, 10, 11, 12, 13, 14, 15, 16, 17, 18, 19, 20, 21, 22, 23, 24, 25, 26, 27, 28], s.2)) := x_reg (ops := r33_1) (by rfl) (by rfl) s
theorem r33_1_l : r33_1.toList = [o33_1_0, o33_1_1, o33_1_2, o33_1_3, o33_1_4, o33_1_5, o33_1_6, o33_1_7, o33_1_8, o33_1_9, o33_1_10, o33_1_11, o33_1_12, o33_1_13, o33_1_14, o33_1_15, o33_1_16, o33_1_17, o33_1_18, o33_1_19, o33_1_20, o33_1_21, o33_1_22, o33_1_23, o33_1_24, o33_1_25, o33_1_26] := nrfl rfl
theorem s33_1_0 : stepA E C B 29 r33_1 o33_1_0 (φ, H) = stp (some 3) φ H (just (aFieldAddr E.T 27 (fget φ 1) 1)) := nrfl rfl
theorem s33_1_1 : stepA E C B 29 r33_1 o33_1_1 (φ, H) = stp (some 4) φ H (just (aLoad E.T 3 (fget φ 3))) := nrfl rfl
theorem s33_1_2 : stepA E C B 29 r33_1 o33_1_2 (φ, H) = stp (some 5) φ H (just (aBin E.T .gtr 3 (fget φ 4) (.int .i64 0))) := nrfl rfl
theorem s33_1_3 : stepA E C B 29 r33_1 o33_1_3 (φ, H) = some (fput φ 6 (fget φ 5), H) := nrfl rfl
theorem s33_1_4 : stepA E C B 29 r33_1 o33_1_4 (φ, H) = gd φ 6 true (fun φ => some (fput φ 7 (.tup []), H)) (fun φ => stp (some 7) φ H (just (aFieldAddr E.T 27 (fget φ 1) 1))) := s_gd (j := 3) (oj := o33_1_3) rfl rfl rfl (fun _ => rfl) (fun _ => rfl)
theorem s33_1_5 : stepA E C B 29 r33_1 o33_1_5 (φ, H) = gd φ 6 true (fun φ => some (fput φ 8 (.tup []), H)) (fun φ => stp (some 8) φ H (just (aLoad E.T 3 (fget φ 7)))) := s_gd (j := 3) (oj := o33_1_3) rfl rfl rfl (fun _ => rfl) (fun _ => rfl)
theorem s33_1_6 : stepA E C B 29 r33_1 o33_1_6 (φ, H) = gd φ 6 true (fun φ => some (fput φ 9 (.tup []), H)) (fun φ => stp (some 9) φ H (just (aBin E.T .lss 3 (fget φ 8) (.int .i64 33554432)))) := s_gd (j := 3) (oj := o33_1_3) rfl rfl rfl (fun _ => rfl) (fun _ => rfl)
theorem s33_1_7 : stepA E C B 29 r33_1 o33_1_7 (φ, H) = stp (some 10) φ H (opPick (fget φ 6) (fget φ 9) (.bool false)) := nrfl rfl
theorem s33_1_8 : stepA E C B 29 r33_1 o33_1_8 (φ, H) = some (fput φ 11 (fget φ 10), H) := nrfl rfl
theorem s33_1_9 : stepA E C B 29 r33_1 o33_1_9 (φ, H) = gd φ 11 true (fun φ => some (fput φ 12 (.tup []), H)) (fun φ => stp (some 12) φ H (just (aFieldAddr E.T 27 (fget φ 1) 0))) := s_gd (j := 8) (oj := o33_1_8) rfl rfl rfl (fun _ => rfl) (fun _ => rfl)
theorem s33_1_10 : stepA E C B 29 r33_1 o33_1_10 (φ, H) = gd φ 11 true (fun φ => some (fput φ 13 (.tup []), H)) (fun φ => stp (some 13) φ H (just (aLoad E.T 3 (fget φ 12)))) := s_gd (j := 8) (oj := o33_1_8) rfl rfl rfl (fun _ => rfl) (fun _ => rfl)
theorem s33_1_11 : stepA E C B 29 r33_1 o33_1_11 (φ, H) = gd φ 11 true (fun φ => some (fput φ 14 (.tup []), H)) (fun φ => stp (some 14) φ H (just (aBin E.T .gtr 3 (fget φ 13) (.int .i64 (-68719476736))))) := s_gd (j := 8) (oj := o33_1_8) rfl rfl rfl (fun _ => rfl) (fun _ => rfl)
theorem s33_1_12 : stepA E C B 29 r33_1 o33_1_12 (φ, H) = stp (some 15) φ H (opPick (fget φ 11) (fget φ 14) (.bool false)) := nrfl rfl
theorem s33_1_13 : stepA E C B 29 r33_1 o33_1_13 (φ, H) = some (fput φ 16 (fget φ 15), H) := nrfl rfl
theorem s33_1_14 : stepA E C B 29 r33_1 o33_1_14 (φ, H) = gd φ 16 true (fun φ => some (fput φ 17 (.tup []), H)) (fun φ => stp (some 17) φ H (just (aFieldAddr E.T 27 (fget φ 1) 0))) := s_gd (j := 13) (oj := o33_1_13) rfl rfl rfl (fun _ => rfl) (fun _ => rfl)
theorem s33_1_15 : stepA E C B 29 r33_1 o33_1_15 (φ, H) = gd φ 16 true (fun φ => some (fput φ 18 (.tup []), H)) (fun φ => stp (some 18) φ H (just (aLoad E.T 3 (fget φ 17)))) := s_gd (j := 13) (oj := o33_1_13) rfl rfl rfl (fun _ => rfl) (fun _ => rfl)
theorem s33_1_16 : stepA E C B 29 r33_1 o33_1_16 (φ, H) = gd φ 16 true (fun φ => some (fput φ 19 (.tup []), H)) (fun φ => stp (some 19) φ H (just (aBin E.T .lss 3 (fget φ 18) (.int .i64 68719476736)))) := s_gd (j := 13) (oj := o33_1_13) rfl rfl rfl (fun _ => rfl) (fun _ => rfl)
theorem s33_1_17 : stepA E C B 29 r33_1 o33_1_17 (φ, H) = stp (some 20) φ H (opPick (fget φ 16) (fget φ 19) (.bool false)) := nrfl rfl
theorem s33_1_18 : stepA E C B 29 r33_1 o33_1_18 (φ, H) = some (fput φ 21 (fget φ 20), H) := nrfl rfl
theorem s33_1_19 : stepA E C B 29 r33_1 o33_1_19 (φ, H) = gd φ 21 true (fun φ => some (fput φ 22 (.tup []), H)) (fun φ => stp (some 22) φ H (just (aFieldAddr E.T 27 (fget φ 1) 0))) := s_gd (j := 18) (oj := o33_1_18) rfl rfl rfl (fun _ => rfl) (fun _ => rfl)
theorem s33_1_20 : stepA E C B 29 r33_1 o33_1_20 (φ, H) = gd φ 21 true (fun φ => some (fput φ 23 (.tup []), H)) (fun φ => stp (some 23) φ H (just (aLoad E.T 3 (fget φ 22)))) := s_gd (j := 18) (oj := o33_1_18) rfl rfl rfl (fun _ => rfl) (fun _ => rfl)
theorem s33_1_21 : stepA E C B 29 r33_1 o33_1_21 (φ, H) = gd φ 21 true (fun φ => some (fput φ 24 (.tup []), H)) (fun φ => stp (some 24) φ H (just (aFieldAddr E.T 27 (fget φ 1) 1))) := s_gd (j := 18) (oj := o33_1_18) rfl rfl rfl (fun _ => rfl) (fun _ => rfl)
theorem s33_1_22 : stepA E C B 29 r33_1 o33_1_22 (φ, H) = gd φ 21 true (fun φ => some (fput φ 25 (.tup []), H)) (fun φ => stp (some 25) φ H (just (aLoad E.T 3 (fget φ 24)))) := s_gd (j := 18) (oj := o33_1_18) rfl rfl rfl (fun _ => rfl) (fun _ => rfl)
theorem s33_1_23 : stepA E C B 29 r33_1 o33_1_23 (φ, H) = gd φ 21 true (fun φ => some (fput φ 26 (.tup []), H)) (fun φ => stp (some 26) φ H (aCall C (fun j => B + j * 29 + 26) true 83 [(fget φ 23), (fget φ 25)])) := s_gd (j := 18) (oj := o33_1_18) rfl rfl rfl (fun _ => rfl) (fun _ => rfl)
theorem s33_1_24 : stepA E C B 29 r33_1 o33_1_24 (φ, H) = gd φ 21 true (fun φ => some (fput φ 27 (.tup []), H)) (fun φ => stp (some 27) φ H (just (aBin E.T .eql 3 (fget φ 26) (.int .i64 1)))) := s_gd (j := 18) (oj := o33_1_18) rfl rfl rfl (fun _ => rfl) (fun _ => rfl)
theorem s33_1_25 : stepA E C B 29 r33_1 o33_1_25 (φ, H) = stp (some 28) φ H (opPick (fget φ 21) (fget φ 27) (.bool false)) := nrfl rfl
theorem s33_1_26 : stepA E C B 29 r33_1 o33_1_26 (φ, H) = some (fput φ 2 (fget φ 28), H) := nrfl rfl
noncomputable def c33_4 : Code := kR c33_2
theorem x33_4 : execA E C (fg 33) B 29 E0 N c33_4 s = some (.ret, s) := x_ret (by rfl) s
theorem x33_2 : execA E C (fg 33) B 29 E0 N c33_2 s = seqX (execA E C (fg 33) B 29 E0 N c33_3 s) (execA E C (fg 33) B 29 E0 N c33_4) := x_seq (by rfl) s
theorem x33_0 : execA E C (fg 33) B 29 E0 N c33_0 s = seqX (execA E C (fg 33) B 29 E0 N c33_1 s) (execA E C (fg 33) B 29 E0 N c33_2) := x_seq (by rfl) s
theorem fi_33 : fInfo E 33 = some ⟨29, #[.tmp 2], c33_0⟩ := nrfl rfl
theorem b_33 (args : List AV) : bodyA E C fg N 33 args H B = bodyX E [.tmp 2] (execA E C (fg 33) B 29 H N c33_0 (frame0 args 0 [], H)) := bodyA_eq fi_33 args H
end Go.AM.Ytmhbnflnlglljaa
end

section
namespace Go.AM.Ytmhbnflnlglljaa
open Go Go.AM
set_option maxRecDepth 100000
set_option maxHeartbeats 4000000
abbrev euS (a b : Nat) (num den : Int) : St := ([(6, .int .i64 b), (5, .int .i64 a), (4, .ptr 4 0 2), (1, .int .i64 den), (0, .int .i64 num)], [(4, ⟨.box, [.int .i64 0, .int .i64 0]⟩)])
theorem eu_go {C : Callee} {a b : Nat} {num den : Int} (hb : b ≠ 0) (h2 : b < 9223372036854775808) :
    ∃ s', execA E C (fg 61) 0 25 [] 1000 c61_7 (euS a b num den) = some (.normal, s') ∧ headA [] s' = euS b (a % b) num den := by
  have hn : ¬ (b : Int) = 0 := by omega
  have ht : (a : Int).tmod b = ((a % b : Nat) : Int) := by rw [Int.tmod_eq_emod_of_nonneg (by omega)]; omega
  have hlt := Nat.mod_lt a (Nat.pos_of_ne_zero hb)
  have w : wrp .i64 ((a % b : Nat) : Int) = ((a % b : Nat) : Int) := wrp64 (by omega)
  simp only [seqX_normal, bindR_some, regX_some, condX_bool, blockX_normal, Bool.not_true, Bool.not_false, run_nil, run_cons, fget_cons', fput_cons', forget_nil, forget_cons', gcM_c, stp, just, Rd.bind, Rd.run, Rd.opt, upds, aBin, aInt, Nat.reduceAdd, Nat.reduceBEq, Nat.reduceEqDiff, Nat.reduceLeDiff, ↓reduceIte, reduceCtorEq, Nat.zero_add, bne_iff_ne, ne_eq, rtX_some, addT_some, drX_some, runT_nil, runT_cons, neat_eq, descF_nil', descF_cons', ascH_nil', ascH_cons', stpT, Rd.foot, writing, touching, Tr.empty, dynPairs, List.isEmpty_nil, List.map_nil, Bool.not_false, Bool.not_true, Bool.or_true, Bool.or_false, Bool.and_self, decide_true, not_false_eq_true, putD_some, List.elem_cons, List.elem_nil, x61_9, r61_2_l, s61_2_0, s61_2_1, x61_11, x61_12, x61_10, x61_8, x61_14, r61_3_l, r61_3_dr, r61_3_an, s61_3_0, s61_3_1, s61_3_2, s61_3_3, s61_3_4, s61_3_5, x61_13, x61_7, euS, hn, ht]
  exact ⟨_, rfl, rfl⟩
abbrev euE (a : Nat) (num den : Int) : St := ([(13, .bool false), (6, .int .i64 0), (5, .int .i64 a), (4, .ptr 4 0 2), (1, .int .i64 den), (0, .int .i64 num)], [(4, ⟨.box, [.int .i64 0, .int .i64 0]⟩)])
theorem eu_stop {C : Callee} {a : Nat} {num den : Int} :
    execA E C (fg 61) 0 25 [] 1000 c61_7 (euS a 0 num den) = some (.exit 0, euE a num den) := by
  simp only [seqX_normal, seqX_exit, bindR_some, regX_some, condX_bool, run_nil, run_cons, fget_cons', fput_cons', forget_nil, forget_cons', gcM_c, stp, just, Rd.bind, Rd.run, Rd.opt, upds, aBin, aInt, Nat.reduceBEq, Nat.reduceEqDiff, Nat.reduceLeDiff, ↓reduceIte, reduceCtorEq, putD_some, List.elem_cons, List.elem_nil, x61_9, r61_2_l, s61_2_0, s61_2_1, x61_11, x61_12, x61_10, x61_8, x61_7, euS, euE, Int.natCast_zero, bne_self_eq_false]
theorem eu_loop {C : Callee} {num den : Int} : ∀ (m a b F : Nat) (s : St), headA [] s = euS a b num den → b < 2 ^ m → m ≤ 62 → 2 * m < F →
    iterA (execA E C (fg 61) 0 25 [] 1000 c61_7) (headA []) F s = some (.exit 0, euE (Nat.gcd a b) num den) := by
  intro m
  induction m with
  | zero =>
    intro a b F s hs hb hm hF
    obtain ⟨F, rfl⟩ : ∃ G, F = G + 1 := ⟨F - 1, by omega⟩
    obtain rfl : b = 0 := by omega
    rw [iterA_succ, hs, eu_stop, seqX_exit, Nat.gcd_zero_right]
  | succ m ih =>
    intro a b F s hs hb hm hF
    obtain ⟨F, rfl⟩ : ∃ G, F = G + 2 := ⟨F - 2, by omega⟩
    have hpow : 2 ^ (m + 1) ≤ 2 ^ 62 := Nat.pow_le_pow_right (by omega) hm
    have h62 : (2 : Nat) ^ 62 < 9223372036854775808 := by decide
    have hps : 2 ^ (m + 1) = 2 * 2 ^ m := by rw [Nat.pow_succ]; omega
    by_cases h0 : b = 0
    · subst h0
      rw [iterA_succ, hs, eu_stop, seqX_exit, Nat.gcd_zero_right]
    · obtain ⟨s1, e1, e2⟩ := eu_go (C := C) (a := a) (num := num) (den := den) h0 (by omega)
      have hlt := Nat.mod_lt a (Nat.pos_of_ne_zero h0)
      have hg : Nat.gcd a b = Nat.gcd b (a % b) := by rw [Nat.gcd_comm a b, Nat.gcd_rec, Nat.gcd_comm]
      rw [iterA_succ, hs, e1, seqN, iterA_succ, e2, hg]
      by_cases h1 : a % b = 0
      · rw [h1, eu_stop, seqX_exit, Nat.gcd_zero_right]
      · obtain ⟨s2, f1, f2⟩ := eu_go (C := C) (a := b) (num := num) (den := den) h1 (by omega)
        have hlt2 := Nat.mod_lt b (Nat.pos_of_ne_zero h1)
        have hg2 : Nat.gcd b (a % b) = Nat.gcd (a % b) (b % (a % b)) := by rw [Nat.gcd_comm b (a % b), Nat.gcd_rec, Nat.gcd_comm]
        have hdm := Nat.div_add_mod b (a % b)
        have hq : 1 ≤ b / (a % b) := Nat.div_pos (by omega) (by omega)
        have hmul : a % b ≤ (a % b) * (b / (a % b)) := Nat.le_mul_of_pos_right _ hq
        rw [f1, seqN, hg2]
        exact ih (a % b) (b % (a % b)) F s2 f2 (by omega) (by omega) (by omega)
/-- A fraction in lowest terms. -/
def gcdI (num den : Int) : Nat := Nat.gcd num.natAbs den.natAbs
def rdN (num den : Int) : Int := num / (gcdI num den : Int)
def rdD (num den : Int) : Int := den / (gcdI num den : Int)
theorem gcdI_pos {num den : Int} (h : 0 < den) : 0 < gcdI num den := Nat.gcd_pos_of_pos_right _ (by omega)
theorem gcdI_le {num den : Int} (h : 0 < den) : (gcdI num den : Int) ≤ den := by
  have := Nat.gcd_le_right num.natAbs (n := den.natAbs) (by omega)
  unfold gcdI
  omega
theorem gcdI_dvd1 (num den : Int) : (gcdI num den : Int) ∣ num := Int.ofNat_dvd_left.2 (Nat.gcd_dvd_left ..)
theorem gcdI_dvd2 (num den : Int) : (gcdI num den : Int) ∣ den := Int.ofNat_dvd_left.2 (Nat.gcd_dvd_right ..)
theorem rd_mul (num den : Int) : rdN num den * (gcdI num den : Int) = num ∧ rdD num den * (gcdI num den : Int) = den :=
  ⟨Int.ediv_mul_cancel (gcdI_dvd1 ..), Int.ediv_mul_cancel (gcdI_dvd2 ..)⟩
theorem nat_le_mul (x : Int) {g : Int} (h : 1 ≤ g) : x.natAbs ≤ (x * g).natAbs := by
  rw [Int.natAbs_mul]
  exact Nat.le_mul_of_pos_right _ (by omega)
theorem rd_den_pos {num den : Int} (h : 0 < den) : 0 < rdD num den := by
  obtain ⟨_, h2⟩ := rd_mul num den
  have hg := gcdI_pos (num := num) h
  rcases Int.lt_trichotomy 0 (rdD num den) with h3 | h3 | h3
  · exact h3
  · rw [← h3] at h2; omega
  · have := Int.mul_neg_of_neg_of_pos h3 (show (0 : Int) < gcdI num den by omega)
    omega
theorem reduced_run {C : Callee} {num den : Int} (h1 : -4611686018427387903 ≤ num ∧ num ≤ 4611686018427387903) (h2 : 0 < den ∧ den ≤ 4611686018427387903) :
    rsOf (bodyA E C fg 1000 61 [.int .i64 num, .int .i64 den] [] 0) = some (.agg [.int .i64 (rdN num den), .int .i64 (rdD num den)]) := by
  have h62 : (2 : Nat) ^ 62 = 4611686018427387904 := by decide
  have hl := eu_loop (C := C) (num := num) (den := den) 62 num.natAbs den.natAbs 1000 (euS num.natAbs den.natAbs num den) rfl (by omega) (by omega) (by omega)
  have hmax : (if -num > num then -num else num) = (num.natAbs : Int) := by split <;> omega
  have hden : (den.natAbs : Int) = den := by omega
  have w1 : wrp .i64 (0 - num) = -num := by rw [wrp64 (by omega)]; omega
  have hg : Nat.gcd num.natAbs den.natAbs = gcdI num den := rfl
  have gp := gcdI_pos (num := num) h2.1
  have gl := gcdI_le (num := num) h2.1
  have hz : ¬ (gcdI num den : Int) = 0 := by omega
  have t1 : num.tdiv (gcdI num den : Int) = rdN num den := Int.tdiv_eq_ediv_of_dvd (gcdI_dvd1 ..)
  have t2 : den.tdiv (gcdI num den : Int) = rdD num den := Int.tdiv_eq_ediv_of_dvd (gcdI_dvd2 ..)
  simp only [hg, euE, euS, hden] at hl
  obtain ⟨m1, m2⟩ := rd_mul num den
  have hp := rd_den_pos (num := num) h2.1
  have hdl : rdD num den ≤ den := by
    have := Int.mul_le_mul_of_nonneg_left (show (1 : Int) ≤ gcdI num den by omega) (Int.le_of_lt hp)
    omega
  have hnb := nat_le_mul (rdN num den) (show (1 : Int) ≤ gcdI num den by omega)
  rw [m1] at hnb
  have x1 : wrp .i64 (rdN num den) = rdN num den := wrp64 (by omega)
  have x2 : wrp .i64 (rdD num den) = rdD num den := wrp64 (by omega)
  simp only [seqX_normal, bindR_some, regX_some, blockX_exit, Bool.not_true, Bool.not_false, bodyX_ret, run_nil, run_cons, fget_cons', fput_cons', forget_nil, forget_cons', hget_nil', hget_cons', hset_nil', hset_cons', frame0, gcM_n, gcM_c, stp, opBox, justO, just, Rd.bind, Rd.run, Rd.opt, upds, acells, zeroCells, tsz, rdCells, aLoad, aStore, opStore, resA, resL, fresh, aBuiltin, aMax, aBin, aInt, putC, evO, Nat.reduceAdd, Nat.reduceGT, Nat.reduceBEq, Nat.reduceEqDiff, Nat.reduceLeDiff, ↓reduceIte, reduceCtorEq, liveBlk_eq, Nat.zero_add, ne_eq, List.nil_append, rtX_some, addT_some, drX_some, runT_nil, runT_cons, neat_eq, descF_nil', descF_cons', ascH_nil', ascH_cons', stpT, Rd.foot, writing, touching, Tr.empty, dynPairs, apartT, disj, List.isEmpty_nil, List.isEmpty_cons, List.map_nil, List.map_cons, Bool.not_false, Bool.not_true, Bool.true_or, Bool.or_true, Bool.or_false, Bool.and_true, Bool.true_and, Bool.and_self, decide_true, not_true_eq_false, or_self, partsOf, fillA, frz, aUn, putD_some, putD_none, and_true, snaps, snap, List.append_nil, Option.map_some, List.elem_cons, List.elem_nil, List.length_cons, List.length_nil, List.getElem?_cons_zero, List.getElem?_cons_succ, List.drop_zero, List.take_succ_cons, List.take_nil, List.set_cons_zero, List.set_cons_succ, T_27, x61_1, r61_0_l, s61_0_0, x61_3, r61_1_l, s61_1_0, s61_1_1, s61_1_2, s61_1_3, s61_1_4, s61_1_5, s61_1_6, x61_6, x61_5, x61_16, r61_4_l, r61_4_dr, r61_4_an, s61_4_0, s61_4_1, s61_4_2, s61_4_3, s61_4_4, s61_4_5, s61_4_6, s61_4_7, x61_17, x61_15, x61_4, x61_2, x61_0, b_61, w1, hmax, hl, hz, t1, t2, x1, x2, aBuild, placeF, fillA, List.all_cons, List.all_nil]
theorem reduced_call {d : Nat} {site : Nat → Nat} {seen : List Nat} {num den : Int} (h1 : -4611686018427387903 ≤ num ∧ num ≤ 4611686018427387903) (h2 : 0 < den ∧ den ≤ 4611686018427387903) :
    aBack site true seen (thaw (callA E fg 1000 (d + 1)) 61 [.int .i64 num, .int .i64 den] [] 0) = .pure (.agg [.int .i64 (rdN num den), .int .i64 (rdD num den)], []) := by
  obtain ⟨H, h⟩ := rs_ex (reduced_run (C := callA E fg 1000 d) h1 h2)
  exact aBack_plain (H' := H) h rfl (fun _ => rfl) rfl
structure Fr where
  num : Int
  den : Int
deriving Inhabited
def frc (f : Fr) : List AV := [.int .i64 f.num, .int .i64 f.den]
def rd (num den : Int) : Fr := ⟨rdN num den, rdD num den⟩
/-- A fraction and another one together. -/
def fadd (f : Fr) (num den : Int) : Fr := rd (f.num * den + num * f.den) (f.den * den)
theorem rd_den {num den : Int} (h : 0 < den) : 0 < (rd num den).den ∧ (rd num den).den ≤ den := by
  obtain ⟨_, h2⟩ := rd_mul num den
  have hg := gcdI_pos (num := num) h
  have hp := rd_den_pos (num := num) h
  have := Int.mul_le_mul_of_nonneg_left (show (1 : Int) ≤ gcdI num den by omega) (Int.le_of_lt hp)
  refine ⟨hp, ?_⟩
  show rdD num den ≤ den
  omega
theorem rd_cross {num den : Int} : (rd num den).num * den = num * (rd num den).den := by
  obtain ⟨h1, h2⟩ := rd_mul num den
  show rdN num den * den = num * rdD num den
  calc rdN num den * den = rdN num den * (rdD num den * (gcdI num den : Int)) := by rw [h2]
    _ = rdN num den * (gcdI num den : Int) * rdD num den := by ac_rfl
    _ = num * rdD num den := by rw [h1]
/-- Fractions that are equal have the same lowest terms. -/
theorem rd_coprime {a b : Int} (h : 0 < b) : Nat.gcd (rdN a b).natAbs (rdD a b).natAbs = 1 := by
  have hg := gcdI_pos (num := a) h
  have e1 : (rdN a b).natAbs = a.natAbs / gcdI a b := Int.natAbs_ediv_of_dvd (gcdI_dvd1 a b)
  have e2 : (rdD a b).natAbs = b.natAbs / gcdI a b := Int.natAbs_ediv_of_dvd (gcdI_dvd2 a b)
  rw [e1, e2]
  unfold gcdI at hg ⊢
  rw [Nat.gcd_div (Nat.gcd_dvd_left ..) (Nat.gcd_dvd_right ..)]
  exact Nat.div_self hg
theorem co_eq {p q r s : Int} (hq : 0 < q) (hs : 0 < s) (c1 : Nat.gcd p.natAbs q.natAbs = 1) (c2 : Nat.gcd r.natAbs s.natAbs = 1) (h : p * s = r * q) : q = s ∧ p = r := by
  have h1 : p.natAbs * s.natAbs = r.natAbs * q.natAbs := by rw [← Int.natAbs_mul, ← Int.natAbs_mul, h]
  have d1 : q.natAbs ∣ s.natAbs := (Nat.Coprime.dvd_of_dvd_mul_left (Nat.Coprime.symm c1) ⟨r.natAbs, by rw [h1, Nat.mul_comm]⟩)
  have d2 : s.natAbs ∣ q.natAbs := (Nat.Coprime.dvd_of_dvd_mul_left (Nat.Coprime.symm c2) ⟨p.natAbs, by rw [← h1, Nat.mul_comm]⟩)
  have e := Nat.dvd_antisymm d1 d2
  have hqs : q = s := by omega
  refine ⟨hqs, ?_⟩
  subst hqs
  exact Int.eq_of_mul_eq_mul_right (by omega) h
/-- Fractions that are equal have the same lowest terms. -/
theorem rd_eq {a b c d : Int} (hb : 0 < b) (hd : 0 < d) (h : a * d = c * b) : rd a b = rd c d := by
  have h1 := rd_cross (num := a) (den := b)
  have h3 := rd_cross (num := c) (den := d)
  have hp1 := rd_den_pos (num := a) hb
  have hp2 := rd_den_pos (num := c) hd
  simp only [rd] at h1 h3 ⊢
  have e : rdN a b * rdD c d = rdN c d * rdD a b := by
    have : (rdN a b * rdD c d) * (b * d) = (rdN c d * rdD a b) * (b * d) := by
      calc (rdN a b * rdD c d) * (b * d) = (rdN a b * b) * (rdD c d * d) := by ac_rfl
        _ = (a * d) * (rdD a b * rdD c d) := by rw [h1]; ac_rfl
        _ = (c * b) * (rdD a b * rdD c d) := by rw [h]
        _ = (c * rdD c d) * (b * rdD a b) := by ac_rfl
        _ = (rdN c d * d) * (b * rdD a b) := by rw [h3]
        _ = _ := by ac_rfl
    exact Int.eq_of_mul_eq_mul_right (Int.ne_of_gt (Int.mul_pos hb hd)) this
  obtain ⟨x1, x2⟩ := co_eq hp1 hp2 (rd_coprime hb) (rd_coprime hd) e
  rw [x1, x2]
theorem add_run {d : Nat} {f : Fr} {num den : Int} {M1 M2 : Int} (w1 : -M1 ≤ f.num * den ∧ f.num * den ≤ M1) (w2 : -M2 ≤ num * f.den ∧ num * f.den ≤ M2) (hM : M1 + M2 ≤ 4611686018427387903) (h2 : 0 < f.den * den ∧ f.den * den ≤ 4611686018427387903) :
    rsOf (callA E fg 1000 (d + 2) 74 [.agg (frc f), .int .i64 num, .int .i64 den] [] 0) = some (.agg (frc (fadd f num den))) := by
  change rsOf (bodyA E (callA E fg 1000 (d + 1)) fg 1000 74 _ _ _) = _
  have hr := fun (site : Nat → Nat) seen => reduced_call (d := d) (site := site) (seen := seen) (num := f.num * den + num * f.den) (den := f.den * den) (by omega) h2
  have x1 : wrp .i64 (f.num * den) = f.num * den := wrp64 (by omega)
  have x2 : wrp .i64 (num * f.den) = num * f.den := wrp64 (by omega)
  have x3 : wrp .i64 (f.num * den + num * f.den) = f.num * den + num * f.den := wrp64 (by omega)
  have x4 : wrp .i64 (f.den * den) = f.den * den := wrp64 (by omega)
  simp only [frc, seqX_normal, bindR_some, regX_some, bodyX_ret, run_nil, run_cons, fget_cons', fput_cons', forget_nil, forget_cons', hget_nil', hget_cons', hset_nil', hset_cons', frame0, gcM_c, stp, opBox, just, Rd.bind, Rd.run, Rd.opt, upds, acells, zeroCells, tsz, rdCells, fieldOf, aFieldAddr, aLoad, aStore, opStore, resA, resL, fresh, aBin, aInt, putC, Nat.reduceAdd, Nat.reduceBEq, Nat.reduceEqDiff, Nat.reduceLeDiff, ↓reduceIte, reduceCtorEq, liveBlk_eq, Nat.zero_add, Nat.add_zero, List.nil_append, frz, putD_some, putD_none, and_true, aCall, snaps, snap, List.append_nil, Option.map_some, List.elem_cons, List.elem_nil, List.length_cons, List.length_nil, List.getElem?_cons_zero, List.getElem?_cons_succ, List.drop_zero, List.take_succ_cons, List.take_nil, List.set_cons_zero, List.set_cons_succ, T_3, T_27, x74_1, r74_0_l, s74_0_0, s74_0_1, x74_3, r74_1_l, s74_1_0, s74_1_1, s74_1_2, s74_1_3, s74_1_4, s74_1_5, s74_1_6, s74_1_7, s74_1_8, s74_1_9, s74_1_10, s74_1_11, s74_1_12, s74_1_13, s74_1_14, x74_4, x74_2, x74_0, b_74, x1, x2, x3, x4, hr, fadd, rd]
theorem add_call {d : Nat} {site : Nat → Nat} {seen : List Nat} {f : Fr} {num den : Int} {M1 M2 : Int} (w1 : -M1 ≤ f.num * den ∧ f.num * den ≤ M1) (w2 : -M2 ≤ num * f.den ∧ num * f.den ≤ M2) (hM : M1 + M2 ≤ 4611686018427387903) (h2 : 0 < f.den * den ∧ f.den * den ≤ 4611686018427387903) :
    aBack site true seen (thaw (callA E fg 1000 (d + 2)) 74 [.agg (frc f), .int .i64 num, .int .i64 den] [] 0) = .pure (.agg (frc (fadd f num den)), []) := by
  obtain ⟨H, h⟩ := rs_ex (add_run (d := d) w1 w2 hM h2)
  exact aBack_plain (H' := H) h rfl (fun _ => rfl) rfl
end Go.AM.Ytmhbnflnlglljaa
end
