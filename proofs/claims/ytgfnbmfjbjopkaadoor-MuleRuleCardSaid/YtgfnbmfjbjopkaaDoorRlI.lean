/- A part of the proof of muleRule_card: MuG, MuH, MuI, MuJ, MuK, MuM. Own work of this project; texts printed by own programs among it. -/
import Derived.KernelRfl
import Derived.Test.YtgfnbmfjbjopkaaDoorRlH
section
namespace Go.AM.YtgfnbmfjbjopkaaDoor
open Go Go.AM Go.AM.Mule
set_option maxRecDepth 100000
set_option maxHeartbeats 4000000
/-- What a load costs on a day, by its number. -/
def cF (ls : List Ld) (i : Nat) (day : Int) : Int := ldC (ls.getD i default) day
theorem cF_at {ls : List Ld} {B : List Nat} {n : Nat} (h : TrOk ls B n) {i : Nat} (hi : i < n) : ∃ l, ls[i]? = some l ∧ LdOk l ∧ ∀ day, cF ls i day = ldC l day := by
  have hl : i < ls.length := by rw [h.l]; exact hi
  refine ⟨ls[i], List.getElem?_eq_getElem hl, h.ld _ (List.getElem_mem hl), fun day => ?_⟩
  simp [cF, hl]
theorem cF_b {ls : List Ld} {B : List Nat} {n : Nat} (h : TrOk ls B n) {i : Nat} (hi : i < n) {day : Int} (hd : 0 ≤ day ∧ day ≤ 1000) : 0 ≤ cF ls i day ∧ cF ls i day ≤ 9020 := by
  obtain ⟨l, _, h2, h3⟩ := cF_at h hi
  rw [h3]; exact ldC_b h2 hd
theorem cmpc_run {C : Callee} {ls : List Ld} {B : List Nat} {n : Nat} {e1 e2 : Bool} {i k : Nat} {day : Int} (h : TrOk ls B n) (hi : i < n) (hk : k < n) (hd : 0 ≤ day ∧ day ≤ 1000)
    (hc : ∀ (site : Nat → Nat) seen l, LdOk l → aBack site true seen (thaw C 99 [.agg (lc l), .int .i64 day] [] 0) = .pure (.int .i64 (ldC l day), [])) :
    rsOf (bodyA E C fg 1000 131 [.int .i64 (i : Int), .int .i64 (k : Int), .iptr (trA ls B n e1 e2) 0, .iptr [.int .i64 day] 0] [] 0) = some (.int .i64 (cF ls i day - cF ls k day)) := by
  obtain ⟨x, x1, x2, x3⟩ := cF_at h hi
  obtain ⟨y, y1, y2, y3⟩ := cF_at h hk
  have cx := fun site seen => hc site seen x x2
  have cy := fun site seen => hc site seen y y2
  have bx := ldC_b x2 hd
  have by' := ldC_b y2 hd
  have ax := cls_at lc_len x1
  have ay := cls_at lc_len y1
  have hlen : (cls lc ls).length = n * 5 := by rw [cls_length lc_len, h.l]
  have w : wrp .i64 (ldC x day - ldC y day) = ldC x day - ldC y day := wrp64 (by omega)
  rw [x3, y3]
  generalize ldC x day = X at *
  generalize ldC y day = Y at *
  simp only [lc] at cx cy ax ay
  simp (disch := omega) only [Bool.not_true, Bool.not_false, bodyX_ret, run_nil, run_cons, fget_cons', fput_cons', forget_nil, forget_cons', frame0, gcM_c, just, Rd.bind, Rd.run, Rd.opt, upds, tsz, rdCells, fieldOf, aFieldAddr, aLoad, resA, resL, aIndexAddr, aNum, aBin, aInt, Nat.reduceAdd, Nat.reduceLT, Nat.reduceBEq, Nat.reduceEqDiff, Nat.reduceLeDiff, ↓reduceIte, reduceCtorEq, Nat.zero_add, Nat.add_zero, rtX_some, addT_some, drX_some, runT_nil, runT_cons, neat_eq, descF_nil', descF_cons', ascH_nil', stpT, Rd.foot, writing, touching, Tr.empty, dynPairs, List.isEmpty_nil, List.map_nil, Bool.not_false, Bool.not_true, Bool.or_true, Bool.or_false, Bool.and_self, decide_true, putD_some, and_true, true_and, Int.natCast_nonneg, Int.ofNat_lt, Int.toNat_natCast, aCall, snaps, List.append_nil, Option.map_some, List.elem_cons, List.elem_nil, List.getElem?_cons_zero, seqN, bindN, regN, snap_int, snap_agg, Nat.le_refl, beq_self_eq_true, Bool.false_eq_true, T_3, T_106, T_109, T_126, beq_self_eq_true, x131_1, r131_0_l, s131_0_0, x131_3, r131_1_l, r131_1_dr, r131_1_an, s131_1_0, s131_1_1, s131_1_2, s131_1_3, s131_1_4, s131_1_5, s131_1_6, s131_1_7, s131_1_8, s131_1_9, s131_1_10, s131_1_11, s131_1_12, s131_1_13, s131_1_14, s131_1_15, x131_4, x131_2, x131_0, b_131, ax, ay, hlen, cx, cy, w, if_pos]
theorem cmpc_cmp {d : Nat} {ls : List Ld} {B : List Nat} {n : Nat} {e1 e2 : Bool} {day : Int} {l : List Nat} (h : TrOk ls B n) (hl : ∀ i ∈ l, i < n) (hd : 0 ≤ day ∧ day ≤ 1000) :
    Cmp (callA E fg 1000 (d + 2)) (.clo 131 [.iptr (trA ls B n e1 e2) 0, .iptr [.int .i64 day] 0]) l (fun i => cF ls i day) := by
  refine ⟨fun _ => rfl, fun site i k hi hk => ?_, rfl⟩
  have := aBack_int (site := site) (seen := []) (rs_ex (cmpc_run (C := callA E fg 1000 (d + 1)) (e1 := e1) (e2 := e2) h (hl i hi) (hl k hk) hd (fun site seen l hl => cost_call (d := d) hl hd)))
  simp only [opCallV, fi_131, aCall, List.cons_append, List.nil_append, List.append_nil, snaps, snap, Rd.bind]
  exact this
/-- The load that the rule picks of some. -/
def pkS (ls : List Ld) (B : List Nat) (s : Nat) : Nat := pick (fun i => cF ls i (daysS ls s)) (lsL B s)
def nxS (ls : List Ld) (B : List Nat) (s : Nat) : Nat := s &&& (63 - 1 <<< pkS ls B s)
def rS (ls : List Ld) (B : List Nat) (n : Nat) : Nat → Nat
  | 0 => 2 ^ n - 1
  | k + 1 => nxS ls B (rS ls B n k)
def rO (ls : List Ld) (B : List Nat) (n : Nat) : Nat → List Nat
  | 0 => []
  | k + 1 => rO ls B n k ++ [pkS ls B (rS ls B n k)]
def mxv (x y : Int) : Int := if y > x then y else x
def rC (ls : List Ld) (B : List Nat) (n : Nat) : Nat → Int
  | 0 => 0
  | k + 1 => mxv (rC ls B n k) (cF ls (pkS ls B (rS ls B n k)) (daysS ls (rS ls B n k)))
theorem rO_len (ls B n) : ∀ k, (rO ls B n k).length = k
  | 0 => rfl
  | k + 1 => by simp [rO, rO_len ls B n k]
theorem ls_mem {B : List Nat} {s i : Nat} (h : i ∈ lsL B s) : i ∈ lst s := (List.mem_filter.1 h).1
theorem ls_ne {B : List Nat} (hT : Ord (bit B)) {s : Nat} (hs : s < 64) (h0 : s ≠ 0) : lsL B s ≠ [] := by
  obtain ⟨i, hi⟩ := lasts_ex hT (S := lst s) (fun e => h0 ((lst_nil s hs).1 e))
  intro e
  rw [lsL] at e
  rw [e] at hi
  simp at hi
theorem pk_mem {ls : List Ld} {B : List Nat} (hT : Ord (bit B)) {s : Nat} (hs : s < 64) (h0 : s ≠ 0) : pkS ls B s ∈ lsL B s := (pick_spec _ (ls_ne hT hs h0)).1
theorem and_lt {a b n : Nat} (h : a < 2 ^ n) : a &&& b < 2 ^ n := Nat.lt_of_le_of_lt Nat.and_le_left h
abbrev ruS (ls : List Ld) (B : List Nat) (n : Nat) (e1 e2 : Bool) (s : Nat) (c : Int) (o : List Nat) : St :=
  ([(6, .int .u64 (s : Int)), (5, .int .i64 c), (4, oV 37 1 o.length), (1, .ptr 1 0 2)], (1, ⟨.box, trA ls B n e1 e2⟩) :: oH 37 (ins o))
theorem room3 {n : Nat} (h : n ≤ 1000000) : roomOk E.T 3 n = true := by
  simp only [roomOk, T_3, decide_eq_true_eq]; exact ⟨by decide, rfl, by omega⟩
theorem ru_go {d : Nat} {ls : List Ld} {B : List Nat} {n : Nat} {e1 e2 : Bool} (h : TrOk ls B n) (hT : Ord (bit B)) {s : Nat} (hs : s < 2 ^ n) (h0 : s ≠ 0) (c : Int) (o : List Nat) (ho : o.length ≤ 6) :
    ∃ s', execA E (callA E fg 1000 (d + 5)) (fg 89) 0 46 [] 1000 c89_11 (ruS ls B n e1 e2 s c o) = some (.normal, s') ∧
      headA [] s' = ruS ls B n e1 e2 (nxS ls B s) (mxv c (cF ls (pkS ls B s) (daysS ls s))) (o ++ [pkS ls B s]) := by
  have h64 := lt64 h.le hs
  have hd := daysS_b h hs
  have hdays := fun (site : Nat → Nat) seen => days_call (d := d) (site := site) (seen := seen) (e1 := e1) (e2 := e2) h hs
  have hlasts := fun (site : Nat → Nat) seen => lasts_call (d := d) (site := site) (seen := seen) (e1 := e1) (e2 := e2) h hs h0
  have hne := ls_ne hT h64 h0
  have hln : ∀ i ∈ lsL B s, i < n := fun i hi => lst_ltN h.le hs i (ls_mem hi)
  obtain ⟨x, r, e1', e2'⟩ := mn_pick' (fun i => cF ls i (daysS ls s)) hne
  have hmf := fun (site : Nat → Nat) seen => mf_call (site := site) (seen := seen) (ex := false) (cmpc_cmp (d := d + 2) (e1 := e1) (e2 := e2) (l := x :: r) h (fun i hi => hln i (by rw [← List.mem_reverse, e1']; exact hi)) (show 0 ≤ daysS ls s ∧ daysS ls s ≤ 1000 by omega)) (by
    have := congrArg List.length e1'
    have := ls_le B s
    have := lst_len s
    simp only [List.length_reverse, List.length_cons] at *; omega)
  rw [e2', ← e1'] at hmf
  have hrl : (lsL B s).reverse.length = (lsL B s).length := List.length_reverse
  have hpk := pk_mem (ls := ls) hT h64 h0
  obtain ⟨y, y1, y2, y3⟩ := cF_at h (hln _ hpk)
  have hcost := fun (site : Nat → Nat) seen => cost_call (d := d + 4) (site := site) (seen := seen) y2 (show 0 ≤ daysS ls s ∧ daysS ls s ≤ 1000 by omega)
  have hp6 : pkS ls B s < 6 := Nat.lt_of_lt_of_le (hln _ hpk) h.le
  have hpn := hln _ hpk
  have ay := cls_at lc_len y1
  have hlen : (cls lc ls).length = n * 5 := by rw [cls_length lc_len, h.l]
  rw [show nxS ls B s = s &&& (63 - 1 <<< pkS ls B s) from rfl, y3]
  have hle := ls_le B s
  have hl6 := lst_len s
  have hcl := lsCells_len B s
  have hrev : ∀ (H : AHeap), hset H 19 ⟨.row, lsCells B s⟩ = H → (hget H 19).isSome = true → ascH 0 H = true → callA E fg 1000 (d + 5) 129 [.ref 19 0 (lsL B s).length (lst s).length (lst s).length 1 false] H 368 = some (.tup [], hset H 19 ⟨.row, ins (lsL B s).reverse ++ ins (List.replicate ((lst s).length - (lsL B s).length) 0)⟩) := by
    intro H a1 a2 a3
    exact rev_run (C := callA E fg 1000 (d + 4)) (B := 368) (l := lsL B s) (z := ins (List.replicate ((lst s).length - (lsL B s).length) 0)) (by rw [← ins_app]; exact a1) a2 a3 (by rw [ins_length, List.length_replicate]; omega) (by omega)
  have hpke : pick (fun i => cF ls i (daysS ls s)) (lsL B s) = pkS ls B s := rfl
  rw [hpke] at hmf
  have htk : List.take (lsL B s).length (ins (lsL B s).reverse ++ ins (List.replicate ((lst s).length - (lsL B s).length) 0)) = ins (lsL B s).reverse := by
    rw [List.take_left' (by rw [ins_length, hrl])]
  have hcl2 : (ins (lsL B s).reverse ++ ins (List.replicate ((lst s).length - (lsL B s).length) 0)).length = (lst s).length := by
    rw [List.length_append, ins_length, ins_length, hrl, List.length_replicate]; omega
  rw [hrl] at hmf
  have hn64 : 1 <<< pkS ls B s < 64 := by
    have : pkS ls B s = 0 ∨ pkS ls B s = 1 ∨ pkS ls B s = 2 ∨ pkS ls B s = 3 ∨ pkS ls B s = 4 ∨ pkS ls B s = 5 := by omega
    rcases this with e | e | e | e | e | e <;> rw [e] <;> decide
  have hshl := shl64 (i := pkS ls B s) (by omega)
  have hand := bk_andNot h64 hn64
  generalize callA E fg 1000 (d + 5) = C at *
  generalize pkS ls B s = p at *
  generalize (lsL B s).length = m at *
  generalize (lst s).length = q at *
  generalize daysS ls s = day at *
  generalize lsCells B s = cs at *
  generalize ins (lsL B s).reverse ++ ins (List.replicate (q - m) 0) = cs2 at *
  generalize ldC y day = cy at *
  simp only [lc] at ay hcost
  have hp : (p : Int) < n := by omega
  have hmx : (if cy > c then cy else c) = mxv c cy := rfl
  generalize mxv c cy = c2 at *
  have hin := ins_length o
  have hm : ∀ args caps, mutV E (.clo 129 caps) args = some (129, args ++ caps) := fun _ _ => rfl
  have hsu : (s : Int) ≠ 0 := by omega
  cases o with
  | nil =>
    have hrev1 := hrev [(1, ⟨.box, trA ls B n e1 e2⟩), (7, ⟨.box, [.int .i64 day]⟩), (19, ⟨.row, cs⟩)] rfl rfl rfl
    simp only [ruS, oV, oH, List.length_nil, ins, List.map_nil, List.map_cons, List.nil_append, List.length_singleton]
    simp (disch := omega) only [condX_bool, blockX_normal, Bool.not_true, Bool.not_false, run_nil, run_cons, fget_cons', fput_cons', forget_nil, forget_cons', hget_nil', hget_cons', hset_nil', hset_cons', gcM_c, stp, opBox, justO, just, Rd.bind, Rd.run, Rd.opt, upds, acells, zeroCells, tsz, elemT, rdCells, fieldOf, aFieldAddr, aLoad, aStore, opStore, fresh, aIndexAddr, aNum, aBuiltin, aMax, aBin, aInt, putC, evO, Nat.reduceAdd, Nat.reduceMul, Nat.reduceLT, Nat.reduceBEq, Nat.reduceEqDiff, Nat.reduceLeDiff, ↓reduceIte, reduceCtorEq, liveBlk_eq, Nat.zero_add, Nat.add_zero, bne_iff_ne, ne_eq, List.nil_append, List.getElem?_toArray, rtX_some, addT_some, drX_some, runT_nil, runT_cons, neat_eq, descF_nil', descF_cons', ascH_nil', ascH_cons', stpT, Rd.foot, writing, touching, Tr.empty, dynPairs, apartT, disj, List.isEmpty_nil, List.isEmpty_cons, List.map_nil, Bool.not_false, Bool.not_true, Bool.true_or, Bool.or_true, Bool.or_false, Bool.and_true, Bool.true_and, Bool.and_self, decide_true, not_true_eq_false, not_false_eq_true, or_self, aBuildSlice, partsOf, fillA, repC, isSliceT, aAppend, srcOf, window, putD_some, putD_none, and_true, Int.natCast_nonneg, Int.toNat_natCast, mutX, aCall, snaps, List.append_nil, List.elem_cons, List.elem_nil, List.length_cons, List.length_nil, List.getElem?_cons_zero, List.getElem?_cons_succ, List.drop_zero, List.take_succ_cons, List.take_nil, List.set_cons_zero, frz_nil, seqN, bindN, regN, snap_int, snap_imm, snap_ref, snap_ptr', snap_agg, snap_clo, List.all_cons, List.all_nil, back1_r, List.cons_append, Nat.le_refl, Nat.mul_one, Nat.zero_mul, List.not_mem_nil, beq_self_eq_true, Nat.lt_irrefl, Bool.false_eq_true, Bool.false_and, T_3, T_36, T_106, T_109, T_126, List.all_cons, List.all_nil, List.getD_cons_zero, List.getD_cons_succ, beq_self_eq_true, x89_13, r89_4_l, s89_4_0, s89_4_1, x89_15, x89_16, x89_14, x89_12, x89_19, r89_5_l, s89_5_0, s89_5_1, s89_5_2, s89_5_3, s89_5_4, x89_21, r89_6_l, s89_6_0, s89_6_1, s89_6_2, s89_6_3, x89_23, r89_7_l, s89_7_0, s89_7_1, x89_25, r89_8_l, s89_8_0, s89_8_1, s89_8_2, s89_8_3, x89_27, r89_9_l, r89_9_dr, r89_9_an, s89_9_0, s89_9_1, s89_9_2, s89_9_3, s89_9_4, s89_9_5, s89_9_6, s89_9_7, s89_9_8, s89_9_9, x89_29, r89_10_l, s89_10_0, s89_10_1, s89_10_2, s89_10_3, s89_10_4, x89_30, r89_11_l, s89_11_0, s89_11_1, s89_11_2, s89_11_3, s89_11_4, x89_28, x89_26, x89_24, x89_22, x89_20, x89_18, x89_17, x89_11, hsu, hdays, hlasts, hrev1, htk, hcl2, hmf, ay, hlen, hp, hcost, hmx, hshl, hand, if_pos, room3 (show 1 ≤ 1000000 by omega)]
    exact ⟨_, rfl, rfl⟩
  | cons a o => 
    have hl1 : (a :: o).length = o.length + 1 := rfl
    have hl2 : ((a :: o) ++ [p]).length = o.length + 1 + 1 := by simp
    have hsn := ins_snoc (a :: o) p
    have htk2 : List.take (o.length + 1) (ins (a :: o)) = ins (a :: o) := ins_takeA (a :: o)
    have hc1 : oH 37 (ins (a :: o)) = [(37, ⟨.row, ins (a :: o)⟩)] := rfl
    have hc2 : oH 37 (ins ((a :: o) ++ [p])) = [(37, ⟨.row, ins ((a :: o) ++ [p])⟩)] := rfl
    rw [hl1] at hin
    have hno : ¬ o.length + 1 + 1 ≤ o.length + 1 := by omega
    have hrev1 := hrev [(1, ⟨.box, trA ls B n e1 e2⟩), (7, ⟨.box, [.int .i64 day]⟩), (19, ⟨.row, cs⟩), (37, ⟨.row, ins (a :: o)⟩)] rfl rfl rfl
    simp only [ruS, hl1, hl2, hc1, hc2, oV]
    generalize ins (a :: o ++ [p]) = oc2 at *
    generalize ins (a :: o) = oc at *
    simp (disch := omega) only [condX_bool, blockX_normal, Bool.not_true, Bool.not_false, run_nil, run_cons, fget_cons', fput_cons', forget_nil, forget_cons', hget_nil', hget_cons', hset_cons', gcM_c, stp, opBox, justO, just, Rd.bind, Rd.run, Rd.opt, upds, acells, zeroCells, tsz, elemT, rdCells, fieldOf, aFieldAddr, aLoad, aStore, opStore, fresh, aIndexAddr, aNum, aBuiltin, aMax, aBin, aInt, putC, evO, Nat.reduceAdd, Nat.reduceMul, Nat.reduceLT, Nat.reduceBEq, Nat.reduceEqDiff, Nat.reduceLeDiff, ↓reduceIte, reduceCtorEq, liveBlk_eq, Nat.zero_add, Nat.add_zero, bne_iff_ne, ne_eq, List.nil_append, List.getElem?_toArray, rtX_some, addT_some, drX_some, runT_nil, runT_cons, neat_eq, descF_nil', descF_cons', ascH_nil', ascH_cons', stpT, Rd.foot, writing, touching, Tr.empty, dynPairs, apartT, disj, List.isEmpty_nil, List.isEmpty_cons, List.map_nil, Bool.not_false, Bool.not_true, Bool.true_or, Bool.or_true, Bool.or_false, Bool.and_true, Bool.true_and, Bool.and_self, decide_true, not_true_eq_false, not_false_eq_true, or_self, aBuildSlice, partsOf, fillA, repC, isSliceT, aAppend, srcOf, window, putD_some, putD_none, and_true, Int.natCast_nonneg, Int.toNat_natCast, mutX, aCall, snaps, List.append_nil, List.elem_cons, List.elem_nil, List.length_cons, List.length_nil, List.getElem?_cons_zero, List.getElem?_cons_succ, List.drop_zero, List.take_succ_cons, List.take_nil, List.set_cons_zero, frz_nil, seqN, bindN, regN, snap_int, snap_imm, snap_ref, snap_ptr', snap_agg, snap_clo, List.all_cons, List.all_nil, back1_r, List.cons_append, Nat.le_refl, Nat.mul_one, Nat.zero_mul, List.not_mem_nil, beq_self_eq_true, Nat.lt_irrefl, Bool.false_eq_true, Bool.false_and, T_3, T_36, T_106, T_109, T_126, List.all_cons, List.all_nil, List.getD_cons_zero, List.getD_cons_succ, beq_self_eq_true, x89_13, r89_4_l, s89_4_0, s89_4_1, x89_15, x89_16, x89_14, x89_12, x89_19, r89_5_l, s89_5_0, s89_5_1, s89_5_2, s89_5_3, s89_5_4, x89_21, r89_6_l, s89_6_0, s89_6_1, s89_6_2, s89_6_3, x89_23, r89_7_l, s89_7_0, s89_7_1, x89_25, r89_8_l, s89_8_0, s89_8_1, s89_8_2, s89_8_3, x89_27, r89_9_l, r89_9_dr, r89_9_an, s89_9_0, s89_9_1, s89_9_2, s89_9_3, s89_9_4, s89_9_5, s89_9_6, s89_9_7, s89_9_8, s89_9_9, x89_29, r89_10_l, s89_10_0, s89_10_1, s89_10_2, s89_10_3, s89_10_4, x89_30, r89_11_l, s89_11_0, s89_11_1, s89_11_2, s89_11_3, s89_11_4, x89_28, x89_26, x89_24, x89_22, x89_20, x89_18, x89_17, x89_11, hsu, hdays, hlasts, hrev1, htk, hcl2, hmf, ay, hlen, hp, hcost, hmx, hshl, hand, hin, hno, hsn, htk2, if_pos, room3 (show o.length + 1 + 1 ≤ 1000000 by omega)]
    exact ⟨_, rfl, rfl⟩
theorem rS_lt (ls B n) : ∀ k, rS ls B n k < 2 ^ n
  | 0 => by have := Nat.two_pow_pos n; simp only [rS]; omega
  | k + 1 => and_lt (rS_lt ls B n k)
theorem rS_step {ls : List Ld} {B : List Nat} {n : Nat} (h : TrOk ls B n) (hT : Ord (bit B)) (k : Nat) (h0 : rS ls B n k ≠ 0) : lst (rS ls B n (k + 1)) = (lst (rS ls B n k)).erase (pkS ls B (rS ls B n k)) ∧ pkS ls B (rS ls B n k) ∈ lst (rS ls B n k) := by
  have h64 := lt64 h.le (rS_lt ls B n k)
  have hm := ls_mem (pk_mem (ls := ls) hT h64 h0)
  exact ⟨lst_erase _ h64 _ (lst_lt hm), hm⟩
theorem rS_len {ls : List Ld} {B : List Nat} {n : Nat} (h : TrOk ls B n) (hT : Ord (bit B)) : ∀ k, k ≤ n → (lst (rS ls B n k)).length = n - k
  | 0, _ => by simp only [rS]; rw [lst_full n h.le, List.length_range]; omega
  | k + 1, hk => by
    have ih := rS_len h hT k (by omega)
    have h0 : rS ls B n k ≠ 0 := by
      intro e
      rw [e] at ih
      have : (lst 0).length = 0 := rfl
      omega
    obtain ⟨e, hm⟩ := rS_step h hT k h0
    rw [e, List.length_erase_of_mem hm, ih]
    omega
theorem rS_ne {ls : List Ld} {B : List Nat} {n : Nat} (h : TrOk ls B n) (hT : Ord (bit B)) {k : Nat} (hk : k < n) : rS ls B n k ≠ 0 := by
  have := rS_len h hT k (by omega)
  intro e
  rw [e] at this
  have : (lst 0).length = 0 := rfl
  omega
theorem rS_end {ls : List Ld} {B : List Nat} {n : Nat} (h : TrOk ls B n) (hT : Ord (bit B)) : rS ls B n n = 0 := by
  have := rS_len h hT n (Nat.le_refl _)
  exact (lst_nil _ (lt64 h.le (rS_lt ls B n n))).1 (List.length_eq_zero_iff.1 (by omega))
/-- In plain words. -/
theorem rO_rule {ls : List Ld} {B : List Nat} {n : Nat} (h : TrOk ls B n) (hT : Ord (bit B)) : ∀ m k, m + k = n → (rO ls B n n).reverse = ruleL (bit B) (hiF ls) (cF ls) m (lst (rS ls B n k)) ++ (rO ls B n k).reverse
  | 0, k, e => by
    obtain rfl : k = n := by omega
    simp [ruleL]
  | m + 1, k, e => by
    have h0 := rS_ne h hT (show k < n by omega)
    obtain ⟨h1, h2⟩ := rS_step h hT k h0
    rw [rO_rule h hT m (k + 1) (by omega), h1]
    have e2 : (rO ls B n (k + 1)).reverse = pkS ls B (rS ls B n k) :: (rO ls B n k).reverse := by simp [rO]
    rw [e2]
    have e3 : ruleL (bit B) (hiF ls) (cF ls) (m + 1) (lst (rS ls B n k)) = ruleL (bit B) (hiF ls) (cF ls) m ((lst (rS ls B n k)).erase (pkS ls B (rS ls B n k))) ++ [pkS ls B (rS ls B n k)] := by
      cases hl : lst (rS ls B n k) with
      | nil => rw [hl] at h2; simp at h2
      | cons x r =>
        simp only [ruleL]
        have : pkS ls B (rS ls B n k) = pick (fun i => cF ls i (days (hiF ls) (x :: r))) (lastsL (bit B) (x :: r)) := by rw [← hl]; rfl
        rw [this]
    rw [e3, List.append_assoc]
    rfl
/-- The order of the rule, and its cost. -/
def ruO (ls : List Ld) (B : List Nat) (n : Nat) : List Nat := ruleL (bit B) (hiF ls) (cF ls) n (List.range n)
theorem ruO_eq {ls : List Ld} {B : List Nat} {n : Nat} (h : TrOk ls B n) (hT : Ord (bit B)) : (rO ls B n n).reverse = ruO ls B n := by
  have := rO_rule h hT n 0 (by omega)
  rw [this]
  simp only [rS, rO, List.reverse_nil, List.append_nil, ruO]
  rw [lst_full n h.le]
theorem mxv_max (x y : Int) : mxv x y = max x y := by unfold mxv; split <;> omega
theorem rC_mc {ls : List Ld} {B : List Nat} {n : Nat} (h : TrOk ls B n) (hT : Ord (bit B)) : ∀ m k, m + k = n → rC ls B n n = max (rC ls B n k) (mc (hiF ls) (cF ls) 0 (ruleL (bit B) (hiF ls) (cF ls) m (lst (rS ls B n k))))
  | 0, k, e => by
    obtain rfl : k = n := by omega
    simp only [ruleL, mc]
    have key : ∀ j, 0 ≤ rC ls B k j := by
      intro j
      induction j with
      | zero => exact Int.le_refl _
      | succ j ih => simp only [rC, mxv_max]; omega
    have := key k
    omega
  | m + 1, k, e => by
    have h0 := rS_ne h hT (show k < n by omega)
    obtain ⟨h1, h2⟩ := rS_step h hT k h0
    rw [rC_mc h hT m (k + 1) (by omega), h1]
    have e3 : ruleL (bit B) (hiF ls) (cF ls) (m + 1) (lst (rS ls B n k)) = ruleL (bit B) (hiF ls) (cF ls) m ((lst (rS ls B n k)).erase (pkS ls B (rS ls B n k))) ++ [pkS ls B (rS ls B n k)] := by
      cases hl : lst (rS ls B n k) with
      | nil => rw [hl] at h2; simp at h2
      | cons x r =>
        simp only [ruleL]
        have : pkS ls B (rS ls B n k) = pick (fun i => cF ls i (days (hiF ls) (x :: r))) (lastsL (bit B) (x :: r)) := by rw [← hl]; rfl
        rw [this]
    have hperm := (ruleL_spec hT (d := hiF ls) (c := cF ls) m ((lst (rS ls B n k)).erase (pkS ls B (rS ls B n k))) ((lst_nodup _).erase _) (by
      rw [List.length_erase_of_mem h2, rS_len h hT k (by omega)]; omega)).1
    rw [e3, mc_app _ _ _ _ _ (fun now o => mc_nonneg now o)]
    have hday : 0 + days (hiF ls) (ruleL (bit B) (hiF ls) (cF ls) m ((lst (rS ls B n k)).erase (pkS ls B (rS ls B n k)))) + hiF ls (pkS ls B (rS ls B n k)) = daysS ls (rS ls B n k) := by
      rw [days_perm hperm, daysS, days_perm (List.perm_cons_erase h2)]
      simp only [days]; omega
    simp only [mc, rC, mxv_max, hday]
    have : 0 ≤ cF ls (pkS ls B (rS ls B n k)) (daysS ls (rS ls B n k)) := (cF_b h (lst_ltN h.le (rS_lt ls B n k) _ h2) (by have := daysS_b h (rS_lt ls B n k); omega)).1
    omega
def ruC (ls : List Ld) (B : List Nat) (n : Nat) : Int := mc (hiF ls) (cF ls) 0 (ruO ls B n)
theorem ruC_eq {ls : List Ld} {B : List Nat} {n : Nat} (h : TrOk ls B n) (hT : Ord (bit B)) : rC ls B n n = ruC ls B n := by
  have := rC_mc h hT n 0 (by omega)
  rw [this]
  simp only [rS, rC, ruC, ruO]
  rw [lst_full n h.le]
  have := mc_nonneg (d := hiF ls) (c := cF ls) 0 (ruleL (bit B) (hiF ls) (cF ls) n (List.range n))
  omega
theorem rule_run {d : Nat} {ls : List Ld} {B : List Nat} {n : Nat} {e1 e2 : Bool} (h : TrOk ls B n) (hT : Ord (bit B)) :
    ∃ H', bodyA E (callA E fg 1000 (d + 5)) fg 1000 89 [.agg (trA ls B n e1 e2)] [] 0 = some (.tup [.ref 37 0 n n n 1 false, .int .i64 (ruC ls B n)], H') ∧ hget H' 37 = some ⟨.row, ins (ruO ls B n)⟩ := by
  have hall := fun (site : Nat → Nat) seen => all_call (d := d + 4) (site := site) (seen := seen) (ls := ls) (B := B) (e1 := e1) (e2 := e2) h.le
  have hle := h.le
  have hne := h.ne
  have ruC' := ruC_eq h hT
  have ruO' := ruO_eq h hT
  have hol := rO_len ls B n n
  have hgo := fun k (hk : k < n) => ru_go (d := d) (e1 := e1) (e2 := e2) h hT (rS_lt ls B n k) (rS_ne h hT hk) (rC ls B n k) (rO ls B n k) (by rw [rO_len]; omega)
  have hrev := rev_run (C := callA E fg 1000 (d + 4)) (B := 368) (H := [(1, ⟨.box, trA ls B n e1 e2⟩), (37, ⟨.row, ins (rO ls B n n)⟩)]) (k := 37) (c := n) (l := rO ls B n n) (z := []) (by rw [List.append_nil]; rfl) rfl rfl (by rw [hol]; rfl) (by omega)
  rw [ruO', hol, List.append_nil] at hrev
  have hrev' : callA E fg 1000 (d + 5) 129 [.ref 37 0 n n n 1 false] [(1, ⟨.box, trA ls B n e1 e2⟩), (37, ⟨.row, ins (rO ls B n n)⟩)] 368 = _ := hrev
  have hlen : (ins (ruO ls B n)).length = n := by rw [ins_length, ← ruO', List.length_reverse, hol]
  generalize callA E fg 1000 (d + 5) = C at *
  have hloop := loopN (f := (execA E C (fg 89) 0 46 [] 1000 c89_11)) (fun k => ruS ls B n e1 e2 (rS ls B n k) (rC ls B n k) (rO ls B n k)) n
    hgo rfl (by omega)
    (e := .exit 0) (se := ([(13, .bool false), (6, .int .u64 0), (5, .int .i64 (ruC ls B n)), (4, .ref 37 0 n n n 1 false), (1, .ptr 1 0 2)], [(1, ⟨.box, trA ls B n e1 e2⟩), (37, ⟨.row, ins (rO ls B n n)⟩)]))
    (by
      simp only [rS_end h hT, ruC']
      generalize rO ls B n n = o at *
      cases o with
      | nil => simp at hol; omega
      | cons a o =>
        have e1 : oV 37 1 (a :: o).length = .ref 37 0 n n n 1 false := by rw [← hol]; simp only [oV, List.length_cons, Nat.mul_one]
        have e2 : oH 37 (ins (a :: o)) = [(37, ⟨.row, ins (a :: o)⟩)] := rfl
        have z0 : ((0 : Nat) : Int) = 0 := rfl
        simp only [ruS, e1, e2, z0]
        simp (disch := omega) only [seqX_exit, condX_bool, run_nil, run_cons, fget_cons', fput_cons', forget_nil, forget_cons', gcM_c, stp, just, Rd.bind, Rd.run, Rd.opt, upds, aBin, aInt, Nat.reduceBEq, Nat.reduceEqDiff, Nat.reduceLeDiff, ↓reduceIte, putD_some, List.elem_cons, List.elem_nil, seqN, bindN, regN, beq_self_eq_true, bne_self_eq_false, Bool.false_eq_true, beq_self_eq_true, x89_13, r89_4_l, s89_4_0, s89_4_1, x89_15, x89_16, x89_14, x89_12, x89_11]) (by simp)
  refine ⟨[(1, ⟨.box, trA ls B n e1 e2⟩), (37, ⟨.row, ins (ruO ls B n)⟩)], ?_, rfl⟩
  have z : ∀ x, hset [(1, ⟨.box, trA ls B n e1 e2⟩), (37, ⟨.row, ins (rO ls B n n)⟩)] 37 x = [(1, ⟨.box, trA ls B n e1 e2⟩), (37, x)] := fun _ => rfl
  rw [z] at hrev'
  simp only [ruS, rS, rC, rO, oV, oH, List.length_nil, ins, List.map_nil] at hloop
  rw [show List.map (fun (i : Nat) => AV.int .i64 (i : Int)) (rO ls B n n) = ins (rO ls B n n) from rfl] at hloop
  simp (disch := omega) only [blockX_exit, bodyX_ret, run_nil, run_cons, fget_cons', fput_nil, fput_cons', forget_nil, forget_cons', hget_nil', hget_cons', hset_nil', frame0, gcM_n, gcM_c, stp, opBox, just, Rd.bind, Rd.run, Rd.opt, upds, acells, rdCells, aLoad, resA, resL, fresh, Nat.reduceAdd, Nat.reduceMul, Nat.reduceBEq, Nat.reduceEqDiff, Nat.reduceLeDiff, ↓reduceIte, reduceCtorEq, liveBlk_eq, Nat.zero_add, putD_some, mutX, aCall, snaps, List.append_nil, Option.map_some, List.elem_cons, List.elem_nil, List.length_cons, List.length_nil, List.drop_zero, List.take_succ_cons, List.take_nil, seqN, bindN, regN, snap_imm, snap_agg, Nat.le_refl, beq_self_eq_true, Bool.false_eq_true, T_109, beq_self_eq_true, x89_1, r89_0_l, s89_0_0, s89_0_1, s89_0_2, x89_3, r89_1_l, s89_1_0, x89_5, r89_2_l, s89_2_0, x89_8, r89_3_l, s89_3_0, s89_3_1, s89_3_2, x89_10, x89_9, x89_7, x89_32, r89_12_l, s89_12_0, s89_12_1, x89_34, r89_13_l, s89_13_0, s89_13_1, s89_13_2, s89_13_3, x89_35, x89_33, x89_31, x89_6, x89_4, x89_2, x89_0, b_89, hall, hloop, hrev']
end Go.AM.YtgfnbmfjbjopkaaDoor
end

section
namespace Go.AM.YtgfnbmfjbjopkaaDoor
open Go Go.AM Go.AM.Mule
set_option maxRecDepth 100000
set_option maxHeartbeats 4000000
/-- A slice of things, as it is handed. -/
def SV {α : Type} (f : α → List AV) (l : List α) (a : AV) : Prop := (l = [] ∧ a = .nilsl) ∨ ∃ ex, a = .imm (cls f l) l.length ex
abbrev Pr := Int × Int
def bc (p : Pr) : List AV := [.int .i64 p.1, .int .i64 p.2]
theorem bc_len (p : Pr) : (bc p).length = 2 := rfl
theorem rec_run {C : Callee} {l : Ld} : rsOf (bodyA E C fg 1000 126 [.agg (lc l)] [] 0) = some (.agg (lc l)) := by
  simp (disch := omega) only [bodyX_ret, run_nil, run_cons, fget_cons', fput_cons', forget_nil, forget_cons', hget_nil', hget_cons', hset_nil', hset_cons', frame0, gcM_c, stp, opBox, justO, just, Rd.bind, Rd.run, Rd.opt, upds, acells, zeroCells, tsz, rdCells, fieldOf, aFieldAddr, aLoad, aStore, opStore, resA, resL, fresh, putC, evO, Nat.reduceAdd, Nat.reduceGT, Nat.reduceBEq, Nat.reduceEqDiff, Nat.reduceLeDiff, ↓reduceIte, reduceCtorEq, liveBlk_eq, Nat.zero_add, Nat.add_zero, ne_eq, List.nil_append, not_true_eq_false, or_self, partsOf, fillA, putD_some, putD_none, and_true, snaps, List.append_nil, Option.map_some, List.elem_cons, List.elem_nil, List.length_cons, List.length_nil, List.getElem?_cons_zero, List.getElem?_cons_succ, List.drop_zero, List.take_succ_cons, List.take_nil, List.set_cons_zero, List.set_cons_succ, frz_nil, seqN, bindN, regN, snap_int, aBuild, Nat.le_refl, Nat.mul_one, List.not_mem_nil, beq_self_eq_true, Nat.lt_irrefl, Bool.false_eq_true, T_3, T_62, T_126, beq_self_eq_true, x126_1, r126_0_l, s126_0_0, s126_0_1, x126_3, r126_1_l, s126_1_0, s126_1_1, s126_1_2, s126_1_3, s126_1_4, s126_1_5, s126_1_6, s126_1_7, s126_1_8, s126_1_9, s126_1_10, s126_1_11, x126_4, x126_2, x126_0, b_126, lc, putC]
def cl (lo hi x : Int) : Int := if hi < (if lo > x then lo else x) then hi else (if lo > x then lo else x)
def wiL (l : Ld) : List Int := [cl 1 9 l.lo, cl 1 9 l.hi, cl 0 54 l.due, cl 0 9 l.rate, cl 0 20 l.base]
theorem within_run {C : Callee} {a b c d e : Int} : rsOf (bodyA E C fg 1000 127 [.agg [.int .i64 a, .int .i64 b, .int .i64 c, .int .i64 d, .int .i64 e]] [] 0) = some (.agg (ics [cl 1 9 a, cl 1 9 b, cl 0 54 c, cl 0 9 d, cl 0 20 e])) := by kernel_rfl
def ldI (l : Ld) : List Int := [l.lo, l.hi, l.due, l.rate, l.base]
theorem eqInts_ics : ∀ (xs ys : List Int), xs.length = ys.length → eqInts .i64 (ics xs) (ics ys) = some (decide (xs = ys))
  | [], [], _ => rfl
  | [], _ :: _, h => by simp at h
  | _ :: _, [], h => by simp at h
  | x :: xs, y :: ys, h => by
    have ih := eqInts_ics xs ys (by simpa using h)
    simp only [ics] at ih
    simp only [ics, List.map_cons, eqInts, and_self, if_true, ih, List.cons.injEq]
    by_cases e : x = y
    · subst e; simp
    · have : (x == y) = false := by rw [beq_eq_false_iff_ne]; exact e
      simp [this, e]
/-- Is each number of a load within its bounds? -/
def ldB (l : Ld) : Bool := decide ((1 ≤ l.lo ∧ l.lo ≤ 9) ∧ (1 ≤ l.hi ∧ l.hi ≤ 9) ∧ (0 ≤ l.due ∧ l.due ≤ 54) ∧ (0 ≤ l.rate ∧ l.rate ≤ 9) ∧ (0 ≤ l.base ∧ l.base ≤ 20))
theorem ldB_ok {l : Ld} : ldB l = true ↔ LdOk l := by
  simp only [ldB, decide_eq_true_eq]
  exact ⟨fun ⟨a, b, c, d, e⟩ => ⟨a, b, c, d, e⟩, fun ⟨a, b, c, d, e⟩ => ⟨a, b, c, d, e⟩⟩
theorem cl_eq {lo hi x : Int} (h : lo ≤ hi) : x = cl lo hi x ↔ lo ≤ x ∧ x ≤ hi := by
  unfold cl; split <;> split <;> omega
theorem wi_eq (l : Ld) : eqArr E.T 126 (lc l) (ics (wiL l)) = some (ldB l) := by
  have e : lc l = ics (ldI l) := rfl
  rw [e]
  simp only [eqArr, T_126, T_3, ics_length]
  rw [eqInts_ics (ldI l) (wiL l) rfl]
  simp only [ldI, wiL, List.length_cons, List.length_nil, ldB, List.cons.injEq, cl_eq (show (1 : Int) ≤ 9 by omega), cl_eq (show (0 : Int) ≤ 54 by omega), cl_eq (show (0 : Int) ≤ 9 by omega), cl_eq (show (0 : Int) ≤ 20 by omega), and_true, if_true]
theorem within_call {d : Nat} {site : Nat → Nat} {seen : List Nat} {l : Ld} : aBack site true seen (thaw (callA E fg 1000 (d + 1)) 127 [.agg (lc l)] [] 0) = .pure (.agg (ics (wiL l)), []) := by
  obtain ⟨H, h⟩ := rs_ex (within_run (C := callA E fg 1000 d) (a := l.lo) (b := l.hi) (c := l.due) (d := l.rate) (e := l.base))
  exact aBack_plain (H' := H) h rfl (fun _ => rfl) rfl
theorem rec_call {d : Nat} {site : Nat → Nat} {seen : List Nat} {l : Ld} : aBack site true seen (thaw (callA E fg 1000 (d + 1)) 126 [.agg (lc l)] [] 0) = .pure (.agg (lc l), []) := by
  obtain ⟨H, h⟩ := rs_ex (rec_run (C := callA E fg 1000 d) (l := l))
  exact aBack_plain (H' := H) h rfl (fun _ => rfl) rfl
theorem pr_eq (p q : Pr) : eqArr E.T 64 (bc p) (bc q) = some (decide (p = q)) := by
  have e : ∀ p : Pr, bc p = ics [p.1, p.2] := fun _ => rfl
  rw [e, e]
  simp only [eqArr, T_64, T_3, ics_length]
  rw [eqInts_ics [p.1, p.2] [q.1, q.2] rfl]
  obtain ⟨a, b⟩ := p
  obtain ⟨c, d⟩ := q
  simp only [List.length_cons, List.length_nil, List.cons.injEq, Prod.mk.injEq, and_true, if_true]
theorem pix_run {C : Callee} {l : List Pr} {q : Pr} {ex : Bool} (hl : l.length < 900) :
    rsOf (bodyA E C fg 1000 123 [.imm (cls bc l) l.length ex, .agg (bc q)] [] 0) = some (.int .i64 (if l.findIdx (fun p => decide (q = p)) < l.length then (l.findIdx (fun p => decide (q = p)) : Int) else -1)) := by
  have hle := List.findIdx_le_length (xs := l) (p := fun p => decide (q = p))
  have hlen : (cls bc l).length = l.length * 2 := cls_length bc_len l
  have hlo : ∀ i, i < l.findIdx (fun p => decide (q = p)) → ∃ s', (execA E C (fg 123) 0 19 [] 1000 c123_7) ([(8, .int .i64 i), (7, .int .i64 l.length), (3, .ptr 3 0 2), (0, .imm (cls bc l) l.length ex)], [(3, ⟨.box, bc q⟩)]) = some (.normal, s') ∧
      headA [] s' = ([(8, .int .i64 (i + 1 : Nat)), (7, .int .i64 l.length), (3, .ptr 3 0 2), (0, .imm (cls bc l) l.length ex)], [(3, ⟨.box, bc q⟩)]) := by
    intro i hi
    have hil : i < l.length := by omega
    have hp := List.not_of_lt_findIdx hi
    have hq := pr_eq q l[i]
    have hat := cls_at bc_len (List.getElem?_eq_getElem hil)
    generalize l[i] = p at *
    have g1 : (i : Int) < l.length := by omega
    rw [show decide (q = p) = false by simpa using hp] at hq
    simp only [bc] at hat hq ⊢
    simp (disch := omega) only [condX_bool, blockX_normal, Bool.not_true, Bool.not_false, run_nil, run_cons, fget_cons', fput_cons', forget_nil, forget_cons', hget_cons', gcM_n, gcM_c, stp, just, Rd.bind, Rd.run, Rd.opt, upds, tsz, rdCells, aLoad, aIndexAddr, aNum, aBin, aInt, Nat.reduceAdd, Nat.reduceLT, Nat.reduceBEq, Nat.reduceEqDiff, Nat.reduceLeDiff, ↓reduceIte, reduceCtorEq, liveBlk_eq, Nat.zero_add, rtX_some, addT_some, drX_some, runT_nil, runT_cons, neat_eq, descF_nil', descF_cons', ascH_nil', ascH_cons', stpT, Rd.foot, writing, touching, Tr.empty, dynPairs, apartT, disj, List.isEmpty_nil, List.isEmpty_cons, List.map_nil, Bool.not_false, Bool.not_true, Bool.true_or, Bool.or_true, Bool.or_false, Bool.and_true, Bool.true_and, Bool.and_self, decide_true, putD_some, and_true, Int.natCast_nonneg, Int.toNat_natCast, Option.map_some, List.elem_cons, List.elem_nil, List.length_cons, List.length_nil, List.drop_zero, List.take_succ_cons, List.take_nil, seqN, bindN, regN, List.all_nil, Nat.le_refl, beq_self_eq_true, Bool.false_eq_true, T_23, T_64, List.all_nil, beq_self_eq_true, x123_8, r123_2_l, s123_2_0, x123_11, x123_12, x123_10, x123_16, r123_3_l, s123_3_0, s123_3_1, x123_18, r123_4_l, r123_4_dr, r123_4_an, s123_4_0, s123_4_1, s123_4_2, s123_4_3, s123_4_4, s123_4_5, x123_21, r123_5_l, s123_5_0, s123_5_1, x123_22, x123_20, x123_23, x123_19, x123_17, x123_15, x123_14, x123_24, r123_6_l, s123_6_0, s123_6_1, x123_13, x123_9, x123_7, g1, hat, hlen, hq, if_pos, wrp_succ (show i < 1000000 by omega)]
    exact ⟨_, rfl, rfl⟩
  by_cases hlt : l.findIdx (fun p => decide (q = p)) < l.length
  · rw [if_pos hlt]
    have hp := List.findIdx_getElem (xs := l) (p := fun p => decide (q = p)) (w := hlt)
    have hq := pr_eq q l[l.findIdx (fun p => decide (q = p))]
    have hat := cls_at bc_len (List.getElem?_eq_getElem hlt)
    have hp' : decide (q = l[l.findIdx (fun p => decide (q = p))]) = true := hp
    rw [hp'] at hq
    clear hp hp'
    generalize l[l.findIdx (fun p => decide (q = p))] = p at *
    generalize l.findIdx (fun p => decide (q = p)) = m at *
    have g1 : (m : Int) < l.length := by omega
    simp only [bc] at hat hq hlo ⊢
    have hloop := loopN (f := (execA E C (fg 123) 0 19 [] 1000 c123_7)) (fun i => ([(8, .int .i64 i), (7, .int .i64 l.length), (3, .ptr 3 0 2), (0, .imm (cls bc l) l.length ex)], [(3, ⟨.box, [.int .i64 q.1, .int .i64 q.2]⟩)])) m hlo rfl (by omega)
      (e := .ret) (se := ([(4, .int .i64 m)], [(3, ⟨.box, [.int .i64 q.1, .int .i64 q.2]⟩)]))
      (by simp (disch := omega) only [seqX_ret, condX_bool, blockX_ret, Bool.not_true, Bool.not_false, run_nil, run_cons, fget_cons', fput_cons', forget_nil, forget_cons', hget_cons', gcM_n, gcM_c, stp, just, Rd.bind, Rd.run, Rd.opt, upds, tsz, rdCells, aLoad, aIndexAddr, aNum, aBin, aInt, Nat.reduceAdd, Nat.reduceLT, Nat.reduceBEq, Nat.reduceEqDiff, Nat.reduceLeDiff, ↓reduceIte, reduceCtorEq, liveBlk_eq, Nat.zero_add, rtX_some, addT_some, drX_some, runT_nil, runT_cons, neat_eq, descF_nil', descF_cons', ascH_nil', ascH_cons', stpT, Rd.foot, writing, touching, Tr.empty, dynPairs, apartT, disj, List.isEmpty_nil, List.isEmpty_cons, List.map_nil, Bool.not_false, Bool.not_true, Bool.true_or, Bool.or_true, Bool.or_false, Bool.and_true, Bool.true_and, Bool.and_self, decide_true, putD_some, and_true, Int.natCast_nonneg, Int.toNat_natCast, Option.map_some, List.elem_cons, List.elem_nil, List.length_cons, List.length_nil, List.drop_zero, List.take_succ_cons, List.take_nil, seqN, bindN, regN, List.all_nil, Nat.le_refl, beq_self_eq_true, Bool.false_eq_true, T_23, T_64, List.all_nil, beq_self_eq_true, x123_8, r123_2_l, s123_2_0, x123_11, x123_12, x123_10, x123_16, r123_3_l, s123_3_0, s123_3_1, x123_18, r123_4_l, r123_4_dr, r123_4_an, s123_4_0, s123_4_1, s123_4_2, s123_4_3, s123_4_4, s123_4_5, x123_21, r123_5_l, s123_5_0, s123_5_1, x123_22, x123_20, x123_23, x123_19, x123_17, x123_15, x123_14, x123_13, x123_9, x123_7, g1, hat, hlen, hq, if_pos]) (by simp)
    simp only [cl0] at hloop
    simp (disch := omega) only [seqX_ret, blockX_ret, bodyX_ret, run_nil, run_cons, fget_cons', fput_cons', forget_nil, forget_cons', hget_nil', hset_nil', frame0, gcM_c, stp, opBox, just, Rd.bind, Rd.run, upds, acells, resA, resL, fresh, aLen, aBuiltin, Nat.reduceAdd, Nat.reduceBEq, Nat.reduceEqDiff, Nat.reduceLeDiff, ↓reduceIte, reduceCtorEq, Nat.zero_add, List.getElem?_toArray, putD_some, Option.map_some, List.elem_cons, List.elem_nil, List.length_cons, List.length_nil, List.getElem?_cons_zero, seqN, bindN, regN, beq_self_eq_true, Bool.false_eq_true, T_23, beq_self_eq_true, x123_1, r123_0_l, s123_0_0, s123_0_1, x123_4, r123_1_l, s123_1_0, s123_1_1, s123_1_2, x123_6, x123_5, x123_3, x123_2, x123_0, b_123, hloop]
  · rw [if_neg hlt]
    have e : l.findIdx (fun p => decide (q = p)) = l.length := by omega
    simp only [bc] at hlo ⊢
    have hloop := loopN (f := (execA E C (fg 123) 0 19 [] 1000 c123_7)) (fun i => ([(8, .int .i64 i), (7, .int .i64 l.length), (3, .ptr 3 0 2), (0, .imm (cls bc l) l.length ex)], [(3, ⟨.box, [.int .i64 q.1, .int .i64 q.2]⟩)])) l.length (fun i hi => hlo i (by omega)) rfl (by omega)
      (e := .exit 0) (se := ([(9, .bool false), (8, .int .i64 l.length), (7, .int .i64 l.length), (3, .ptr 3 0 2), (0, .imm (cls bc l) l.length ex)], [(3, ⟨.box, [.int .i64 q.1, .int .i64 q.2]⟩)]))
      (by simp (disch := omega) only [seqX_exit, condX_bool, run_nil, run_cons, fget_cons', fput_cons', forget_nil, forget_cons', gcM_n, stp, just, Rd.bind, Rd.run, Rd.opt, upds, aBin, aInt, Nat.reduceEqDiff, Nat.reduceLeDiff, ↓reduceIte, decide_false, putD_some, List.elem_nil, seqN, bindN, regN, Int.lt_irrefl, Bool.false_eq_true, x123_8, r123_2_l, s123_2_0, x123_11, x123_12, x123_10, x123_9, x123_7]) (by simp)
    simp only [cl0] at hloop
    simp (disch := omega) only [blockX_exit, bodyX_ret, run_nil, run_cons, fget_cons', fput_nil, fput_cons', forget_nil, forget_cons', hget_nil', hset_nil', frame0, gcM_n, gcM_c, stp, opBox, just, Rd.bind, Rd.run, upds, acells, resA, resL, fresh, aLen, aBuiltin, Nat.reduceAdd, Nat.reduceBEq, Nat.reduceEqDiff, Nat.reduceLeDiff, Int.reduceNeg, ↓reduceIte, reduceCtorEq, Nat.zero_add, List.getElem?_toArray, putD_some, Option.map_some, List.elem_cons, List.elem_nil, List.length_cons, List.length_nil, List.getElem?_cons_zero, seqN, bindN, regN, beq_self_eq_true, Bool.false_eq_true, T_23, beq_self_eq_true, x123_1, r123_0_l, s123_0_0, s123_0_1, x123_4, r123_1_l, s123_1_0, s123_1_1, s123_1_2, x123_6, x123_5, x123_3, x123_26, r123_7_l, s123_7_0, x123_27, x123_25, x123_2, x123_0, b_123, hloop]
theorem pix_call {d : Nat} {l : List Pr} {q : Pr} {ex : Bool} {site : Nat → Nat} {seen : List Nat} (hl : l.length < 900) :
    aBack site true seen (thaw (callA E fg 1000 (d + 1)) 123 [.imm (cls bc l) l.length ex, .agg (bc q)] [] 0) = .pure (.int .i64 (if l.findIdx (fun p => decide (q = p)) < l.length then (l.findIdx (fun p => decide (q = p)) : Int) else -1), []) :=
  aBack_int (rs_ex (pix_run hl))
theorem pin_run {d : Nat} {l : List Pr} {q : Pr} {ex : Bool} (hl : l.length < 900) :
    rsOf (bodyA E (callA E fg 1000 (d + 1)) fg 1000 79 [.imm (cls bc l) l.length ex, .agg (bc q)] [] 0) = some (.bool (decide (q ∈ l))) := by
  have hc := fun (site : Nat → Nat) seen => pix_call (d := d) (ex := ex) (q := q) (site := site) (seen := seen) hl
  have e : decide (q ∈ l) = decide ((if l.findIdx (fun p => decide (q = p)) < l.length then (l.findIdx (fun p => decide (q = p)) : Int) else -1) ≥ 0) := by
    refine decide_eq_decide.2 ?_
    have := List.findIdx_lt_length (xs := l) (p := fun p => decide (q = p))
    have h2 : (∃ x, x ∈ l ∧ decide (q = x) = true) ↔ q ∈ l := by simp
    rw [← h2, ← this]
    split <;> omega
  rw [e]
  generalize (if l.findIdx (fun p => decide (q = p)) < l.length then (l.findIdx (fun p => decide (q = p)) : Int) else -1) = z at *
  simp only [bc] at hc ⊢
  generalize callA E fg 1000 (d + 1) = C at *
  simp (disch := omega) only [bodyX_ret, run_nil, run_cons, fget_cons', fput_cons', forget_nil, forget_cons', hget_nil', hget_cons', hset_nil', frame0, gcM_c, stp, opBox, just, Rd.bind, Rd.run, Rd.opt, upds, acells, rdCells, aLoad, resA, resL, fresh, aBin, aInt, Nat.reduceAdd, Nat.reduceBEq, Nat.reduceEqDiff, Nat.reduceLeDiff, ↓reduceIte, reduceCtorEq, liveBlk_eq, Nat.zero_add, putD_some, aCall, snaps, List.append_nil, Option.map_some, List.elem_cons, List.elem_nil, List.length_cons, List.length_nil, List.drop_zero, List.take_succ_cons, List.take_nil, seqN, bindN, regN, snap_int, snap_imm, snap_agg, Nat.le_refl, beq_self_eq_true, Bool.false_eq_true, T_64, beq_self_eq_true, x79_1, r79_0_l, s79_0_0, s79_0_1, x79_3, r79_1_l, s79_1_0, s79_1_1, s79_1_2, s79_1_3, s79_1_4, x79_4, x79_2, x79_0, b_79, hc]
theorem pin_call {d : Nat} {l : List Pr} {q : Pr} {ex : Bool} {site : Nat → Nat} {seen : List Nat} (hl : l.length < 900) :
    aBack site true seen (thaw (callA E fg 1000 (d + 2)) 79 [.imm (cls bc l) l.length ex, .agg (bc q)] [] 0) = .pure (.bool (decide (q ∈ l)), []) :=
  aBack_bool (rs_ex (pin_run hl))
end Go.AM.YtgfnbmfjbjopkaaDoor
end

section
namespace Go.AM.YtgfnbmfjbjopkaaDoor
open Go Go.AM Go.AM.Mule
set_option maxRecDepth 100000
set_option maxHeartbeats 4000000
theorem oH_asc {lo k : Nat} (h : lo ≤ k) (c : List AV) : ascH lo (oH k c) = true := by
  cases c with
  | nil => rfl
  | cons a c => simp only [oH, ascH_cons', ascH_nil', Bool.and_true, decide_eq_true_eq]; exact h
/-- The error of a load; 0: none. -/
def ldE (l : Ld) : Int := if ldB l = true then (if l.lo > l.hi then 7 else 0) else 1
theorem room106 {n : Nat} (h : n ≤ 1000000) : roomOk E.T 126 n = true := by
  simp only [roomOk, T_126, decide_eq_true_eq]; exact ⟨by decide, rfl, by omega⟩
abbrev h1S (ls : List Ld) (e : Bool) (b : AV) (n : Nat) (z : List AV) (i : Nat) : St :=
  ([(38, .int .i64 i), (37, .int .i64 n), (36, .imm (cls lc ls) n e), (5, .ptr 5 0 2), (4, .int .i64 n), (2, .ptr 2 0 2), (1, .ptr 1 0 2)],
    (1, ⟨.box, [.imm (cls lc ls) n e, b]⟩) :: (2, ⟨.box, [.nilsl, .nilsl]⟩) :: (5, ⟨.box, [oV 61 5 i, .ref 33 0 n n n 1 false]⟩) :: (33, ⟨.row, z⟩) :: oH 61 (cls lc (ls.take i)))
structure H1C (C : Callee) : Prop where
  rc : ∀ (site : Nat → Nat) seen l, aBack site true seen (thaw C 126 [.agg (lc l)] [] 0) = .pure (.agg (lc l), [])
  wi : ∀ (site : Nat → Nat) seen l, aBack site true seen (thaw C 127 [.agg (lc l)] [] 0) = .pure (.agg (ics (wiL l)), [])
theorem h1_go {C : Callee} (hC : H1C C) {ls : List Ld} {e : Bool} {b : AV} {n : Nat} {z : List AV} (hl : ls.length = n) (hz : z.length = n) (hn : n ≤ 6) (hb : b = .nilsl ∨ ∃ c m ex, b = .imm c m ex) (i : Nat) (hi : i < n) (h0 : ∀ l, ls[i]? = some l → ldE l = 0) :
    ∃ s', (execA E C (fg 88) 0 156 [] 1000 c88_26) (h1S ls e b n z i) = some (.normal, s') ∧ headA [] s' = h1S ls e b n z (i + 1) := by
  obtain ⟨hrc, hwi⟩ := hC
  have hk : ls[i]? = some ls[i] := List.getElem?_eq_getElem (by omega)
  have hx := h0 _ hk
  have hat := cls_at lc_len hk
  have hr := fun site seen => hrc site seen ls[i]
  have hw := fun site seen => hwi site seen ls[i]
  have heq := wi_eq ls[i]
  have ht : ls.take (i + 1) = ls.take i ++ [ls[i]] := by rw [List.take_add_one, hk]; rfl
  have hsn := cls_snoc (f := lc) (ls.take i) ls[i]
  have hlt : (ls.take i).length = i := by rw [List.length_take]; omega
  have htl := cls_length lc_len (ls.take i)
  have htk := cls_take lc_len (ls.take i)
  rw [hlt] at htl htk
  have hlen : (cls lc ls).length = n * 5 := by rw [cls_length lc_len, hl]
  generalize ls[i] = x at *
  have hB : ldB x = true := by
    unfold ldE at hx; split at hx
    · assumption
    · simp at hx
  have hlo : ¬ x.lo > x.hi := by
    unfold ldE at hx; rw [if_pos hB] at hx; split at hx
    · simp at hx
    · assumption
  rw [hB] at heq
  have g1 : (i : Int) < n := by omega
  have hwl : ics (wiL x) = [.int .i64 (cl 1 9 x.lo), .int .i64 (cl 1 9 x.hi), .int .i64 (cl 0 54 x.due), .int .i64 (cl 0 9 x.rate), .int .i64 (cl 0 20 x.base)] := rfl
  have nm : ¬ (i + 1 ≤ i) := by omega
  simp only [h1S, ht]
  rw [← hsn]
  simp only [hwl] at hw heq
  simp only [lc] at hat hr hw heq ⊢
  cases i with
  | zero =>
    rw [Nat.zero_mul, List.drop_zero] at hat
    simp only [List.take_zero, cls_nil, List.nil_append, oH, oV]
    simp (disch := omega) only [condX_bool, blockX_normal, Bool.not_true, Bool.not_false, run_nil, run_cons, fget_cons', fput_cons', forget_nil, forget_cons', hget_nil', hget_cons', hset_nil', hset_cons', gcM_n, gcM_c, stp, opBox, justO, just, Rd.bind, Rd.run, Rd.opt, upds, acells, zeroCells, tsz, elemT, rdCells, fieldOf, aFieldAddr, aLoad, aStore, opStore, fresh, aIndexAddr, aNum, aBuiltin, aBin, aInt, putC, evO, Nat.reduceAdd, Nat.reduceMul, Nat.reduceLT, Nat.reduceBEq, Nat.reduceEqDiff, Nat.reduceLeDiff, ↓reduceIte, reduceCtorEq, liveBlk_eq, decide_eq_true_eq, Nat.zero_add, Nat.add_zero, ne_eq, List.nil_append, List.getElem?_toArray, rtX_some, addT_some, drX_some, runT_nil, runT_cons, neat_eq, descF_nil', descF_cons', ascH_nil', ascH_cons', stpT, Rd.foot, writing, touching, Tr.empty, dynPairs, apartT, disj, List.isEmpty_nil, List.isEmpty_cons, List.map_nil, Bool.not_false, Bool.not_true, Bool.true_or, Bool.or_true, Bool.or_false, Bool.and_true, Bool.true_and, Bool.and_self, decide_true, decide_false, not_true_eq_false, or_self, aBuildSlice, partsOf, fillA, repC, isSliceT, aAppend, srcOf, window, putD_some, putD_none, and_true, true_and, aCall, snaps, List.append_nil, Option.map_some, List.elem_cons, List.elem_nil, List.length_cons, List.length_nil, List.getElem?_cons_zero, List.getElem?_cons_succ, List.drop_zero, List.take_succ_cons, List.take_nil, List.set_cons_zero, List.set_cons_succ, frz_nil, seqN, bindN, regN, snap_int, snap_nilsl, snap_ref, snap_agg, aBuild, List.all_cons, List.all_nil, Nat.le_refl, Int.reduceLE, Int.reduceToNat, Nat.mul_one, Nat.zero_mul, List.not_mem_nil, beq_self_eq_true, Nat.lt_irrefl, Bool.false_eq_true, T_3, T_22, T_62, T_106, T_109, T_126, List.all_cons, List.all_nil, List.getD_cons_zero, List.getD_cons_succ, beq_self_eq_true, x88_27, r88_8_l, s88_8_0, x88_30, x88_31, x88_29, x88_35, r88_9_l, s88_9_0, s88_9_1, s88_9_2, s88_9_3, x88_37, r88_10_l, s88_10_0, s88_10_1, s88_10_2, s88_10_3, x88_41, r88_11_l, r88_11_dr, r88_11_an, s88_11_0, s88_11_1, s88_11_2, s88_11_3, s88_11_4, x88_44, r88_12_l, s88_12_0, s88_12_1, s88_12_2, x88_45, x88_43, x88_47, r88_13_l, s88_13_0, s88_13_1, s88_13_2, s88_13_3, s88_13_4, s88_13_5, x88_50, r88_14_l, s88_14_0, s88_14_1, s88_14_2, x88_51, x88_49, x88_52, x88_48, x88_46, x88_42, x88_40, x88_39, x88_53, r88_15_l, s88_15_0, s88_15_1, s88_15_2, s88_15_3, s88_15_4, s88_15_5, s88_15_6, x88_38, x88_36, x88_34, x88_33, x88_54, r88_16_l, s88_16_0, s88_16_1, x88_32, x88_28, x88_26, hat, hr, hw, heq, hlo, hlen, if_pos, room106 (show 1 ≤ 1000000 by omega), Int.natCast_zero]
    rcases hb with rfl | ⟨_, _, _, rfl⟩ <;> exact ⟨_, rfl, rfl⟩
  | succ i =>
    obtain ⟨c, cs, hcs⟩ : ∃ c cs, cls lc (ls.take (i + 1)) = c :: cs := by
      cases hh : cls lc (ls.take (i + 1)) with
      | nil => rw [hh] at htl; simp at htl
      | cons c cs => exact ⟨c, cs, rfl⟩
    have hoH : oH 61 (cls lc (ls.take (i + 1))) = [(61, ⟨.row, cls lc (ls.take (i + 1))⟩)] := by rw [hcs]; rfl
    have hoH2 : ∀ y, oH 61 (cls lc (ls.take (i + 1)) ++ y) = [(61, ⟨.row, cls lc (ls.take (i + 1)) ++ y⟩)] := fun y => by rw [hcs]; rfl
    simp only [hoH, hoH2, oV]
    generalize cls lc (ls.take (i + 1)) = cc at *
    simp (disch := omega) only [condX_bool, blockX_normal, Bool.not_true, Bool.not_false, run_nil, run_cons, fget_cons', fput_cons', forget_nil, forget_cons', hget_nil', hget_cons', hset_cons', gcM_n, gcM_c, stp, opBox, justO, just, Rd.bind, Rd.run, Rd.opt, upds, acells, zeroCells, tsz, elemT, rdCells, fieldOf, aFieldAddr, aLoad, aStore, opStore, fresh, aIndexAddr, aNum, aBuiltin, aBin, aInt, putC, evO, Nat.reduceAdd, Nat.reduceMul, Nat.reduceLT, Nat.reduceBEq, Nat.reduceEqDiff, Nat.reduceLeDiff, ↓reduceIte, reduceCtorEq, liveBlk_eq, Nat.zero_add, Nat.add_zero, ne_eq, List.nil_append, List.getElem?_toArray, rtX_some, addT_some, drX_some, runT_nil, runT_cons, neat_eq, descF_nil', descF_cons', ascH_nil', ascH_cons', stpT, Rd.foot, writing, touching, Tr.empty, dynPairs, apartT, disj, List.isEmpty_nil, List.isEmpty_cons, List.map_nil, Bool.not_false, Bool.not_true, Bool.true_or, Bool.or_true, Bool.or_false, Bool.and_true, Bool.true_and, Bool.and_self, decide_true, decide_false, not_true_eq_false, or_self, aBuildSlice, partsOf, fillA, repC, isSliceT, aAppend, srcOf, window, putD_some, putD_none, and_true, true_and, Int.natCast_nonneg, Int.toNat_natCast, aCall, snaps, List.append_nil, Option.map_some, List.elem_cons, List.elem_nil, List.length_cons, List.length_nil, List.getElem?_cons_zero, List.getElem?_cons_succ, List.drop_zero, List.take_succ_cons, List.take_nil, List.set_cons_zero, List.set_cons_succ, frz_nil, seqN, bindN, regN, snap_int, snap_nilsl, snap_ref, snap_agg, aBuild, List.all_cons, List.all_nil, Nat.le_refl, Int.reduceLE, Int.reduceToNat, Nat.mul_one, Nat.zero_mul, List.not_mem_nil, beq_self_eq_true, Nat.lt_irrefl, Bool.false_eq_true, T_3, T_22, T_62, T_106, T_109, T_126, List.all_cons, List.all_nil, List.getD_cons_zero, List.getD_cons_succ, beq_self_eq_true, x88_27, r88_8_l, s88_8_0, x88_30, x88_31, x88_29, x88_35, r88_9_l, s88_9_0, s88_9_1, s88_9_2, s88_9_3, x88_37, r88_10_l, s88_10_0, s88_10_1, s88_10_2, s88_10_3, x88_41, r88_11_l, r88_11_dr, r88_11_an, s88_11_0, s88_11_1, s88_11_2, s88_11_3, s88_11_4, x88_44, r88_12_l, s88_12_0, s88_12_1, s88_12_2, x88_45, x88_43, x88_47, r88_13_l, s88_13_0, s88_13_1, s88_13_2, s88_13_3, s88_13_4, s88_13_5, x88_50, r88_14_l, s88_14_0, s88_14_1, s88_14_2, x88_51, x88_49, x88_52, x88_48, x88_46, x88_42, x88_40, x88_39, x88_53, r88_15_l, s88_15_0, s88_15_1, s88_15_2, s88_15_3, s88_15_4, s88_15_5, s88_15_6, x88_38, x88_36, x88_34, x88_33, x88_54, r88_16_l, s88_16_0, s88_16_1, x88_32, x88_28, x88_26, g1, hat, hr, hw, heq, hlo, hlen, htl, htk, nm, if_pos, room106 (show i + 1 + 1 ≤ 1000000 by omega), wrp_succ (show i + 1 < 1000000 by omega)]
    rcases hb with rfl | ⟨_, _, _, rfl⟩ <;> exact ⟨_, rfl, rfl⟩
theorem h1_bad {C : Callee} (hC : H1C C) {ls : List Ld} {e : Bool} {b : AV} {n : Nat} {z : List AV} (hl : ls.length = n) (hz : z.length = n) (hn : n ≤ 6) (i : Nat) (hi : i < n) {x : Ld} (hx : ls[i]? = some x) (h0 : ldE x ≠ 0) :
    ∃ H', (execA E C (fg 88) 0 156 [] 1000 c88_26) (h1S ls e b n z i) = some (.ret, ([(3, .int .i64 (ldE x)), (2, .ptr 2 0 2)], H')) ∧ hget H' 2 = some ⟨.box, [.nilsl, .nilsl]⟩ := by
  obtain ⟨hrc, hwi⟩ := hC
  have hat := cls_at lc_len hx
  have hr := fun site seen => hrc site seen x
  have hw := fun site seen => hwi site seen x
  have heq := wi_eq x
  have hlen : (cls lc ls).length = n * 5 := by rw [cls_length lc_len, hl]
  have g1 : (i : Int) < n := by omega
  have hwl : ics (wiL x) = [.int .i64 (cl 1 9 x.lo), .int .i64 (cl 1 9 x.hi), .int .i64 (cl 0 54 x.due), .int .i64 (cl 0 9 x.rate), .int .i64 (cl 0 20 x.base)] := rfl
  simp only [hwl] at hw heq
  simp only [h1S]
  simp only [lc] at hat hr hw heq
  have o7 := oH_get (k := 61) (j := 7) (by omega) (cls lc (ls.take i))
  have o8 := oH_get (k := 61) (j := 8) (by omega) (cls lc (ls.take i))
  have oa := oH_asc (lo := 34) (k := 61) (by omega) (cls lc (ls.take i))
  generalize oH 61 (cls lc (ls.take i)) = Ho at *
  generalize oV 61 5 i = ov at *
  by_cases hB : ldB x = true
  · have hlo : x.lo > x.hi := by
      unfold ldE at h0; rw [if_pos hB] at h0; split at h0
      · assumption
      · simp at h0
    have e7 : ldE x = 7 := by unfold ldE; rw [if_pos hB, if_pos hlo]
    rw [hB] at heq
    rw [e7]
    simp (disch := omega) only [seqX_ret, condX_bool, blockX_ret, Bool.not_true, Bool.not_false, run_nil, run_cons, fget_cons', fput_cons', forget_nil, forget_cons', hget_cons', hset_cons', gcM_n, gcM_c, stp, opBox, justO, just, Rd.bind, Rd.run, Rd.opt, upds, acells, zeroCells, tsz, rdCells, aLoad, aStore, opStore, fresh, aIndexAddr, aNum, aBin, aInt, putC, Nat.reduceAdd, Nat.reduceLT, Nat.reduceBEq, Nat.reduceEqDiff, Nat.reduceLeDiff, ↓reduceIte, liveBlk_eq, Nat.zero_add, Nat.add_zero, List.nil_append, rtX_some, addT_some, drX_some, runT_nil, runT_cons, neat_eq, descF_nil', descF_cons', ascH_cons', stpT, Rd.foot, writing, touching, Tr.empty, dynPairs, apartT, disj, List.isEmpty_nil, List.isEmpty_cons, List.map_nil, Bool.not_false, Bool.not_true, Bool.true_or, Bool.or_true, Bool.or_false, Bool.and_true, Bool.true_and, Bool.and_self, decide_true, partsOf, fillA, putD_some, putD_none, and_true, true_and, Int.natCast_nonneg, Int.toNat_natCast, aCall, snaps, List.append_nil, Option.map_some, List.elem_cons, List.elem_nil, List.length_cons, List.length_nil, List.getElem?_cons_zero, List.getElem?_cons_succ, List.drop_zero, List.take_succ_cons, List.take_nil, List.set_cons_zero, List.set_cons_succ, frz_nil, seqN, bindN, regN, snap_int, snap_nilsl, snap_agg, aBuild, List.all_cons, List.all_nil, Nat.le_refl, Int.reduceLE, Int.reduceToNat, Nat.mul_one, List.not_mem_nil, beq_self_eq_true, Bool.false_eq_true, T_3, T_22, T_62, T_109, T_126, List.all_cons, List.all_nil, List.getD_cons_zero, List.getD_cons_succ, beq_self_eq_true, x88_27, r88_8_l, s88_8_0, x88_30, x88_31, x88_29, x88_35, r88_9_l, s88_9_0, s88_9_1, s88_9_2, s88_9_3, x88_37, r88_10_l, s88_10_0, s88_10_1, s88_10_2, s88_10_3, x88_41, r88_11_l, r88_11_dr, r88_11_an, s88_11_0, s88_11_1, s88_11_2, s88_11_3, s88_11_4, x88_44, r88_12_l, s88_12_0, s88_12_1, s88_12_2, x88_45, x88_43, x88_47, r88_13_l, s88_13_0, s88_13_1, s88_13_2, s88_13_3, s88_13_4, s88_13_5, x88_50, r88_14_l, s88_14_0, s88_14_1, s88_14_2, x88_51, x88_49, x88_52, x88_48, x88_46, x88_42, x88_40, x88_39, x88_38, x88_36, x88_34, x88_33, x88_32, x88_28, x88_26, g1, hat, hr, hw, heq, hlo, hlen, o7, o8, oa, if_pos]
    exact ⟨_, rfl, rfl⟩
  · have e1 : ldE x = 1 := by unfold ldE; rw [if_neg hB]
    rw [show ldB x = false by simpa using hB] at heq
    rw [e1]
    simp (disch := omega) only [seqX_ret, condX_bool, blockX_ret, Bool.not_true, Bool.not_false, run_nil, run_cons, fget_cons', fput_cons', forget_nil, forget_cons', hget_cons', hset_cons', gcM_n, gcM_c, stp, opBox, justO, just, Rd.bind, Rd.run, Rd.opt, upds, acells, zeroCells, tsz, rdCells, aLoad, aStore, opStore, fresh, aIndexAddr, aNum, aBin, aInt, putC, Nat.reduceAdd, Nat.reduceLT, Nat.reduceBEq, Nat.reduceEqDiff, Nat.reduceLeDiff, ↓reduceIte, liveBlk_eq, decide_eq_true_eq, Nat.zero_add, Nat.add_zero, List.nil_append, rtX_some, addT_some, drX_some, runT_nil, runT_cons, neat_eq, descF_nil', descF_cons', ascH_cons', stpT, Rd.foot, writing, touching, Tr.empty, dynPairs, apartT, disj, List.isEmpty_nil, List.isEmpty_cons, List.map_nil, Bool.not_false, Bool.not_true, Bool.true_or, Bool.or_true, Bool.or_false, Bool.and_true, Bool.true_and, Bool.and_self, decide_true, partsOf, fillA, putD_some, putD_none, and_true, true_and, Int.natCast_nonneg, Int.toNat_natCast, aCall, snaps, List.append_nil, Option.map_some, List.elem_cons, List.elem_nil, List.length_cons, List.length_nil, List.getElem?_cons_zero, List.getElem?_cons_succ, List.drop_zero, List.take_succ_cons, List.take_nil, List.set_cons_zero, List.set_cons_succ, frz_nil, seqN, bindN, regN, snap_int, snap_nilsl, snap_agg, aBuild, List.all_cons, List.all_nil, Nat.le_refl, Int.reduceLE, Int.reduceToNat, Nat.mul_one, List.not_mem_nil, beq_self_eq_true, Bool.false_eq_true, T_3, T_22, T_62, T_109, T_126, List.all_cons, List.all_nil, List.getD_cons_zero, List.getD_cons_succ, beq_self_eq_true, x88_27, r88_8_l, s88_8_0, x88_30, x88_31, x88_29, x88_35, r88_9_l, s88_9_0, s88_9_1, s88_9_2, s88_9_3, x88_37, r88_10_l, s88_10_0, s88_10_1, s88_10_2, s88_10_3, x88_41, r88_11_l, r88_11_dr, r88_11_an, s88_11_0, s88_11_1, s88_11_2, s88_11_3, s88_11_4, x88_44, r88_12_l, s88_12_0, s88_12_1, s88_12_2, x88_45, x88_43, x88_47, r88_13_l, s88_13_0, s88_13_1, s88_13_2, s88_13_3, s88_13_4, s88_13_5, x88_50, r88_14_l, s88_14_0, s88_14_1, s88_14_2, x88_51, x88_49, x88_52, x88_48, x88_46, x88_42, x88_40, x88_39, x88_38, x88_36, x88_34, x88_33, x88_32, x88_28, x88_26, g1, hat, hr, hw, heq, hlen, o7, o8, oa, if_pos]
    exact ⟨_, rfl, rfl⟩
end Go.AM.YtgfnbmfjbjopkaaDoor
end

section
namespace Go.AM.YtgfnbmfjbjopkaaDoor
open Go Go.AM Go.AM.Mule
set_option maxRecDepth 100000
set_option maxHeartbeats 4000000
def tN (p : Pr) : Nat × Nat := (p.1.toNat, p.2.toNat)
def adj (n : Nat) (es : List Pr) : List Nat := (es.map tN).foldl addE (List.replicate n 0)
/-- The error of a pair behind others; 0: none. -/
def prE (n : Nat) (seen : List Pr) (p : Pr) : Int := if min p.1 p.2 < 0 ∨ max p.1 p.2 ≥ n then 2 else if p ∈ seen then 6 else 0
theorem prE_ok {n : Nat} {seen : List Pr} {p : Pr} (h : prE n seen p = 0) : ∃ a b : Nat, p = ((a : Int), (b : Int)) ∧ a < n ∧ b < n ∧ p ∉ seen := by
  unfold prE at h
  split at h
  · simp at h
  · rename_i h1
    split at h
    · simp at h
    · rename_i h2
      obtain ⟨x, y⟩ := p
      simp only at h1
      refine ⟨x.toNat, y.toNat, ?_, by omega, by omega, h2⟩
      have e1 : (x.toNat : Int) = x := by omega
      have e2 : (y.toNat : Int) = y := by omega
      rw [e1, e2]
theorem adds_lt {n : Nat} : ∀ {es : List (Nat × Nat)} {B : List Nat}, (∀ p ∈ es, p.1 < B.length ∧ p.2 < n) → (∀ x ∈ B, x < 2 ^ n) → ∀ x ∈ es.foldl addE B, x < 2 ^ n
  | [], B, _, h, x, hx => h x hx
  | p :: es, B, he, h, x, hx => by
    refine adds_lt (es := es) (B := addE B p) (fun q hq => ?_) (fun y hy => ?_) x hx
    · rw [addE_length]; exact he q (by simp [hq])
    · obtain ⟨p1, p2⟩ := he p (by simp)
      rcases List.mem_or_eq_of_mem_set hy with h1 | h1
      · exact h y h1
      · subst h1
        refine Nat.or_lt_two_pow ?_ ?_
        · have : B.getD p.1 0 = B[p.1] := by simp [p1]
          rw [this]; exact h _ (List.getElem_mem p1)
        · rw [Nat.one_shiftLeft]; exact Nat.pow_lt_pow_right (by omega) p2
theorem adds_len : ∀ (es : List (Nat × Nat)) (B : List Nat), (es.foldl addE B).length = B.length
  | [], _ => rfl
  | p :: es, B => by rw [List.foldl_cons, adds_len es, addE_length]
theorem adj_len (n : Nat) (es : List Pr) : (adj n es).length = n := by rw [adj, adds_len, List.length_replicate]
theorem adj_lt {n : Nat} {es : List Pr} (h : ∀ p ∈ es.map tN, p.1 < n ∧ p.2 < n) : ∀ x ∈ adj n es, x < 2 ^ n := by
  refine adds_lt (fun p hp => by rw [List.length_replicate]; exact h p hp) (fun x hx => ?_)
  rw [List.eq_of_mem_replicate hx]; exact Nat.two_pow_pos n
theorem adj_snoc (n : Nat) (es : List Pr) (p : Pr) : adj n (es ++ [p]) = addE (adj n es) (tN p) := by simp [adj, List.foldl_append]
abbrev h2H (ls : List Ld) (a b : AV) (n : Nat) (B : List Nat) : AHeap :=
  [(1, ⟨.box, [a, b]⟩), (2, ⟨.box, [.nilsl, .nilsl]⟩), (5, ⟨.box, [.ref 61 0 n n (n * 5) 5 false, .ref 33 0 n n n 1 false]⟩), (33, ⟨.row, ucs B⟩), (61, ⟨.row, cls lc ls⟩)]
abbrev h2S (ls : List Ld) (es : List Pr) (e e2 : Bool) (n : Nat) (i : Nat) : St :=
  ([(67, .int .i64 i), (66, .int .i64 es.length), (65, .imm (cls bc es) es.length e2), (5, .ptr 5 0 2), (4, .int .i64 n), (2, .ptr 2 0 2), (1, .ptr 1 0 2)],
    h2H ls (.imm (cls lc ls) n e) (.imm (cls bc es) es.length e2) n (adj n (es.take i)))
theorem h2_go {C : Callee} {ls : List Ld} {es : List Pr} {e e2 : Bool} {n : Nat} (hl : ls.length = n) (hn : n ≤ 6) (hm : es.length ≤ 15) (i : Nat) (hi : i < es.length)
    (hok : ∀ p ∈ (es.take i).map tN, p.1 < n ∧ p.2 < n) {p : Pr} (hx : es[i]? = some p) (h0 : prE n (es.take i) p = 0)
    (hc : ∀ (site : Nat → Nat) seen ex, aBack site true seen (thaw C 79 [.imm (cls bc (es.take i)) i ex, .agg (bc p)] [] 0) = .pure (.bool (decide (p ∈ es.take i)), [])) :
    ∃ s', (execA E C (fg 88) 0 156 [] 1000 c88_60) (h2S ls es e e2 n i) = some (.normal, s') ∧ headA [] s' = h2S ls es e e2 n (i + 1) := by
  obtain ⟨a, b, hp, ha, hb, hnin⟩ := prE_ok h0
  have hat := cls_at bc_len hx
  have ht : es.take (i + 1) = es.take i ++ [p] := by rw [List.take_add_one, hx]; rfl
  have htk := cls_takeN bc_len es i
  have hBl := adj_len n (es.take i)
  have hBb := adj_lt hok
  have hg := getD_at hBl ha
  have hga : adj n (es.take (i + 1)) = (adj n (es.take i)).set a ((adj n (es.take i)).getD a 0 ||| 1 <<< b) := by
    rw [ht, adj_snoc, hp]; rfl
  have hlen : (cls bc es).length = es.length * 2 := cls_length bc_len es
  have hba : (adj n (es.take i)).getD a 0 < 64 := by
    have h1 : a < (adj n (es.take i)).length := by omega
    have := lt64 hn (hBb _ (List.getElem_mem h1))
    simpa [h1] using this
  simp only [h2S, h2H, hga]
  rw [show decide (p ∈ es.take i) = false by simpa using hnin] at hc
  generalize adj n (es.take i) = B at *
  subst hp
  simp only [bc] at hat hc
  have hs64 : 1 <<< b < 64 := by
    have : b = 0 ∨ b = 1 ∨ b = 2 ∨ b = 3 ∨ b = 4 ∨ b = 5 := by omega
    rcases this with e | e | e | e | e | e <;> rw [e] <;> decide
  have hshl := shl64 (i := b) (by omega)
  have hor := bk_or (a := B.getD a 0) (b := 1 <<< b) (by omega) (by omega)
  have hset := ucs_set B a (B.getD a 0 ||| 1 <<< b)
  have hat2 := ucs_at hg
  have hul : (ucs B).length = n := by rw [ucs_length, hBl]
  have g1 : (i : Int) < es.length := by omega
  have m1 : ¬ (if (b : Int) < (a : Int) then (b : Int) else (a : Int)) < 0 := by split <;> omega
  have m2 : ¬ (if (b : Int) > (a : Int) then (b : Int) else (a : Int)) ≥ (n : Int) := by split <;> omega
  have m3 : ¬ (if a < b then (b : Int) else (a : Int)) ≥ (n : Int) := by split <;> omega
  have m4 : ¬ (if b < a then (b : Int) else (a : Int)) < 0 := by split <;> omega
  generalize B.getD a 0 = w at *
  generalize 1 <<< b = v at *
  simp (disch := omega) only [condX_bool, blockX_normal, ↓gd, fset_cons, Bool.not_true, Bool.not_false, run_nil, run_cons, fget_cons', fput_cons', forget_nil, forget_cons', hget_nil', hget_cons', hset_cons', gcM_n, gcM_c, stp, opPick, opBox, justO, just, Rd.bind, Rd.run, Rd.opt, upds, acells, zeroCells, tsz, rdCells, fieldOf, aFieldAddr, aLoad, aStore, opStore, fresh, aIndexAddr, aNum, aBuiltin, aMin, aMax, aBin, aInt, putC, Nat.reduceAdd, Nat.reduceLT, Nat.reduceBEq, Nat.reduceEqDiff, Nat.reduceLeDiff, ↓reduceIte, liveBlk_eq, Nat.zero_add, Nat.add_zero, List.nil_append, rtX_some, addT_some, drX_some, runT_nil, runT_cons, neat_eq, descF_nil', descF_cons', ascH_nil', ascH_cons', stpT, Rd.foot, writing, touching, Tr.empty, dynPairs, apartT, disj, List.isEmpty_nil, List.isEmpty_cons, List.map_nil, List.map_cons, Bool.not_false, Bool.not_true, Bool.true_or, Bool.or_true, Bool.or_false, Bool.and_true, Bool.true_and, Bool.and_self, decide_true, decide_false, partsOf, fillA, window, putD_some, putD_none, and_true, true_and, Int.natCast_nonneg, Int.ofNat_lt, Int.toNat_natCast, aCall, snaps, List.append_nil, Option.map_some, List.elem_cons, List.elem_nil, List.length_cons, List.length_nil, List.getElem?_cons_zero, List.getElem?_cons_succ, List.drop_zero, List.take_succ_cons, List.take_nil, List.set_cons_zero, List.set_cons_succ, frz_nil, seqN, bindN, regN, snap_int, snap_nilsl, snap_imm, snap_agg, aBuild, aSlice, aBounds, bMax, bHigh, bLow, List.all_cons, List.all_nil, Nat.le_refl, Int.reduceLE, Int.reduceToNat, Nat.sub_zero, Nat.mul_one, Nat.zero_mul, List.not_mem_nil, beq_self_eq_true, Bool.false_eq_true, T_3, T_23, T_25, T_64, T_107, T_109, T_121, List.all_cons, List.all_nil, List.getD_cons_zero, List.getD_cons_succ, beq_self_eq_true, x88_61, r88_18_l, s88_18_0, x88_64, x88_65, x88_63, x88_69, r88_19_l, s88_19_0, s88_19_1, s88_19_2, s88_19_3, s88_19_4, s88_19_5, x88_73, r88_20_l, s88_20_0, s88_20_1, s88_20_2, s88_20_3, s88_20_4, s88_20_5, s88_20_6, s88_20_7, s88_20_8, s88_20_9, s88_20_10, s88_20_11, s88_20_12, s88_20_13, s88_20_14, s88_20_15, x88_76, r88_21_l, s88_21_0, s88_21_1, s88_21_2, x88_77, x88_75, x88_79, r88_22_l, r88_22_dr, r88_22_an, s88_22_0, s88_22_1, s88_22_2, s88_22_3, s88_22_4, s88_22_5, s88_22_6, x88_82, r88_23_l, s88_23_0, s88_23_1, s88_23_2, x88_83, x88_81, x88_84, x88_80, x88_78, x88_74, x88_72, x88_71, x88_85, r88_24_l, r88_24_dr, r88_24_an, s88_24_0, s88_24_1, s88_24_2, s88_24_3, s88_24_4, s88_24_5, s88_24_6, s88_24_7, s88_24_8, s88_24_9, s88_24_10, s88_24_11, x88_70, x88_68, x88_67, x88_86, r88_25_l, s88_25_0, s88_25_1, x88_66, x88_62, x88_60, g1, hat, hlen, htk, hc, m3, m4, hshl, hor, hset, hat2, hul, if_pos, wrp_succ (show i < 1000000 by omega)]
  exact ⟨_, rfl, rfl⟩
theorem h2_bad {C : Callee} {ls : List Ld} {es : List Pr} {e e2 : Bool} {n : Nat} (hl : ls.length = n) (hn : n ≤ 6) (hm : es.length ≤ 15) (i : Nat) (hi : i < es.length) {p : Pr} (hx : es[i]? = some p) (h0 : prE n (es.take i) p ≠ 0)
    (hc : ∀ (site : Nat → Nat) seen ex, aBack site true seen (thaw C 79 [.imm (cls bc (es.take i)) i ex, .agg (bc p)] [] 0) = .pure (.bool (decide (p ∈ es.take i)), [])) :
    ∃ H', (execA E C (fg 88) 0 156 [] 1000 c88_60) (h2S ls es e e2 n i) = some (.ret, ([(3, .int .i64 (prE n (es.take i) p)), (2, .ptr 2 0 2)], H')) ∧ hget H' 2 = some ⟨.box, [.nilsl, .nilsl]⟩ := by
  have hat := cls_at bc_len hx
  have htk := cls_takeN bc_len es i
  have hlen : (cls bc es).length = es.length * 2 := cls_length bc_len es
  have hBl := adj_len n (es.take i)
  simp only [h2S, h2H]
  generalize adj n (es.take i) = B at *
  obtain ⟨x, y⟩ := p
  simp only [bc] at hat hc
  have g1 : (i : Int) < es.length := by omega
  have hul : (ucs B).length = n := by rw [ucs_length, hBl]
  by_cases h1 : min x y < 0
  · have e2 : prE n (es.take i) (x, y) = 2 := by unfold prE; rw [if_pos (by simp only; omega)]
    have m1 : (if y < x then y else x) < 0 := by split <;> omega
    rw [e2]
    simp (disch := omega) only [seqX_ret, condX_bool, blockX_ret, ↓gd, fset_cons, Bool.not_false, run_nil, run_cons, fget_cons', fput_cons', forget_nil, forget_cons', hget_nil', hget_cons', hset_cons', gcM_n, gcM_c, stp, opPick, opBox, justO, just, Rd.bind, Rd.run, Rd.opt, upds, acells, zeroCells, tsz, rdCells, fieldOf, aFieldAddr, aLoad, aStore, opStore, fresh, aIndexAddr, aNum, aBuiltin, aMin, aBin, aInt, putC, Nat.reduceAdd, Nat.reduceLT, Nat.reduceBEq, Nat.reduceEqDiff, Nat.reduceLeDiff, ↓reduceIte, reduceCtorEq, liveBlk_eq, Nat.zero_add, Nat.add_zero, List.nil_append, rtX_some, runT_cons, neat_eq, descF_nil', descF_cons', ascH_nil', ascH_cons', stpT, Rd.foot, List.map_nil, Bool.not_false, Bool.and_self, decide_true, partsOf, fillA, window, putD_some, putD_none, and_true, true_and, Int.natCast_nonneg, Int.toNat_natCast, aCall, snaps, List.append_nil, Option.map_some, List.elem_cons, List.elem_nil, List.length_cons, List.length_nil, List.getElem?_cons_zero, List.getElem?_cons_succ, List.drop_zero, List.take_succ_cons, List.take_nil, List.set_cons_zero, List.set_cons_succ, frz_nil, seqN, bindN, regN, snap_int, snap_nilsl, snap_imm, snap_agg, aBuild, aSlice, aBounds, bMax, bHigh, bLow, Nat.le_refl, Int.reduceLE, Int.reduceToNat, Nat.sub_zero, Nat.mul_one, Nat.zero_mul, List.not_mem_nil, beq_self_eq_true, Bool.false_eq_true, T_3, T_23, T_25, T_64, T_109, beq_self_eq_true, x88_61, r88_18_l, s88_18_0, x88_64, x88_65, x88_63, x88_69, r88_19_l, s88_19_0, s88_19_1, s88_19_2, s88_19_3, s88_19_4, s88_19_5, x88_73, r88_20_l, s88_20_0, s88_20_1, s88_20_2, s88_20_3, s88_20_4, s88_20_5, s88_20_6, s88_20_7, s88_20_8, s88_20_9, s88_20_10, s88_20_11, s88_20_12, s88_20_13, s88_20_14, s88_20_15, x88_76, r88_21_l, s88_21_0, s88_21_1, s88_21_2, x88_77, x88_75, x88_79, r88_22_l, r88_22_dr, s88_22_0, s88_22_1, s88_22_2, s88_22_3, s88_22_4, s88_22_5, x88_78, x88_74, x88_72, x88_71, x88_70, x88_68, x88_67, x88_66, x88_62, x88_60, g1, hat, hlen, m1, if_pos]
    exact ⟨_, rfl, rfl⟩
  · have m1 : ¬ (if y < x then y else x) < 0 := by split <;> omega
    by_cases h2 : max x y ≥ n
    · have e2 : prE n (es.take i) (x, y) = 2 := by unfold prE; rw [if_pos (by simp only; omega)]
      have m2 : (if y > x then y else x) ≥ (n : Int) := by split <;> omega
      rw [e2]
      simp (disch := omega) only [seqX_ret, condX_bool, blockX_ret, ↓gd, fset_cons, run_nil, run_cons, fget_cons', fput_cons', forget_nil, forget_cons', hget_nil', hget_cons', hset_cons', gcM_n, gcM_c, stp, opPick, opBox, justO, just, Rd.bind, Rd.run, Rd.opt, upds, acells, zeroCells, tsz, rdCells, fieldOf, aFieldAddr, aLoad, aStore, opStore, fresh, aIndexAddr, aNum, aBuiltin, aMin, aMax, aBin, aInt, putC, Nat.reduceAdd, Nat.reduceLT, Nat.reduceBEq, Nat.reduceEqDiff, Nat.reduceLeDiff, ↓reduceIte, liveBlk_eq, Nat.zero_add, Nat.add_zero, List.nil_append, rtX_some, runT_cons, neat_eq, descF_nil', descF_cons', ascH_nil', ascH_cons', stpT, Rd.foot, List.map_nil, Bool.and_self, decide_true, decide_false, partsOf, fillA, window, putD_some, putD_none, and_true, true_and, Int.natCast_nonneg, Int.toNat_natCast, aCall, snaps, List.append_nil, Option.map_some, List.elem_cons, List.elem_nil, List.length_cons, List.length_nil, List.getElem?_cons_zero, List.getElem?_cons_succ, List.drop_zero, List.take_succ_cons, List.take_nil, List.set_cons_zero, List.set_cons_succ, frz_nil, seqN, bindN, regN, snap_int, snap_nilsl, snap_imm, snap_agg, aBuild, aSlice, aBounds, bMax, bHigh, bLow, Nat.le_refl, Int.reduceLE, Int.reduceToNat, Nat.sub_zero, Nat.mul_one, Nat.zero_mul, List.not_mem_nil, beq_self_eq_true, Bool.false_eq_true, T_3, T_23, T_25, T_64, T_109, beq_self_eq_true, x88_61, r88_18_l, s88_18_0, x88_64, x88_65, x88_63, x88_69, r88_19_l, s88_19_0, s88_19_1, s88_19_2, s88_19_3, s88_19_4, s88_19_5, x88_73, r88_20_l, s88_20_0, s88_20_1, s88_20_2, s88_20_3, s88_20_4, s88_20_5, s88_20_6, s88_20_7, s88_20_8, s88_20_9, s88_20_10, s88_20_11, s88_20_12, s88_20_13, s88_20_14, s88_20_15, x88_76, r88_21_l, s88_21_0, s88_21_1, s88_21_2, x88_77, x88_75, x88_79, r88_22_l, r88_22_dr, s88_22_0, s88_22_1, s88_22_2, s88_22_3, s88_22_4, s88_22_5, x88_78, x88_74, x88_72, x88_71, x88_70, x88_68, x88_67, x88_66, x88_62, x88_60, g1, hat, hlen, m1, m2, if_pos]
      exact ⟨_, rfl, rfl⟩
    · have m2 : ¬ (if y > x then y else x) ≥ (n : Int) := by split <;> omega
      have hin : (x, y) ∈ es.take i := by
        unfold prE at h0
        rw [if_neg (by simp only; omega)] at h0
        split at h0
        · assumption
        · simp at h0
      have e6 : prE n (es.take i) (x, y) = 6 := by unfold prE; rw [if_neg (by simp only; omega), if_pos hin]
      rw [e6]
      rw [show decide ((x, y) ∈ es.take i) = true by simpa using hin] at hc
      simp (disch := omega) only [seqX_ret, condX_bool, blockX_ret, ↓gd, fset_cons, Bool.not_true, Bool.not_false, run_nil, run_cons, fget_cons', fput_cons', forget_nil, forget_cons', hget_nil', hget_cons', hset_cons', gcM_n, gcM_c, stp, opPick, opBox, justO, just, Rd.bind, Rd.run, Rd.opt, upds, acells, zeroCells, tsz, rdCells, fieldOf, aFieldAddr, aLoad, aStore, opStore, fresh, aIndexAddr, aNum, aBuiltin, aMin, aMax, aBin, aInt, putC, Nat.reduceAdd, Nat.reduceLT, Nat.reduceBEq, Nat.reduceEqDiff, Nat.reduceLeDiff, ↓reduceIte, liveBlk_eq, Nat.zero_add, Nat.add_zero, List.nil_append, rtX_some, addT_some, drX_some, runT_nil, runT_cons, neat_eq, descF_nil', descF_cons', ascH_nil', ascH_cons', stpT, Rd.foot, writing, touching, Tr.empty, dynPairs, apartT, disj, List.isEmpty_nil, List.isEmpty_cons, List.map_nil, Bool.not_false, Bool.not_true, Bool.true_or, Bool.or_true, Bool.or_false, Bool.and_true, Bool.true_and, Bool.and_self, decide_true, decide_false, partsOf, fillA, window, putD_some, putD_none, and_true, true_and, Int.natCast_nonneg, Int.toNat_natCast, aCall, snaps, List.append_nil, Option.map_some, List.elem_cons, List.elem_nil, List.length_cons, List.length_nil, List.getElem?_cons_zero, List.getElem?_cons_succ, List.drop_zero, List.take_succ_cons, List.take_nil, List.set_cons_zero, List.set_cons_succ, frz_nil, seqN, bindN, regN, snap_int, snap_nilsl, snap_imm, snap_agg, aBuild, aSlice, aBounds, bMax, bHigh, bLow, List.all_cons, List.all_nil, Nat.le_refl, Int.reduceLE, Int.reduceToNat, Nat.sub_zero, Nat.mul_one, Nat.zero_mul, List.not_mem_nil, beq_self_eq_true, Bool.false_eq_true, T_3, T_23, T_25, T_64, T_109, List.all_cons, List.all_nil, List.getD_cons_zero, List.getD_cons_succ, beq_self_eq_true, x88_61, r88_18_l, s88_18_0, x88_64, x88_65, x88_63, x88_69, r88_19_l, s88_19_0, s88_19_1, s88_19_2, s88_19_3, s88_19_4, s88_19_5, x88_73, r88_20_l, s88_20_0, s88_20_1, s88_20_2, s88_20_3, s88_20_4, s88_20_5, s88_20_6, s88_20_7, s88_20_8, s88_20_9, s88_20_10, s88_20_11, s88_20_12, s88_20_13, s88_20_14, s88_20_15, x88_76, r88_21_l, s88_21_0, s88_21_1, s88_21_2, x88_77, x88_75, x88_79, r88_22_l, r88_22_dr, r88_22_an, s88_22_0, s88_22_1, s88_22_2, s88_22_3, s88_22_4, s88_22_5, s88_22_6, x88_82, r88_23_l, s88_23_0, s88_23_1, s88_23_2, x88_83, x88_81, x88_84, x88_80, x88_78, x88_74, x88_72, x88_71, x88_70, x88_68, x88_67, x88_66, x88_62, x88_60, g1, hat, hlen, htk, hc, m1, m2, if_pos]
      exact ⟨_, rfl, rfl⟩
end Go.AM.YtgfnbmfjbjopkaaDoor
end

section
namespace Go.AM.YtgfnbmfjbjopkaaDoor
open Go Go.AM Go.AM.Mule
set_option maxRecDepth 100000
set_option maxHeartbeats 4000000
theorem allLt_get {n : Nat} {B : List Nat} (h : ∀ x ∈ B, x < 2 ^ n) (i : Nat) : B.getD i 0 < 2 ^ n := by
  by_cases hi : i < B.length
  · have : B.getD i 0 = B[i] := by simp [hi]
    rw [this]; exact h _ (List.getElem_mem hi)
  · have : B.getD i 0 = 0 := by simp [hi]
    rw [this]; exact Nat.two_pow_pos n
theorem fwI_lt {n k : Nat} {B : List Nat} (h : ∀ x ∈ B, x < 2 ^ n) (i : Nat) : ∀ x ∈ fwI k B i, x < 2 ^ n := by
  unfold fwI
  split
  · intro x hx
    rcases List.mem_or_eq_of_mem_set hx with h1 | h1
    · exact h x h1
    · subst h1; exact Nat.or_lt_two_pow (allLt_get h i) (allLt_get h k)
  · exact h
theorem fwKp_lt {n k : Nat} {B : List Nat} (h : ∀ x ∈ B, x < 2 ^ n) : ∀ m, ∀ x ∈ (List.range m).foldl (fwI k) B, x < 2 ^ n
  | 0 => by simpa using h
  | m + 1 => by rw [List.range_succ, List.foldl_append]; exact fwI_lt (fwKp_lt h m) m
theorem fwKp_len {k : Nat} (B : List Nat) : ∀ m, ((List.range m).foldl (fwI k) B).length = B.length
  | 0 => rfl
  | m + 1 => by rw [List.range_succ, List.foldl_append, List.foldl_cons, List.foldl_nil, fwI_length, fwKp_len B m]
theorem fwp_lt {n : Nat} {B : List Nat} (h : ∀ x ∈ B, x < 2 ^ n) (m0 : Nat) : ∀ m, ∀ x ∈ (List.range m).foldl (fwK m0) B, x < 2 ^ n
  | 0 => by simpa using h
  | m + 1 => by rw [List.range_succ, List.foldl_append]; exact fwKp_lt (fwp_lt h m0 m) m0
theorem fwp_len (m0 : Nat) (B : List Nat) : ∀ m, ((List.range m).foldl (fwK m0) B).length = B.length
  | 0 => rfl
  | m + 1 => by rw [List.range_succ, List.foldl_append, List.foldl_cons, List.foldl_nil, fwK, fwKp_len, fwp_len m0 B m]
abbrev h3H (ls : List Ld) (n : Nat) (B : List Nat) : AHeap :=
  [(2, ⟨.box, [.nilsl, .nilsl]⟩), (5, ⟨.box, [.ref 61 0 n n (n * 5) 5 false, .ref 33 0 n n n 1 false]⟩), (33, ⟨.row, ucs B⟩), (61, ⟨.row, cls lc ls⟩)]
abbrev h3S (ls : List Ld) (n k : Nat) (B : List Nat) (i : Nat) : St :=
  ([(114, .int .i64 i), (113, .int .i64 n), (110, .int .i64 k), (109, .int .i64 n), (11, .int .i64 k), (5, .ptr 5 0 2), (4, .int .i64 n), (2, .ptr 2 0 2)], h3H ls n B)
theorem h3_go {C : Callee} {ls : List Ld} {n k : Nat} {B : List Nat} (hB : B.length = n) (hb : ∀ x ∈ B, x < 2 ^ n) (hn : n ≤ 6) (hk : k < n) (i : Nat) (hi : i < n) :
    ∃ s', (execA E C (fg 88) 0 156 [] 1000 c88_106) (h3S ls n k B i) = some (.normal, s') ∧ headA [] s' = h3S ls n k (fwI k B i) (i + 1) := by
  have gi := ucs_at (getD_at hB hi)
  have gk := ucs_at (getD_at hB hk)
  have bi := lt64 hn (allLt_get hb i)
  have bk' := lt64 hn (allLt_get hb k)
  have hul : (ucs B).length = n := by rw [ucs_length, hB]
  have g1 : (i : Int) < n := by omega
  have g2 : (k : Int) < n := by omega
  have hsh := shr64 (b := B.getD i 0) (i := k) (by omega)
  have hlt := shr_lt (b := B.getD i 0) (i := k) (by omega)
  have ha := bk_and1 hlt
  have he := bit_eq (B.getD i 0) k
  have hor := bk_or (a := B.getD i 0) (b := B.getD k 0) (by omega) (by omega)
  have hset := ucs_set B i (B.getD i 0 ||| B.getD k 0)
  simp only [h3S, h3H]
  by_cases hbit : bit B i k = true
  · have e : fwI k B i = B.set i (B.getD i 0 ||| B.getD k 0) := by unfold fwI; rw [if_pos hbit]
    have hb2 : (B.getD i 0).testBit k = true := hbit
    rw [e]
    generalize B.getD i 0 = x at *
    generalize B.getD k 0 = y at *
    simp (disch := omega) only [condX_bool, blockX_normal, Bool.not_true, Bool.not_false, run_nil, run_cons, fget_cons', fput_cons', forget_nil, forget_cons', hget_cons', hset_cons', gcM_n, gcM_c, stp, just, Rd.bind, Rd.run, Rd.opt, upds, acells, tsz, rdCells, fieldOf, aFieldAddr, aLoad, aStore, opStore, aIndexAddr, aNum, aBin, aInt, putC, Nat.reduceAdd, Nat.reduceLT, Nat.reduceBEq, Nat.reduceEqDiff, Nat.reduceLeDiff, ↓reduceIte, liveBlk_eq, Nat.zero_add, beq_iff_eq, List.nil_append, rtX_some, addT_some, drX_some, runT_nil, runT_cons, neat_eq, descF_nil', descF_cons', ascH_nil', ascH_cons', stpT, Rd.foot, writing, touching, Tr.empty, dynPairs, apartT, disj, List.isEmpty_nil, List.isEmpty_cons, List.map_nil, List.map_cons, Bool.not_false, Bool.not_true, Bool.true_or, Bool.or_true, Bool.or_false, Bool.and_true, Bool.true_and, Bool.and_self, decide_true, putD_some, putD_none, and_true, true_and, Int.natCast_nonneg, Int.toNat_natCast, snaps, List.append_nil, List.elem_cons, List.elem_nil, List.length_cons, List.length_nil, List.getElem?_cons_zero, List.getElem?_cons_succ, frz_nil, seqN, bindN, regN, snap_int, List.all_cons, List.all_nil, Nat.le_refl, Nat.mul_one, List.not_mem_nil, beq_self_eq_true, Bool.false_eq_true, T_107, T_109, T_121, List.all_cons, List.all_nil, List.getD_cons_zero, List.getD_cons_succ, beq_self_eq_true, x88_107, r88_30_l, s88_30_0, x88_110, x88_111, x88_109, x88_115, r88_31_l, s88_31_0, s88_31_1, x88_117, r88_32_l, s88_32_0, s88_32_1, s88_32_2, s88_32_3, s88_32_4, s88_32_5, s88_32_6, s88_32_7, s88_32_8, x88_119, r88_33_l, r88_33_dr, r88_33_an, s88_33_0, s88_33_1, s88_33_2, s88_33_3, s88_33_4, s88_33_5, s88_33_6, s88_33_7, s88_33_8, s88_33_9, s88_33_10, s88_33_11, s88_33_12, x88_120, x88_118, x88_116, x88_114, x88_113, x88_121, r88_34_l, s88_34_0, s88_34_1, x88_112, x88_108, x88_106, g1, g2, gi, gk, hul, hsh, ha, he, hor, hset, hb2, if_pos, wrp_succ (show i < 1000000 by omega)]
    exact ⟨_, rfl, rfl⟩
  · have e : fwI k B i = B := by unfold fwI; rw [if_neg hbit]
    have hb2 : (B.getD i 0).testBit k = false := by simpa [bit] using hbit
    rw [e]
    generalize B.getD i 0 = x at *
    generalize B.getD k 0 = y at *
    simp (disch := omega) only [condX_bool, blockX_normal, run_nil, run_cons, fget_cons', fput_cons', forget_nil, forget_cons', hget_cons', gcM_n, gcM_c, stp, just, Rd.bind, Rd.run, Rd.opt, upds, acells, tsz, rdCells, fieldOf, aFieldAddr, aLoad, aStore, opStore, aIndexAddr, aNum, aBin, aInt, Nat.reduceAdd, Nat.reduceLT, Nat.reduceBEq, Nat.reduceEqDiff, Nat.reduceLeDiff, ↓reduceIte, liveBlk_eq, Nat.zero_add, beq_iff_eq, rtX_some, runT_cons, neat_eq, descF_nil', descF_cons', ascH_nil', ascH_cons', stpT, Rd.foot, List.map_nil, Bool.and_self, decide_true, putD_some, putD_none, and_true, Int.natCast_nonneg, Int.toNat_natCast, List.elem_cons, List.elem_nil, List.length_cons, List.length_nil, List.getElem?_cons_zero, List.getElem?_cons_succ, seqN, bindN, regN, Nat.le_refl, Nat.mul_one, beq_self_eq_true, Bool.false_eq_true, T_107, T_109, T_121, beq_self_eq_true, x88_107, r88_30_l, s88_30_0, x88_110, x88_111, x88_109, x88_115, r88_31_l, s88_31_0, s88_31_1, x88_117, r88_32_l, s88_32_0, s88_32_1, s88_32_2, s88_32_3, s88_32_4, s88_32_5, s88_32_6, s88_32_7, s88_32_8, x88_119, r88_33_l, r88_33_dr, s88_33_0, s88_33_1, s88_33_2, s88_33_3, s88_33_4, s88_33_5, s88_33_6, s88_33_7, s88_33_8, s88_33_9, s88_33_10, s88_33_11, s88_33_12, x88_120, x88_118, x88_116, x88_114, x88_113, x88_121, r88_34_l, s88_34_0, s88_34_1, x88_112, x88_108, x88_106, g1, g2, gi, gk, hul, hsh, ha, he, hb2, wrp_succ (show i < 1000000 by omega)]
    exact ⟨_, rfl, rfl⟩
abbrev h4S (ls : List Ld) (n : Nat) (B : List Nat) (k : Nat) : St :=
  ([(110, .int .i64 k), (109, .int .i64 n), (5, .ptr 5 0 2), (4, .int .i64 n), (2, .ptr 2 0 2)], h3H ls n B)
theorem h4_go {C : Callee} {ls : List Ld} {n k : Nat} {B : List Nat} (hB : B.length = n) (hb : ∀ x ∈ B, x < 2 ^ n) (hn : n ≤ 6) (hk : k < n) :
    ∃ s', (execA E C (fg 88) 0 156 [] 1000 c88_92) (h4S ls n B k) = some (.normal, s') ∧ headA [] s' = h4S ls n (fwK n B k) (k + 1) := by
  have hloop := loopN (f := (execA E C (fg 88) 0 156 [] 1000 c88_106)) (fun i => h3S ls n k ((List.range i).foldl (fwI k) B) i) n (fun i hi => by
      have := h3_go (C := C) (ls := ls) (k := k) (B := (List.range i).foldl (fwI k) B) (by rw [fwKp_len, hB]) (fwKp_lt hb i) hn hk i hi
      rw [List.range_succ, List.foldl_append]; exact this) rfl (by omega)
    (e := .exit 9) (se := ([(115, .bool false), (114, .int .i64 n), (113, .int .i64 n), (110, .int .i64 k), (109, .int .i64 n), (11, .int .i64 k), (5, .ptr 5 0 2), (4, .int .i64 n), (2, .ptr 2 0 2)], h3H ls n (fwK n B k)))
    (by
      rw [show (List.range n).foldl (fwI k) B = fwK n B k from rfl]
      simp (disch := omega) only [seqX_exit, condX_bool, run_nil, run_cons, fget_cons', fput_cons', forget_nil, forget_cons', gcM_n, stp, just, Rd.bind, Rd.run, Rd.opt, upds, aBin, aInt, Nat.reduceEqDiff, Nat.reduceLeDiff, ↓reduceIte, decide_false, putD_some, List.elem_nil, seqN, bindN, regN, Int.lt_irrefl, Bool.false_eq_true, x88_107, r88_30_l, s88_30_0, x88_110, x88_111, x88_109, x88_108, x88_106, h3S]) (by simp)
  simp only [h3S, h3H, List.range_zero, List.foldl_nil, cl0] at hloop
  have g1 : (k : Int) < n := by omega
  simp only [h4S, h3H]
  generalize fwK n B k = B2 at *
  simp (disch := omega) only [condX_bool, blockX_exit, blockX_normal, run_nil, run_cons, fget_cons', fput_cons', forget_nil, forget_cons', gcM_n, gcM_c, stp, just, Rd.bind, Rd.run, Rd.opt, upds, aBin, aInt, Nat.reduceBEq, Nat.reduceEqDiff, Nat.reduceLeDiff, ↓reduceIte, decide_true, putD_some, List.elem_cons, List.elem_nil, seqN, bindN, regN, beq_self_eq_true, Bool.false_eq_true, beq_self_eq_true, x88_93, r88_27_l, s88_27_0, x88_96, x88_97, x88_95, x88_101, r88_28_l, s88_28_0, s88_28_1, x88_103, r88_29_l, s88_29_0, s88_29_1, x88_105, x88_104, x88_102, x88_100, x88_99, x88_122, r88_35_l, s88_35_0, s88_35_1, x88_98, x88_94, x88_92, g1, hloop, wrp_succ (show k < 1000000 by omega)]
  exact ⟨_, rfl, rfl⟩
abbrev h5S (ls : List Ld) (n : Nat) (B : List Nat) (i : Nat) : St :=
  ([(143, .int .i64 i), (142, .int .i64 n), (141, .ref 33 0 n n n 1 false), (5, .ptr 5 0 2), (2, .ptr 2 0 2)], h3H ls n B)
theorem h5_go {C : Callee} {ls : List Ld} {n : Nat} {B : List Nat} (hB : B.length = n) (hb : ∀ x ∈ B, x < 2 ^ n) (hn : n ≤ 6) (i : Nat) (hi : i < n) (h0 : bit B i i = false) :
    ∃ s', (execA E C (fg 88) 0 156 [] 1000 c88_128) (h5S ls n B i) = some (.normal, s') ∧ headA [] s' = h5S ls n B (i + 1) := by
  have gi := ucs_at (getD_at hB hi)
  have bi := lt64 hn (allLt_get hb i)
  have hul : (ucs B).length = n := by rw [ucs_length, hB]
  have g1 : (i : Int) < n := by omega
  have hsh := shr64 (b := B.getD i 0) (i := i) (by omega)
  have hlt := shr_lt (b := B.getD i 0) (i := i) (by omega)
  have ha := bk_and1 hlt
  have he := bit_eq (B.getD i 0) i
  have hb2 : (B.getD i 0).testBit i = false := h0
  simp only [h5S, h3H]
  generalize B.getD i 0 = x at *
  simp (disch := omega) only [condX_bool, blockX_normal, run_nil, run_cons, fget_cons', fput_cons', forget_nil, forget_cons', hget_cons', hset_cons', gcM_n, gcM_c, stp, justO, just, Rd.bind, Rd.run, Rd.opt, upds, acells, tsz, rdCells, aLoad, aStore, opStore, aIndexAddr, aNum, aBin, aInt, putC, Nat.reduceAdd, Nat.reduceLT, Nat.reduceBEq, Nat.reduceEqDiff, Nat.reduceLeDiff, ↓reduceIte, liveBlk_eq, Nat.zero_add, beq_iff_eq, List.nil_append, decide_true, partsOf, fillA, putD_some, putD_none, and_true, Int.natCast_nonneg, Int.toNat_natCast, snaps, List.append_nil, Option.map_some, List.elem_cons, List.elem_nil, List.length_cons, List.length_nil, List.set_cons_zero, List.set_cons_succ, frz_nil, seqN, bindN, regN, snap_nilsl, aBuild, Nat.le_refl, Nat.mul_one, List.not_mem_nil, beq_self_eq_true, Bool.false_eq_true, T_107, T_109, T_121, beq_self_eq_true, x88_129, r88_37_l, s88_37_0, x88_132, x88_133, x88_131, x88_137, r88_38_l, s88_38_0, s88_38_1, s88_38_2, s88_38_3, s88_38_4, x88_139, r88_39_l, s88_39_0, s88_39_1, s88_39_2, s88_39_3, s88_39_4, x88_142, r88_40_l, s88_40_0, s88_40_1, s88_40_2, x88_143, x88_141, x88_144, x88_140, x88_138, x88_136, x88_135, x88_145, r88_41_l, s88_41_0, s88_41_1, x88_134, x88_130, x88_128, g1, gi, hul, hsh, ha, he, hb2, wrp_succ (show i < 1000000 by omega)]
  exact ⟨_, rfl, rfl⟩
theorem h5_bad {C : Callee} {ls : List Ld} {n : Nat} {B : List Nat} (hB : B.length = n) (hb : ∀ x ∈ B, x < 2 ^ n) (hn : n ≤ 6) (i : Nat) (hi : i < n) (h0 : bit B i i = true) :
    ∃ H', (execA E C (fg 88) 0 156 [] 1000 c88_128) (h5S ls n B i) = some (.ret, ([(3, .int .i64 13), (2, .ptr 2 0 2)], H')) ∧ hget H' 2 = some ⟨.box, [.nilsl, .nilsl]⟩ := by
  have gi := ucs_at (getD_at hB hi)
  have bi := lt64 hn (allLt_get hb i)
  have hul : (ucs B).length = n := by rw [ucs_length, hB]
  have g1 : (i : Int) < n := by omega
  have hsh := shr64 (b := B.getD i 0) (i := i) (by omega)
  have hlt := shr_lt (b := B.getD i 0) (i := i) (by omega)
  have ha := bk_and1 hlt
  have he := bit_eq (B.getD i 0) i
  have hb2 : (B.getD i 0).testBit i = true := h0
  simp only [h5S, h3H]
  generalize B.getD i 0 = x at *
  simp (disch := omega) only [seqX_ret, condX_bool, blockX_ret, run_nil, run_cons, fget_cons', fput_cons', forget_nil, forget_cons', hget_cons', hset_cons', gcM_n, gcM_c, stp, justO, just, Rd.bind, Rd.run, Rd.opt, upds, acells, tsz, rdCells, aLoad, aStore, opStore, aIndexAddr, aNum, aBin, aInt, putC, Nat.reduceAdd, Nat.reduceLT, Nat.reduceBEq, Nat.reduceEqDiff, Nat.reduceLeDiff, ↓reduceIte, liveBlk_eq, Nat.zero_add, beq_iff_eq, List.nil_append, decide_true, partsOf, fillA, putD_some, putD_none, and_true, Int.natCast_nonneg, Int.toNat_natCast, snaps, List.append_nil, Option.map_some, List.elem_cons, List.elem_nil, List.length_cons, List.length_nil, List.set_cons_zero, List.set_cons_succ, frz_nil, seqN, bindN, regN, snap_nilsl, aBuild, Nat.le_refl, Nat.mul_one, List.not_mem_nil, beq_self_eq_true, Bool.false_eq_true, T_107, T_109, T_121, beq_self_eq_true, x88_129, r88_37_l, s88_37_0, x88_132, x88_133, x88_131, x88_137, r88_38_l, s88_38_0, s88_38_1, s88_38_2, s88_38_3, s88_38_4, x88_139, r88_39_l, s88_39_0, s88_39_1, s88_39_2, s88_39_3, s88_39_4, x88_142, r88_40_l, s88_40_0, s88_40_1, s88_40_2, x88_143, x88_141, x88_144, x88_140, x88_138, x88_136, x88_135, x88_134, x88_130, x88_128, g1, gi, hul, hsh, ha, he, hb2]
  exact ⟨_, rfl, rfl⟩
end Go.AM.YtgfnbmfjbjopkaaDoor
end

section
namespace Go.AM.YtgfnbmfjbjopkaaDoor
open Go Go.AM Go.AM.Mule
set_option maxRecDepth 100000
set_option maxHeartbeats 4000000
theorem at_getD {α : Type} [Inhabited α] {l : List α} {i : Nat} (h : i < l.length) : l[i]? = some (l.getD i default) := by
  rw [List.getElem?_eq_getElem h]; simp [h]
def fst1 (m : Nat) (p : Nat → Bool) : Nat := (List.range m).findIdx p
theorem fst1_le (m : Nat) (p : Nat → Bool) : fst1 m p ≤ m := by
  have := List.findIdx_le_length (xs := List.range m) (p := p)
  rwa [List.length_range] at this
theorem fst1_lt {m : Nat} {p : Nat → Bool} {i : Nat} (h : i < fst1 m p) : p i = false := by
  have := List.not_of_lt_findIdx h
  simpa using this
theorem fst1_at {m : Nat} {p : Nat → Bool} (h : fst1 m p < m) : p (fst1 m p) = true := by
  have := List.findIdx_getElem (xs := List.range m) (p := p) (w := by rw [List.length_range]; exact h)
  rw [List.getElem_range] at this
  exact this
def firstE (m : Nat) (e : Nat → Int) : Int := if fst1 m (fun i => e i != 0) < m then e (fst1 m fun i => e i != 0) else 0
theorem firstE_zero {m : Nat} {e : Nat → Int} : firstE m e = 0 ↔ ∀ i, i < m → e i = 0 := by
  unfold firstE
  split
  · rename_i h
    have := fst1_at h
    constructor
    · intro h2; rw [h2] at this; simp at this
    · intro h2; exact h2 _ h
  · rename_i h
    have := fst1_le m (fun i => e i != 0)
    refine ⟨fun _ i hi => ?_, fun _ => rfl⟩
    have := fst1_lt (m := m) (p := fun i => e i != 0) (i := i) (by omega)
    simpa using this
/-- The error of a caravan; 0: none. -/
def ldsE (ls : List Ld) : Int := firstE ls.length fun i => ldE (ls.getD i default)
def prsE (n : Nat) (es : List Pr) : Int := firstE es.length fun i => prE n (es.take i) (es.getD i default)
def sets (n : Nat) (es : List Pr) : List Nat := fw n (adj n es)
def clashB (n : Nat) (B : List Nat) : Bool := (List.range n).any fun i => bit B i i
def chk (ls : List Ld) (es : List Pr) : Int :=
  if ls.length = 0 then 4 else if 6 < ls.length ∨ 15 < es.length then 3 else if ldsE ls ≠ 0 then ldsE ls else if prsE ls.length es ≠ 0 then prsE ls.length es else if clashB ls.length (sets ls.length es) = true then 13 else 0
theorem any_fst1 (n : Nat) (p : Nat → Bool) : (List.range n).any p = decide (fst1 n p < n) := by
  have h := List.findIdx_lt_length (xs := List.range n) (p := p)
  rw [List.length_range] at h
  rw [Bool.eq_iff_iff, decide_eq_true_eq, fst1, h, List.any_eq_true]
theorem prs_ok {n : Nat} {es : List Pr} (h : prsE n es = 0) : ∀ p ∈ es.map tN, p.1 < n ∧ p.2 < n := by
  intro q hq
  obtain ⟨p, hp, rfl⟩ := List.mem_map.1 hq
  obtain ⟨i, hi, e⟩ := List.mem_iff_getElem.1 hp
  have := firstE_zero.1 h i hi
  have hg : es.getD i default = p := by rw [← e]; simp [hi]
  rw [hg] at this
  obtain ⟨a, b, rfl, h1, h2, _⟩ := prE_ok this
  exact ⟨by simpa [tN] using h1, by simpa [tN] using h2⟩
theorem prs_part {n : Nat} {es : List Pr} {k : Nat} (hk : k ≤ es.length) (h : ∀ i, i < k → prE n (es.take i) (es.getD i default) = 0) : ∀ p ∈ (es.take k).map tN, p.1 < n ∧ p.2 < n := by
  refine prs_ok (es := es.take k) (firstE_zero.2 fun i hi => ?_)
  rw [List.length_take] at hi
  have := h i (by omega)
  rw [List.take_take, Nat.min_eq_left (by omega)]
  have e : (es.take k).getD i default = es.getD i default := by
    simp only [List.getD_eq_getElem?_getD, List.getElem?_take, if_pos (show i < k by omega)]
  rwa [e]
theorem chk_parts {ls : List Ld} {es : List Pr} (h : chk ls es = 0) : 0 < ls.length ∧ ls.length ≤ 6 ∧ es.length ≤ 15 ∧ ldsE ls = 0 ∧ prsE ls.length es = 0 ∧ clashB ls.length (sets ls.length es) = false := by
  unfold chk at h
  split at h
  · simp at h
  · rename_i h1
    split at h
    · simp at h
    · rename_i h2
      split at h
      · rename_i h3; exact absurd h h3
      · rename_i h3
        split at h
        · rename_i h4; exact absurd h h4
        · rename_i h4
          split at h
          · simp at h
          · rename_i h5
            exact ⟨by omega, by omega, by omega, by simpa using h3, by simpa using h4, by simpa using h5⟩
theorem chk_tr {ls : List Ld} {es : List Pr} (h : chk ls es = 0) : TrOk ls (sets ls.length es) ls.length ∧ Ord (bit (sets ls.length es)) ∧ (∀ a b, bit (sets ls.length es) a b = true ↔ Mule.Reach (es.map tN) a b) ∧ ∀ p ∈ es.map tN, p.1 < ls.length ∧ p.2 < ls.length := by
  obtain ⟨h1, h2, h3, h4, h5, h6⟩ := chk_parts h
  have hp := prs_ok h5
  obtain ⟨c1, c2⟩ := closed_spec hp
  have e : sets ls.length es = closed ls.length (es.map tN) := rfl
  rw [e]
  refine ⟨⟨h1, h2, rfl, c1, fun x hx => ?_, fun x hx => fwp_lt (adj_lt hp) _ _ x hx⟩, ⟨fun i => ?_, fun i j k a b => ?_⟩, c2, hp⟩
  · obtain ⟨i, hi, e⟩ := List.mem_iff_getElem.1 hx
    have := firstE_zero.1 h4 i hi
    have hg : ls.getD i default = x := by rw [← e]; simp [hi]
    rw [hg] at this
    unfold ldE at this
    split at this
    · rename_i hB; exact ldB_ok.1 hB
    · simp at this
  · cases hb : bit (closed ls.length (es.map tN)) i i with
    | false => rfl
    | true =>
      have hlt := (reach_lt hp ((c2 i i).1 hb)).1
      rw [e] at h6
      have : clashB ls.length (closed ls.length (es.map tN)) = true := List.any_eq_true.2 ⟨i, List.mem_range.2 hlt, hb⟩
      rw [h6] at this
      exact absurd this (by simp)
  · exact (c2 _ _).2 (((c2 _ _).1 a).trans ((c2 _ _).1 b))
structure HaC (C : Callee) : Prop where
  rw_ : H1C C
  pin : ∀ (site : Nat → Nat) seen ex (l : List Pr) (q : Pr), l.length < 900 → aBack site true seen (thaw C 79 [.imm (cls bc l) l.length ex, .agg (bc q)] [] 0) = .pure (.bool (decide (q ∈ l)), [])
theorem haC (d : Nat) : HaC (callA E fg 1000 (d + 2)) := ⟨⟨fun _ _ _ => rec_call, fun _ _ _ => within_call⟩, fun _ _ _ _ _ h => pin_call h⟩
theorem h1_all {C : Callee} (hC : H1C C) {ls : List Ld} {e : Bool} {b : AV} {n : Nat} {z : List AV} (hl : ls.length = n) (hz : z.length = n) (hn : n ≤ 6) (hn0 : 0 < n) (hb : b = .nilsl ∨ ∃ c m ex, b = .imm c m ex) :
    (ldsE ls ≠ 0 ∧ ∃ H', iterA (execA E C (fg 88) 0 156 [] 1000 c88_26) (headA []) 1000 (h1S ls e b n z 0) = some (.ret, ([(3, .int .i64 (ldsE ls)), (2, .ptr 2 0 2)], H')) ∧ hget H' 2 = some ⟨.box, [.nilsl, .nilsl]⟩) ∨
    (ldsE ls = 0 ∧ iterA (execA E C (fg 88) 0 156 [] 1000 c88_26) (headA []) 1000 (h1S ls e b n z 0) = some (.exit 1, ([(39, .bool false), (38, .int .i64 n), (37, .int .i64 n), (36, .imm (cls lc ls) n e), (5, .ptr 5 0 2), (4, .int .i64 n), (2, .ptr 2 0 2), (1, .ptr 1 0 2)],
      [(1, ⟨.box, [.imm (cls lc ls) n e, b]⟩), (2, ⟨.box, [.nilsl, .nilsl]⟩), (5, ⟨.box, [.ref 61 0 n n (n * 5) 5 false, .ref 33 0 n n n 1 false]⟩), (33, ⟨.row, z⟩), (61, ⟨.row, cls lc ls⟩)]))) := by
  have hle := fst1_le ls.length (fun i => ldE (ls.getD i default) != 0)
  have hround : ∀ i, i < fst1 ls.length (fun i => ldE (ls.getD i default) != 0) → ∃ s', (execA E C (fg 88) 0 156 [] 1000 c88_26) (h1S ls e b n z i) = some (.normal, s') ∧ headA [] s' = h1S ls e b n z (i + 1) := by
    intro i hi
    refine h1_go hC hl hz hn hb i (by omega) fun l hx => ?_
    have := fst1_lt hi
    simp only [List.getD_eq_getElem?_getD, hx, Option.getD_some] at this
    simpa using this
  have h0 : headA [] (h1S ls e b n z 0) = h1S ls e b n z 0 := by
    rcases hb with rfl | ⟨_, _, _, rfl⟩ <;> rfl
  by_cases hlt : fst1 ls.length (fun i => ldE (ls.getD i default) != 0) < ls.length
  · have hat := fst1_at hlt
    have hE : ldsE ls = ldE (ls.getD (fst1 ls.length fun i => ldE (ls.getD i default) != 0) default) := by
      unfold ldsE firstE; rw [if_pos hlt]
    have hx : ls[fst1 ls.length fun i => ldE (ls.getD i default) != 0]? = some (ls.getD (fst1 ls.length fun i => ldE (ls.getD i default) != 0) default) := at_getD hlt
    have hne : ldE (ls.getD (fst1 ls.length fun i => ldE (ls.getD i default) != 0) default) ≠ 0 := by simpa using hat
    obtain ⟨H', b1, b2⟩ := h1_bad hC (e := e) (b := b) hl hz hn _ (by omega) hx hne
    refine .inl ⟨by rw [hE]; exact hne, H', ?_, b2⟩
    rw [hE]
    exact loopN (f := (execA E C (fg 88) 0 156 [] 1000 c88_26)) (fun i => h1S ls e b n z i) _ hround h0 (by omega) b1 (by simp)
  · have hE : ldsE ls = 0 := by unfold ldsE firstE; rw [if_neg hlt]
    have e1 : fst1 ls.length (fun i => ldE (ls.getD i default) != 0) = n := by omega
    rw [e1] at hround
    refine .inr ⟨hE, loopN (f := (execA E C (fg 88) 0 156 [] 1000 c88_26)) (fun i => h1S ls e b n z i) n hround h0 (by omega) ?_ (by simp)⟩
    have t : ls.take n = ls := List.take_of_length_le (by omega)
    have oo : oH 61 (cls lc ls) = [(61, ⟨.row, cls lc ls⟩)] := oH_ne 61 (by rw [cls_length lc_len]; omega)
    have ov : oV 61 5 n = .ref 61 0 n n (n * 5) 5 false := by
      cases n with
      | zero => omega
      | succ n => rfl
    simp only [h1S, t, oo, ov]
    simp (disch := omega) only [seqX_exit, condX_bool, run_nil, run_cons, fget_cons', fput_cons', forget_nil, forget_cons', gcM_n, stp, just, Rd.bind, Rd.run, Rd.opt, upds, aBin, aInt, Nat.reduceEqDiff, Nat.reduceLeDiff, ↓reduceIte, decide_false, putD_some, List.elem_nil, seqN, bindN, regN, Int.lt_irrefl, Bool.false_eq_true, x88_27, r88_8_l, s88_8_0, x88_30, x88_31, x88_29, x88_28, x88_26]
theorem h2_all {C : Callee} (hC : HaC C) {ls : List Ld} {es : List Pr} {e e2 : Bool} {n : Nat} (hl : ls.length = n) (hn : n ≤ 6) (hm : es.length ≤ 15) :
    (prsE n es ≠ 0 ∧ ∃ H', iterA (execA E C (fg 88) 0 156 [] 1000 c88_60) (headA []) 1000 (h2S ls es e e2 n 0) = some (.ret, ([(3, .int .i64 (prsE n es)), (2, .ptr 2 0 2)], H')) ∧ hget H' 2 = some ⟨.box, [.nilsl, .nilsl]⟩) ∨
    (prsE n es = 0 ∧ iterA (execA E C (fg 88) 0 156 [] 1000 c88_60) (headA []) 1000 (h2S ls es e e2 n 0) = some (.exit 4, ([(68, .bool false), (67, .int .i64 es.length), (66, .int .i64 es.length), (65, .imm (cls bc es) es.length e2), (5, .ptr 5 0 2), (4, .int .i64 n), (2, .ptr 2 0 2), (1, .ptr 1 0 2)],
      h2H ls (.imm (cls lc ls) n e) (.imm (cls bc es) es.length e2) n (adj n es)))) := by
  have hle := fst1_le es.length (fun i => prE n (es.take i) (es.getD i default) != 0)
  have hz : ∀ i, i < fst1 es.length (fun i => prE n (es.take i) (es.getD i default) != 0) → prE n (es.take i) (es.getD i default) = 0 := fun i hi => by simpa using fst1_lt hi
  have hcall : ∀ i, i ≤ es.length → ∀ (site : Nat → Nat) seen ex (p : Pr), aBack site true seen (thaw C 79 [.imm (cls bc (es.take i)) i ex, .agg (bc p)] [] 0) = .pure (.bool (decide (p ∈ es.take i)), []) := by
    intro i hi site seen ex p
    have := hC.pin site seen ex (es.take i) p (by rw [List.length_take]; omega)
    rwa [List.length_take, Nat.min_eq_left hi] at this
  have hround : ∀ i, i < fst1 es.length (fun i => prE n (es.take i) (es.getD i default) != 0) → ∃ s', (execA E C (fg 88) 0 156 [] 1000 c88_60) (h2S ls es e e2 n i) = some (.normal, s') ∧ headA [] s' = h2S ls es e e2 n (i + 1) := by
    intro i hi
    have hx : es[i]? = some (es.getD i default) := at_getD (by omega)
    exact h2_go hl hn hm i (by omega) (prs_part (by omega) fun j hj => hz j (by omega)) hx (hz i hi) fun site seen ex => hcall i (by omega) site seen ex _
  by_cases hlt : fst1 es.length (fun i => prE n (es.take i) (es.getD i default) != 0) < es.length
  · have hat := fst1_at hlt
    have hE : prsE n es = prE n (es.take (fst1 es.length fun i => prE n (es.take i) (es.getD i default) != 0)) (es.getD (fst1 es.length fun i => prE n (es.take i) (es.getD i default) != 0) default) := by
      unfold prsE firstE; rw [if_pos hlt]
    generalize fst1 es.length (fun i => prE n (es.take i) (es.getD i default) != 0) = k at *
    have hx : es[k]? = some (es.getD k default) := at_getD hlt
    have hne : prE n (es.take k) (es.getD k default) ≠ 0 := by simpa using hat
    obtain ⟨H', b1, b2⟩ := h2_bad (C := C) (e := e) (e2 := e2) hl hn hm k hlt hx hne fun site seen ex => hcall k (by omega) site seen ex _
    refine .inl ⟨by rw [hE]; exact hne, H', ?_, b2⟩
    rw [hE]
    exact loopN (f := (execA E C (fg 88) 0 156 [] 1000 c88_60)) (fun i => h2S ls es e e2 n i) _ hround rfl (by omega) b1 (by simp)
  · have hE : prsE n es = 0 := by unfold prsE firstE; rw [if_neg hlt]
    have e1 : fst1 es.length (fun i => prE n (es.take i) (es.getD i default) != 0) = es.length := by omega
    rw [e1] at hround
    refine .inr ⟨hE, loopN (f := (execA E C (fg 88) 0 156 [] 1000 c88_60)) (fun i => h2S ls es e e2 n i) es.length hround rfl (by omega) ?_ (by simp)⟩
    simp only [h2S, List.take_length]
    simp (disch := omega) only [seqX_exit, condX_bool, run_nil, run_cons, fget_cons', fput_cons', forget_nil, forget_cons', gcM_n, stp, just, Rd.bind, Rd.run, Rd.opt, upds, aBin, aInt, Nat.reduceEqDiff, Nat.reduceLeDiff, ↓reduceIte, decide_false, putD_some, List.elem_nil, seqN, bindN, regN, Int.lt_irrefl, Bool.false_eq_true, x88_61, r88_18_l, s88_18_0, x88_64, x88_65, x88_63, x88_62, x88_60]
theorem h5_all {C : Callee} {ls : List Ld} {n : Nat} {B : List Nat} (hB : B.length = n) (hb : ∀ x ∈ B, x < 2 ^ n) (hn : n ≤ 6) :
    (clashB n B = true ∧ ∃ H', iterA (execA E C (fg 88) 0 156 [] 1000 c88_128) (headA []) 1000 (h5S ls n B 0) = some (.ret, ([(3, .int .i64 13), (2, .ptr 2 0 2)], H')) ∧ hget H' 2 = some ⟨.box, [.nilsl, .nilsl]⟩) ∨
    (clashB n B = false ∧ iterA (execA E C (fg 88) 0 156 [] 1000 c88_128) (headA []) 1000 (h5S ls n B 0) = some (.exit 11, ([(144, .bool false), (143, .int .i64 n), (142, .int .i64 n), (141, .ref 33 0 n n n 1 false), (5, .ptr 5 0 2), (2, .ptr 2 0 2)], h3H ls n B))) := by
  have hle := fst1_le n (fun i => bit B i i)
  have hround : ∀ i, i < fst1 n (fun i => bit B i i) → ∃ s', (execA E C (fg 88) 0 156 [] 1000 c88_128) (h5S ls n B i) = some (.normal, s') ∧ headA [] s' = h5S ls n B (i + 1) := fun i hi => h5_go hB hb hn i (by omega) (fst1_lt (p := fun i => bit B i i) hi)
  have ha := any_fst1 n (fun i => bit B i i)
  by_cases hlt : fst1 n (fun i => bit B i i) < n
  · have hat := fst1_at hlt
    obtain ⟨H', b1, b2⟩ := h5_bad (C := C) (ls := ls) hB hb hn _ hlt hat
    refine .inl ⟨by unfold clashB; rw [ha]; exact decide_eq_true hlt, H', ?_, b2⟩
    exact loopN (f := (execA E C (fg 88) 0 156 [] 1000 c88_128)) (fun i => h5S ls n B i) _ hround rfl (by omega) b1 (by simp)
  · have e1 : fst1 n (fun i => bit B i i) = n := by omega
    rw [e1] at hround
    refine .inr ⟨by unfold clashB; rw [ha]; exact decide_eq_false hlt, loopN (f := (execA E C (fg 88) 0 156 [] 1000 c88_128)) (fun i => h5S ls n B i) n hround rfl (by omega) ?_ (by simp)⟩
    simp (disch := omega) only [seqX_exit, condX_bool, run_nil, run_cons, fget_cons', fput_cons', forget_nil, forget_cons', gcM_n, stp, just, Rd.bind, Rd.run, Rd.opt, upds, aBin, aInt, Nat.reduceEqDiff, Nat.reduceLeDiff, ↓reduceIte, decide_false, putD_some, List.elem_nil, seqN, bindN, regN, Int.lt_irrefl, Bool.false_eq_true, x88_129, r88_37_l, s88_37_0, x88_132, x88_133, x88_131, x88_130, x88_128, h5S]
end Go.AM.YtgfnbmfjbjopkaaDoor
end
