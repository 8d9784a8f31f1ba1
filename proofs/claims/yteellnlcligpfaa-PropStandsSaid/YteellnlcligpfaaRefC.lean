/- The reference's worst truths and moments. Own work of this project. -/
import Derived.Test.YteellnlcligpfaaRefB
namespace Go.AM
theorem fresh_bind (site : Nat) (b : Blk) (r : AV) : ((freeAll [site]).bind fun _ => (frz []).bind fun us => Rd.pure (r, us ++ [(site, b)])) = (fresh site b).bind fun f => Rd.pure (r, f) := by
  simp only [freeAll, frz, fresh, Rd.bind, List.nil_append]
  congr 1
  funext x
  cases x <;> rfl
theorem aBack_ref {C : Callee} {site : Nat → Nat} {f : FuncId} {args : List AV} {id n sz : Nat} {cells : List AV} {H' : AHeap} (h : C f args [] 0 = some (.ref id 0 n n cells.length sz false, H')) (hg : hget H' id = some ⟨.row, cells⟩) :
    aBack site true [] (thaw C f args [] 0) = (fresh (site 0) ⟨.row, cells⟩).bind fun f => .pure (.ref (site 0) 0 n n cells.length sz false, f) := by
  rw [← fresh_bind]
  simp only [thaw, h, frzRet, aBack, imp, hg, List.length_nil, List.not_mem_nil, not_false_eq_true, and_true, if_true, List.map_cons, List.map_nil, AM.apart, List.elem_nil, Bool.not_false, Bool.and_true, AV.leads]
theorem aBack_refint {C : Callee} {site : Nat → Nat} {f : FuncId} {args : List AV} {id n sz : Nat} {k : IntKind} {z : Int} {cells : List AV} {H' : AHeap} (h : C f args [] 0 = some (.tup [.ref id 0 n n cells.length sz false, .int k z], H')) (hg : hget H' id = some ⟨.row, cells⟩) :
    aBack site true [] (thaw C f args [] 0) = (fresh (site 0) ⟨.row, cells⟩).bind fun f => .pure (.tup [.ref (site 0) 0 n n cells.length sz false, .int k z], f) := by
  rw [← fresh_bind]
  simp only [thaw, h, frzRet, aBack, imp, imps, hg, List.length_nil, List.not_mem_nil, not_false_eq_true, and_true, if_true, List.map_cons, List.map_nil, AM.apart, List.elem_nil, Bool.not_false, Bool.and_true, AV.leads, AV.leads.leadsL, Bool.or_false]
theorem aBack_nilint {C : Callee} {site : Nat → Nat} {seen : List Nat} {f : FuncId} {args : List AV} {k' : IntKind} {z' : Int} (h : ∃ H', C f args [] 0 = some (.tup [.nilsl, .int k' z'], H')) : aBack site true seen (thaw C f args [] 0) = .pure (.tup [.nilsl, .int k' z'], []) := by
  obtain ⟨H', h⟩ := h; exact aBack_plain h rfl rfl rfl
end Go.AM
namespace Go.AM.Yteellnlcligpfaa
open Go Go.AM
set_option maxRecDepth 100000
set_option maxHeartbeats 2000000

theorem rworst_run {d : Nat} {l : List Stone} {ex : Bool} (h : OkP l) {k : Nat} (hk : k ≤ l.length) {side : Int} (hsd : side = 1 ∨ side = -1) :
    ∃ id, callA E fg 1000 (d + 2) 50 [.imm (pcells l) l.length ex, .int .i64 k, .int .i64 side] [] 0 = some (.ref id 0 l.length l.length l.length 1 false, [(id, ⟨.row, icells (rworstI l k side l.length)⟩)]) := by
  refine ⟨if rwC l k side 0 = true then 40 else 48, ?_⟩
  change bodyA E (callA E fg 1000 (d + 1)) fg 1000 50 _ _ _ = _
  have hle := h.le
  generalize hid : (if rwC l k side 0 = true then 40 else 48) = id
  have hid2 : id = 40 ∨ id = 48 := by rw [← hid]; split <;> simp
  obtain ⟨e1, e2⟩ := outV_ne (id := id) (l := rworstI l k side l.length) (by rw [rworstI_length]; exact h.ne)
  rw [rworstI_length] at e1
  have hloop := iter_all (f := execA E (callA E fg 1000 (d + 1)) (fg 50) 0 50 [] 1000 c50_9) (hd := headA []) (fun i => ([(8, .int .i64 i), (7, outV id (rworstI l k side i)), (2, .int .i64 side), (1, .int .i64 k), (0, .imm (pcells l) l.length ex)], outH id (rworstI l k side i))) l.length 1000 0
    ([(8, .int .i64 0), (7, .nilsl), (2, .int .i64 side), (1, .int .i64 k), (0, .imm (pcells l) l.length ex)], []) (by rw [headA_nil]; rfl) (by omega) (fun i h1 h2 => by
      have hil : i < l.length := by omega
      rw [rworstI_succ]
      cases i with
      | zero =>
        have := rworst_nil (d := d) (ex := ex) h hk hsd hil
        rw [hid] at this
        exact this
      | succ i =>
        have e : rworstI l k side (i + 1) = rwW l k side 0 :: (List.range i).map (fun j => rwW l k side (j + 1)) := by
          simp only [rworstI, List.range_succ_eq_map, List.map_cons, List.map_map]; rfl
        rw [e]
        exact rworst_cons (d := d) (ex := ex) h hk hsd hil hid2 _ _ (by simp; omega)) (e := .exit 0) (se := ([(12, .bool false), (8, .int .i64 l.length), (7, .ref id 0 l.length l.length l.length 1 false), (2, .int .i64 side), (1, .int .i64 k), (0, .imm (pcells l) l.length ex)], [(id, ⟨.row, icells (rworstI l k side l.length)⟩)])) (by
      rw [Nat.zero_add]
      simp only [seqX_normal, seqX_exit, bindR_some, regX_some, condX_bool, run_nil, run_cons, fget_cons', fput_cons', forget_nil, forget_cons', gcM, stp, just, Rd.bind, Rd.run, Rd.opt, upds, aLen, aBuiltin, aBin, aInt, Nat.reduceBEq, Nat.reduceEqDiff, Nat.reduceLeDiff, ↓reduceIte, reduceCtorEq, List.getElem?_toArray, decide_false, putD_some, List.elem_cons, List.elem_nil, List.getElem?_cons_zero, T_25, x50_11, r50_3_l, s50_3_0, s50_3_1, s50_3_2, s50_3_3, x50_13, x50_14, x50_12, x50_10, x50_9, Int.lt_irrefl, decide_false, Bool.false_eq_true, e1, e2]) (by simp)
  simp only [seqX_normal, bindR_some, regX_some, blockX_exit, bodyX_ret, run_nil, run_cons, fget_cons', fput_nil, fput_cons', forget_nil, forget_cons', frame0, gcM, resA, resL, Nat.reduceAdd, Nat.reduceBEq, Nat.reduceEqDiff, Nat.reduceLeDiff, ↓reduceIte, reduceCtorEq, Nat.zero_add, Option.map_some, List.elem_cons, List.elem_nil, x50_1, r50_0_l, s50_0_0, x50_3, r50_1_l, s50_1_0, x50_6, r50_2_l, s50_2_0, x50_8, x50_7, x50_5, x50_24, r50_8_l, s50_8_0, s50_8_1, x50_25, x50_23, x50_4, x50_2, x50_0, b_50, hloop]
theorem rworst_call {d : Nat} {site : Nat → Nat} {l : List Stone} {ex : Bool} (h : OkP l) {k : Nat} (hk : k ≤ l.length) {side : Int} (hsd : side = 1 ∨ side = -1) :
    aBack site true [] (thaw (callA E fg 1000 (d + 2)) 50 [.imm (pcells l) l.length ex, .int .i64 k, .int .i64 side] [] 0) = (fresh (site 0) ⟨.row, icells (rworstI l k side l.length)⟩).bind fun f => .pure (.ref (site 0) 0 l.length l.length l.length 1 false, f) := by
  obtain ⟨id, e⟩ := rworst_run (d := d) (ex := ex) h hk hsd
  have hl : (icells (rworstI l k side l.length)).length = l.length := by rw [icells_length, rworstI_length]
  have e2 : callA E fg 1000 (d + 2) 50 [.imm (pcells l) l.length ex, .int .i64 k, .int .i64 side] [] 0 = some (.ref id 0 l.length l.length (icells (rworstI l k side l.length)).length 1 false, [(id, ⟨.row, icells (rworstI l k side l.length)⟩)]) := by rw [hl]; exact e
  have := aBack_ref (site := site) e2 (by rw [hget_cons']; simp)
  rw [hl] at this
  exact this

/-- Weights that may be. -/
structure OkW (l : List Stone) (ws : List Int) : Prop where
  len : ws.length = l.length
  ok : ∀ (k : Nat) (w : Int), ws[k]? = some w → 1 ≤ w ∧ w ≤ 9
def rterm (l : List Stone) (ws : List Int) (k : Nat) (side : Int) (i : Nat) : Int := ws.getD i 0 * side * ((l.getD i default).pos - redge l side k)
theorem rterm_bound {l : List Stone} {ws : List Int} (h : OkP l) (hw : OkW l ws) {k : Nat} (hk : k ≤ l.length) {side : Int} (hsd : side = 1 ∨ side = -1) {i : Nat} (hi : i < l.length) : -641728512 ≤ rterm l ws k side i ∧ rterm l ws k side i ≤ 641728512 := by
  obtain ⟨s, hs⟩ := at_ex hi
  obtain ⟨w, hw1⟩ := at_ex (show i < ws.length by rw [hw.len]; exact hi)
  have hg : l.getD i default = s := by simp [hs]
  have hg2 : ws.getD i 0 = w := by simp [hw1]
  obtain ⟨w1, w9⟩ := hw.ok i w hw1
  obtain ⟨_, _, p1, p2, _, _, _⟩ := h.fits i s hs
  obtain ⟨b1, b2⟩ := redge_bound h hsd hk
  have := mul_bound (w := w) (x := side * (s.pos - redge l side k)) (M := 71303168) (by omega) (by omega) (by rw [side_mul hsd]; split <;> omega) (by rw [side_mul hsd]; split <;> omega)
  unfold rterm
  rw [hg, hg2, Int.mul_assoc]
  omega
theorem rmoment_run {d : Nat} {l : List Stone} {ex ex' : Bool} {ws : List Int} (h : OkP l) (hw : OkW l ws) {k : Nat} (hk : k ≤ l.length) {side : Int} (hsd : side = 1 ∨ side = -1) :
    rsOf (callA E fg 1000 (d + 2) 54 [.imm (pcells l) l.length ex, .imm (icells ws) ws.length ex', .int .i64 k, .int .i64 side] [] 0) = some (.int .i64 (sumF (rterm l ws k side) k (l.length - k))) := by
  change rsOf (bodyA E (callA E fg 1000 (d + 1)) fg 1000 54 _ _ _) = _
  have hle := h.le
  have hloop := iter_all (f := execA E (callA E fg 1000 (d + 1)) (fg 54) 0 38 [] 1000 c54_9) (hd := headA []) (fun i => ([(10, .int .i64 i), (9, .int .i64 (sumF (rterm l ws k side) k (i - k))), (3, .int .i64 side), (2, .int .i64 k), (1, .imm (icells ws) ws.length ex'), (0, .imm (pcells l) l.length ex)], [])) (l.length - k) 1000 k
    ([(10, .int .i64 k), (9, .int .i64 0), (3, .int .i64 side), (2, .int .i64 k), (1, .imm (icells ws) ws.length ex'), (0, .imm (pcells l) l.length ex)], []) (by simp [headA_nil, sumF]) (by omega) (fun i h1 h2 => by
      have hil : i < l.length := by omega
      have hiw : i < ws.length := by rw [hw.len]; exact hil
      obtain ⟨s, hs⟩ := at_ex hil
      obtain ⟨w, hw1⟩ := at_ex hiw
      have hg : l.getD i default = s := by simp [hs]
      have hg2 : ws.getD i 0 = w := by simp [hw1]
      obtain ⟨w1, w9⟩ := hw.ok i w hw1
      obtain ⟨_, _, p1, p2, _, _, _⟩ := h.fits i s hs
      obtain ⟨c1, c2⟩ := redge_bound h hsd hk
      obtain ⟨b1, b2⟩ := sumF_bound (F := rterm l ws k side) (M := 1000000000000) (k := k) (n := l.length) (by omega) (fun j _ q => by obtain ⟨r1, r2⟩ := rterm_bound h hw hk hsd q; omega) (i - k) (by omega)
      obtain ⟨b3, b4⟩ := rterm_bound h hw hk hsd hil
      have e : sumF (rterm l ws k side) k (i + 1 - k) = sumF (rterm l ws k side) k (i - k) + rterm l ws k side i := by
        rw [show i + 1 - k = (i - k) + 1 by omega]; simp only [sumF, show k + (i - k) = i by omega]
      have e1 : wrp .i64 (s.pos - redge l side k) = s.pos - redge l side k := wrp64 (by omega)
      have e2 : wrp .i64 (w * side) = w * side := wrp64 (by rw [Int.mul_comm, side_mul hsd]; split <;> omega)
      have e3 : wrp .i64 (w * side * (s.pos - redge l side k)) = rterm l ws k side i := by
        unfold rterm at b3 b4 ⊢; rw [hg, hg2] at b3 b4 ⊢; exact wrp64 (by omega)
      have e4 : wrp .i64 (sumF (rterm l ws k side) k (i - k) + rterm l ws k side i) = sumF (rterm l ws k side) k (i + 1 - k) := by rw [e]; exact wrp64 (by omega)
      have f1 := pcells_field l i s 1 hs (by omega)
      simp only [sc, List.getElem?_cons_succ, List.getElem?_cons_zero] at f1
      simp only [seqX_normal, bindR_some, regX_some, condX_bool, blockX_normal, Bool.not_true, Bool.not_false, run_nil, run_cons, fget_cons', fput_cons', forget_nil, forget_cons', gcM, stp, just, Rd.bind, Rd.run, Rd.opt, upds, tsz, rdCells, fieldOf, aFieldAddr, aLoad, aIndexAddr, aNum, aLen, aBuiltin, aBin, aInt, Nat.reduceAdd, Nat.reduceLT, Nat.reduceBEq, Nat.reduceEqDiff, Nat.reduceLeDiff, ↓reduceIte, reduceCtorEq, Nat.zero_add, List.getElem?_toArray, rtX_some, addT_some, drX_some, runT_nil, runT_cons, neat_eq, descF_nil', descF_cons', ascH_nil', stpT, Rd.foot, writing, touching, Tr.empty, dynPairs, List.isEmpty_nil, List.map_nil, Bool.not_false, Bool.not_true, Bool.or_true, Bool.or_false, Bool.and_self, decide_true, putD_some, and_true, Int.natCast_nonneg, Int.ofNat_lt, Int.toNat_natCast, aCall, snaps, snap, List.append_nil, List.elem_cons, List.elem_nil, List.getElem?_cons_zero, List.getElem?_cons_succ, T_3, T_23, T_25, T_82, x54_11, r54_3_l, s54_3_0, s54_3_1, s54_3_2, s54_3_3, x54_13, x54_14, x54_12, x54_10, x54_17, r54_5_l, r54_5_dr, r54_5_an, s54_5_0, s54_5_1, s54_5_2, s54_5_3, s54_5_4, s54_5_5, s54_5_6, s54_5_7, s54_5_8, s54_5_9, s54_5_10, s54_5_11, s54_5_12, s54_5_13, s54_5_14, s54_5_15, s54_5_16, s54_5_17, s54_5_18, s54_5_19, x54_16, x54_18, r54_4_l, s54_4_0, s54_4_1, s54_4_2, x54_15, x54_9, hil, hiw, pcells_length, icells_length, icells_at hw1, Nat.mul_one, f1, edge_call h hsd hk, e1, e2, e3, e4, wrp_succ (show i < 1000000 by omega)]
      exact ⟨_, rfl, by simp only [headA_nil]⟩) (e := .exit 0) (se := ([(15, .bool false), (10, .int .i64 l.length), (9, .int .i64 (sumF (rterm l ws k side) k (l.length - k))), (3, .int .i64 side), (2, .int .i64 k), (1, .imm (icells ws) ws.length ex'), (0, .imm (pcells l) l.length ex)], [])) (by
      rw [show k + (l.length - k) = l.length by omega]
      simp only [seqX_normal, seqX_exit, bindR_some, regX_some, condX_bool, run_nil, run_cons, fget_cons', fput_cons', forget_nil, forget_cons', gcM, stp, just, Rd.bind, Rd.run, Rd.opt, upds, aLen, aBuiltin, aBin, aInt, Nat.reduceBEq, Nat.reduceEqDiff, Nat.reduceLeDiff, ↓reduceIte, reduceCtorEq, List.getElem?_toArray, decide_false, putD_some, List.elem_cons, List.elem_nil, List.getElem?_cons_zero, T_25, x54_11, r54_3_l, s54_3_0, s54_3_1, s54_3_2, s54_3_3, x54_13, x54_14, x54_12, x54_10, x54_9, Int.lt_irrefl, decide_false, Bool.false_eq_true]) (by simp)
  simp only [seqX_normal, bindR_some, regX_some, blockX_exit, bodyX_ret, run_nil, run_cons, fget_cons', fput_nil, fput_cons', forget_nil, forget_cons', frame0, gcM, resA, resL, Nat.reduceAdd, Nat.reduceBEq, Nat.reduceEqDiff, Nat.reduceLeDiff, ↓reduceIte, reduceCtorEq, Nat.zero_add, Option.map_some, List.elem_cons, List.elem_nil, x54_1, r54_0_l, s54_0_0, x54_3, r54_1_l, s54_1_0, x54_6, r54_2_l, s54_2_0, s54_2_1, x54_8, x54_7, x54_5, x54_20, r54_6_l, s54_6_0, s54_6_1, x54_21, x54_19, x54_4, x54_2, x54_0, b_54, hloop]
theorem rmoment_call {d : Nat} {site : Nat → Nat} {seen : List Nat} {l : List Stone} {ex ex' : Bool} {ws : List Int} (h : OkP l) (hw : OkW l ws) {k : Nat} (hk : k ≤ l.length) {side : Int} (hsd : side = 1 ∨ side = -1) :
    aBack site true seen (thaw (callA E fg 1000 (d + 2)) 54 [.imm (pcells l) l.length ex, .imm (icells ws) ws.length ex', .int .i64 k, .int .i64 side] [] 0) = .pure (.int .i64 (sumF (rterm l ws k side) k (l.length - k)), []) :=
  aBack_int (rs_ex (rmoment_run h hw hk hsd))

def rmom (l : List Stone) (ws : List Int) (k : Nat) (side : Int) : Int := sumF (rterm l ws k side) k (l.length - k)
def rtips (l : List Stone) (ws : List Int) (k : Nat) : Bool := if rmom l ws k 1 > 0 then true else if (k : Int) > 0 then decide (rmom l ws k (-1) > 0) else false
theorem rtips_run {d : Nat} {l : List Stone} {ex ex' : Bool} {ws : List Int} (h : OkP l) (hw : OkW l ws) {k : Nat} (hk : k ≤ l.length) :
    rsOf (callA E fg 1000 (d + 3) 59 [.imm (pcells l) l.length ex, .imm (icells ws) ws.length ex', .int .i64 k] [] 0) = some (.bool (rtips l ws k)) := by
  change rsOf (bodyA E (callA E fg 1000 (d + 2)) fg 1000 59 _ _ _) = _
  have h1 := fun (site : Nat → Nat) seen => rmoment_call (d := d) (site := site) (seen := seen) (ex := ex) (ex' := ex') h hw hk (side := 1) (.inl rfl)
  have h2 := fun (site : Nat → Nat) seen => rmoment_call (d := d) (site := site) (seen := seen) (ex := ex) (ex' := ex') h hw hk (side := -1) (.inr rfl)
  by_cases c1 : sumF (rterm l ws k 1) k (l.length - k) > 0 <;> by_cases c2 : (k : Int) > 0 <;>
    (simp only [seqX_normal, bindR_some, regX_some, ↓gd, fset_cons, Bool.not_true, Bool.not_false, bodyX_ret, run_nil, run_cons, fget_cons', fput_cons', forget_nil, forget_cons', frame0, gcM, stp, opPick, just, Rd.bind, Rd.run, Rd.opt, upds, resA, resL, aBin, aInt, Nat.reduceAdd, Nat.reduceBEq, Nat.reduceEqDiff, Nat.reduceLeDiff, Int.reduceNeg, ↓reduceIte, reduceCtorEq, Nat.zero_add, Bool.not_false, Bool.not_true, decide_true, decide_false, putD_some, aCall, snaps, snap, List.append_nil, Option.map_some, List.elem_cons, List.elem_nil, x59_1, r59_0_l, s59_0_0, x59_3, r59_1_l, s59_1_0, s59_1_1, s59_1_2, s59_1_3, s59_1_4, s59_1_5, s59_1_6, s59_1_7, s59_1_8, s59_1_9, s59_1_10, s59_1_11, s59_1_12, s59_1_13, s59_1_14, s59_1_15, s59_1_16, x59_4, x59_2, x59_0, b_59, h1, h2, rtips, rmom, c1, c2]; try rfl)
theorem rtips_call {d : Nat} {site : Nat → Nat} {seen : List Nat} {l : List Stone} {ex ex' : Bool} {ws : List Int} (h : OkP l) (hw : OkW l ws) {k : Nat} (hk : k ≤ l.length) :
    aBack site true seen (thaw (callA E fg 1000 (d + 3)) 59 [.imm (pcells l) l.length ex, .imm (icells ws) ws.length ex', .int .i64 k] [] 0) = .pure (.bool (rtips l ws k), []) :=
  aBack_bool (rs_ex (rtips_run h hw hk))
end Go.AM.Yteellnlcligpfaa
