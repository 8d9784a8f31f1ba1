/- PropStands: the law answers true, whatever it is handed. Own work of this project. -/
import Derived.Test.YteellnlcligpfaaLawC
namespace Go.AM.Yteellnlcligpfaa
open Go Go.AM
set_option maxRecDepth 100000
set_option maxHeartbeats 4000000

theorem law_great {C : Callee} {l : List Stone} {ws : List Int} {a b : AV} {z side : Int} (ha : IsP a l) (hb : IsI b ws) (hg : 40 < l.length ∨ 40 < ws.length)
    (cw : ∀ (site : Nat → Nat) seen, aBack site true seen (thaw C 6 [] [] 0) = .pure (.bool true, [])) :
    rsOf (bodyA E C fg 1000 3 [a, b, .int .i64 z, .int .i64 side] [] 0) = some (.bool true) := by
  have sa := fun d => isP_snap ha d
  have sb := fun d => isI_snap hb d
  have la := isP_len ha
  have lb := isI_len hb
  by_cases h1 : (l.length : Int) > 40
  · simp only [seqX_normal, seqX_ret, bindR_some, regX_some, condX_bool, ↓gd, fset_cons, Bool.not_false, bodyX_ret, run_nil, run_cons, fget_cons', fput_cons', forget_nil, forget_cons', frame0, gcM, stp, opPick, just, Rd.bind, Rd.run, Rd.opt, upds, resA, resL, aBuiltin, aBin, aInt, Nat.reduceAdd, Nat.reduceBEq, Nat.reduceEqDiff, Nat.reduceLeDiff, ↓reduceIte, reduceCtorEq, Nat.zero_add, List.getElem?_toArray, Bool.not_false, decide_true, putD_some, aCall, snaps, Option.map_some, List.elem_cons, List.elem_nil, List.getElem?_cons_zero, la, x3_1, r3_0_l, s3_0_0, x3_4, r3_1_l, s3_1_0, s3_1_1, s3_1_2, s3_1_3, s3_1_4, s3_1_5, s3_1_6, s3_1_7, x3_7, r3_2_l, s3_2_0, s3_2_1, x3_8, x3_6, x3_9, x3_5, x3_3, x3_2, x3_0, b_3, h1, cw]
  · have h2 : (ws.length : Int) > 40 := by omega
    simp only [seqX_normal, seqX_ret, bindR_some, regX_some, condX_bool, ↓gd, fset_cons, bodyX_ret, run_nil, run_cons, fget_cons', fput_cons', forget_nil, forget_cons', frame0, gcM, stp, opPick, just, Rd.bind, Rd.run, Rd.opt, upds, resA, resL, aBuiltin, aBin, aInt, Nat.reduceAdd, Nat.reduceBEq, Nat.reduceEqDiff, Nat.reduceLeDiff, ↓reduceIte, reduceCtorEq, Nat.zero_add, List.getElem?_toArray, decide_true, decide_false, putD_some, aCall, snaps, Option.map_some, List.elem_cons, List.elem_nil, List.getElem?_cons_zero, la, lb, x3_1, r3_0_l, s3_0_0, x3_4, r3_1_l, s3_1_0, s3_1_1, s3_1_2, s3_1_3, s3_1_4, s3_1_5, s3_1_6, s3_1_7, x3_7, r3_2_l, s3_2_0, s3_2_1, x3_8, x3_6, x3_9, x3_5, x3_3, x3_2, x3_0, b_3, h1, h2, cw]

theorem law_true {l : List Stone} {ws : List Int} {a b : AV} {z side : Int} (hw : ∃ H, callA E fg 1000 40 6 [] [] 0 = some (.bool true, H)) (ha : IsP a l) (hb : IsI b ws) :
    rsOf (bodyA E (callA E fg 1000 40) fg 1000 3 [a, b, .int .i64 z, .int .i64 side] [] 0) = some (.bool true) := by
  have cw := fun (site : Nat → Nat) seen => aBack_bool (site := site) (seen := seen) hw
  by_cases hg : 40 < l.length ∨ 40 < ws.length
  · exact law_great ha hb hg cw
  · have h1 : l.length ≤ 40 := by omega
    have h2 : ws.length ≤ 40 := by omega
    by_cases h0 : l.length = 0
    · obtain rfl := List.length_eq_zero_iff.1 h0
      have hn : IsP .nilsl [] := .inl ⟨rfl, rfl⟩
      have hs : ¬ sidedE [] z side = 0 := fun h => by have := (sided_zero h).1.ne; simp at this
      exact law_nil ha hb h2 (fun site seen => stands_call (d := 34) ha) (fun site seen => rstands_call (d := 34) hn) (fun site seen => tips_call (d := 34) ha) (fun site seen => rtips2_call (d := 34) hn)
        (fun site seen => Moment_call (d := 35) ha hb z side) (fun site seen => rMoment_call (d := 35) hn hb z side) (fun site seen => check_call (d := 38) ha) (fun site seen => rcheck_call (d := 38) hn)
        (fun site seen => proves_call (d := 35) ha hb z) (fun site seen => rproves_call (d := 35) hn hb z) cw (fun site seen => inner_call_nil (d := 39) ha)
        (fun site seen => aBack_nilint (rs_ex (worst_list_err (d := 35) ha hs))) (fun site seen => aBack_nilint (rs_ex (rWorst_err (d := 35) hn hs)))
        (fun site seen => same_call (d := 39) (x := []) (y := []) (by simp) (.inl ⟨rfl, rfl⟩) (.inl ⟨rfl, rfl⟩))
    · have hp : 0 < l.length := by omega
      obtain ⟨ex, rfl⟩ := isP_imm ha hp
      have hr : IsP (.imm (pcells l) l.length false) l := .inr ⟨false, rfl⟩
      by_cases hs : sidedE l z side = 0
      · obtain ⟨_, z0, z1, _⟩ := sided_zero hs
        obtain ⟨k, hk⟩ := Int.eq_ofNat_of_zero_le z0
        replace hk : z = (k : Int) := hk
        subst hk
        have hi : IsI (.imm (icells (worstI l k side l.length)) l.length false) (worstI l k side l.length) := .inr ⟨false, by rw [worstI_length]⟩
        exact law_ok (W := worstI l k side l.length) h1 hb h2 (worstI_length _ _ _ _) (fun site seen => stands_call (d := 34) ha) (fun site seen => rstands_call (d := 34) hr) (fun site seen => tips_call (d := 34) ha) (fun site seen => rtips2_call (d := 34) hr)
          (fun site seen => Moment_call (d := 35) ha hb k side) (fun site seen => rMoment_call (d := 35) hr hb k side) (fun site seen => check_call (d := 38) ha) (fun site seen => rcheck_call (d := 38) hr)
          (fun site seen => proves_call (d := 35) ha hb k) (fun site seen => rproves_call (d := 35) hr hb k) cw (fun site => inner_call (d := 39) (by omega) hp)
          (fun site seen => Worst_call_ok (d := 35) hs) (fun site seen => rWorst_call_ok (d := 35) hs)
          (fun site seen => by have := same_call (d := 39) (site := site) (seen := seen) (by rw [worstI_length]; omega) hi hi; simpa using this)
      · exact law_err h1 hb h2 (fun site seen => stands_call (d := 34) ha) (fun site seen => rstands_call (d := 34) hr) (fun site seen => tips_call (d := 34) ha) (fun site seen => rtips2_call (d := 34) hr)
          (fun site seen => Moment_call (d := 35) ha hb z side) (fun site seen => rMoment_call (d := 35) hr hb z side) (fun site seen => check_call (d := 38) ha) (fun site seen => rcheck_call (d := 38) hr)
          (fun site seen => proves_call (d := 35) ha hb z) (fun site seen => rproves_call (d := 35) hr hb z) cw (fun site => inner_call (d := 39) (by omega) hp)
          (fun site seen => aBack_nilint (rs_ex (worst_list_err (d := 35) ha hs))) (fun site seen => aBack_nilint (rs_ex (rWorst_err (d := 35) hr hs)))
          (fun site seen => same_call (d := 39) (x := []) (y := []) (by simp) (.inl ⟨rfl, rfl⟩) (.inl ⟨rfl, rfl⟩))
end Go.AM.Yteellnlcligpfaa
