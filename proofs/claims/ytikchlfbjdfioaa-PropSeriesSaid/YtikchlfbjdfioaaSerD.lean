/- The law's own fractions; equal lists; sums of parts of 1. Own work of this project. -/
import Derived.Test.YtikchlfbjdfioaaSerC
import Derived.Test.YtikchlfbjdfioaaAmKn
namespace Go.AM.Ytikchlfbjdfioaa
open Go Go.AM
set_option maxRecDepth 100000
set_option maxHeartbeats 4000000

abbrev coS (a b : Nat) : St := ([(1, .int .i64 b), (0, .int .i64 a)], [])
theorem co_go {C : Callee} {a b : Nat} (hb : b ≠ 0) (h2 : b < 9223372036854775808) :
    ∃ s', execA E C (fg 53) 0 20 [] 1000 c53_7 (coS a b) = some (.normal, s') ∧ headA [] s' = coS b (a % b) := by
  have hn : ¬ (b : Int) = 0 := by omega
  have ht : (a : Int).tmod b = ((a % b : Nat) : Int) := by rw [Int.tmod_eq_emod_of_nonneg (by omega)]; omega
  have hlt := Nat.mod_lt a (Nat.pos_of_ne_zero hb)
  have w : wrp .i64 ((a % b : Nat) : Int) = ((a % b : Nat) : Int) := wrp64 (by omega)
  simp only [seqX_normal, bindR_some, regX_some, condX_bool, blockX_normal, Bool.not_true, Bool.not_false, run_nil, run_cons, fget_cons', fput_cons', forget_nil, forget_cons', gcM, stp, just, Rd.bind, Rd.run, Rd.opt, upds, aBin, aInt, Nat.reduceAdd, Nat.reduceBEq, Nat.reduceEqDiff, Nat.reduceLeDiff, ↓reduceIte, reduceCtorEq, Nat.zero_add, bne_iff_ne, ne_eq, rtX_some, addT_some, drX_some, runT_nil, runT_cons, neat_eq, descF_nil', descF_cons', ascH_nil', stpT, Rd.foot, writing, touching, Tr.empty, dynPairs, List.isEmpty_nil, List.map_nil, Bool.not_false, Bool.not_true, Bool.or_true, Bool.or_false, Bool.and_self, decide_true, not_false_eq_true, putD_some, List.elem_cons, List.elem_nil, x53_9, r53_2_l, s53_2_0, s53_2_1, x53_11, x53_12, x53_10, x53_8, x53_14, r53_3_l, r53_3_dr, r53_3_an, s53_3_0, s53_3_1, s53_3_2, s53_3_3, s53_3_4, s53_3_5, x53_13, x53_7, coS, hn, ht]
  exact ⟨_, rfl, by simp only [headA_nil]⟩
abbrev coE (a : Nat) : St := ([(14, .bool false), (1, .int .i64 0), (0, .int .i64 a)], [])
theorem co_stop {C : Callee} {a : Nat} : execA E C (fg 53) 0 20 [] 1000 c53_7 (coS a 0) = some (.exit 0, coE a) := by
  simp only [seqX_normal, seqX_exit, bindR_some, regX_some, condX_bool, run_nil, run_cons, fget_cons', fput_cons', forget_nil, forget_cons', gcM, stp, just, Rd.bind, Rd.run, Rd.opt, upds, aBin, aInt, Nat.reduceBEq, Nat.reduceEqDiff, Nat.reduceLeDiff, ↓reduceIte, reduceCtorEq, putD_some, List.elem_cons, List.elem_nil, x53_9, r53_2_l, s53_2_0, s53_2_1, x53_11, x53_12, x53_10, x53_8, x53_7, coS, coE, Int.natCast_zero, bne_self_eq_false]
theorem co_loop {C : Callee} : ∀ (m a b F : Nat) (s : St), headA [] s = coS a b → b < 2 ^ m → m ≤ 62 → 2 * m < F →
    iterA (execA E C (fg 53) 0 20 [] 1000 c53_7) (headA []) F s = some (.exit 0, coE (Nat.gcd a b)) := by
  intro m
  induction m with
  | zero =>
    intro a b F s hs hb hm hF
    obtain ⟨F, rfl⟩ : ∃ G, F = G + 1 := ⟨F - 1, by omega⟩
    obtain rfl : b = 0 := by omega
    rw [iterA_succ, hs, co_stop, seqX_exit, Nat.gcd_zero_right]
  | succ m ih =>
    intro a b F s hs hb hm hF
    obtain ⟨F, rfl⟩ : ∃ G, F = G + 2 := ⟨F - 2, by omega⟩
    have hpow : 2 ^ (m + 1) ≤ 2 ^ 62 := Nat.pow_le_pow_right (by omega) hm
    have h62 : (2 : Nat) ^ 62 < 9223372036854775808 := by decide
    have hps : 2 ^ (m + 1) = 2 * 2 ^ m := by rw [Nat.pow_succ]; omega
    by_cases h0 : b = 0
    · subst h0
      rw [iterA_succ, hs, co_stop, seqX_exit, Nat.gcd_zero_right]
    · obtain ⟨s1, e1, e2⟩ := co_go (C := C) (a := a) h0 (by omega)
      have hlt := Nat.mod_lt a (Nat.pos_of_ne_zero h0)
      have hg : Nat.gcd a b = Nat.gcd b (a % b) := by rw [Nat.gcd_comm a b, Nat.gcd_rec, Nat.gcd_comm]
      rw [iterA_succ, hs, e1, seqN, iterA_succ, e2, hg]
      by_cases h1 : a % b = 0
      · rw [h1, co_stop, seqX_exit, Nat.gcd_zero_right]
      · obtain ⟨s2, f1, f2⟩ := co_go (C := C) (a := b) h1 (by omega)
        have hlt2 := Nat.mod_lt b (Nat.pos_of_ne_zero h1)
        have hg2 : Nat.gcd b (a % b) = Nat.gcd (a % b) (b % (a % b)) := by rw [Nat.gcd_comm b (a % b), Nat.gcd_rec, Nat.gcd_comm]
        have hdm := Nat.div_add_mod b (a % b)
        have hq : 1 ≤ b / (a % b) := Nat.div_pos (by omega) (by omega)
        have hmul : a % b ≤ (a % b) * (b / (a % b)) := Nat.le_mul_of_pos_right _ hq
        rw [f1, seqN, hg2]
        exact ih (a % b) (b % (a % b)) F s2 f2 (by omega) (by omega) (by omega)
theorem common_run {C : Callee} {num den : Int} (h1 : -4611686018427387903 ≤ num ∧ num ≤ 4611686018427387903) (h2 : -4611686018427387903 ≤ den ∧ den ≤ 4611686018427387903) :
    rsOf (bodyA E C fg 1000 53 [.int .i64 num, .int .i64 den] [] 0) = some (.int .i64 (gcdI num den)) := by
  have h62 : (2 : Nat) ^ 62 = 4611686018427387904 := by decide
  have hl := co_loop (C := C) 62 num.natAbs den.natAbs 1000 (coS num.natAbs den.natAbs) rfl (by omega) (by omega) (by omega)
  have hmax : (if -num > num then -num else num) = (num.natAbs : Int) := by split <;> omega
  have hmax2 : (if -den > den then -den else den) = (den.natAbs : Int) := by split <;> omega
  have w1 : wrp .i64 (0 - num) = -num := by rw [wrp64 (by omega)]; omega
  have w2 : wrp .i64 (0 - den) = -den := by rw [wrp64 (by omega)]; omega
  have hg : Nat.gcd num.natAbs den.natAbs = gcdI num den := rfl
  simp only [hg, coE, coS] at hl
  simp only [seqX_normal, bindR_some, regX_some, blockX_exit, bodyX_ret, run_nil, run_cons, fget_cons', fput_cons', forget_nil, forget_cons', frame0, gcM, stp, justO, Rd.run, upds, resA, resL, aBuiltin, aMax, Nat.reduceBEq, Nat.reduceEqDiff, Nat.reduceLeDiff, ↓reduceIte, reduceCtorEq, Nat.zero_add, aUn, putD_some, Option.map_some, List.elem_cons, List.elem_nil, x53_1, r53_0_l, s53_0_0, x53_3, r53_1_l, s53_1_0, s53_1_1, s53_1_2, s53_1_3, s53_1_4, s53_1_5, s53_1_6, s53_1_7, s53_1_8, s53_1_9, x53_6, x53_5, x53_16, r53_4_l, s53_4_0, s53_4_1, x53_17, x53_15, x53_4, x53_2, x53_0, b_53, w1, w2, hmax, hmax2, hl]
theorem common_call {d : Nat} {site : Nat → Nat} {seen : List Nat} {num den : Int} (h1 : -4611686018427387903 ≤ num ∧ num ≤ 4611686018427387903) (h2 : -4611686018427387903 ≤ den ∧ den ≤ 4611686018427387903) :
    aBack site true seen (thaw (callA E fg 1000 (d + 1)) 53 [.int .i64 num, .int .i64 den] [] 0) = .pure (.int .i64 (gcdI num den), []) :=
  aBack_int (rs_ex (common_run h1 h2))
theorem lfrac_run {C : Callee} {a b : Int} : rsOf (bodyA E C fg 1000 27 [.int .i64 a, .int .i64 b] [] 0) = some (.agg [.int .i64 a, .int .i64 b]) := by
  simp only [seqX_normal, bindR_some, regX_some, bodyX_ret, run_nil, run_cons, fget_cons', fput_cons', forget_nil, forget_cons', hget_nil', hget_cons', hset_nil', hset_cons', frame0, gcM, stp, opBox, justO, Rd.bind, Rd.run, Rd.opt, upds, acells, zeroCells, tsz, rdCells, aLoad, aStore, opStore, resA, resL, fresh, putC, evO, Nat.reduceAdd, Nat.reduceGT, Nat.reduceBEq, Nat.reduceEqDiff, Nat.reduceLeDiff, ↓reduceIte, reduceCtorEq, liveBlk_eq, Nat.zero_add, ne_eq, List.nil_append, not_true_eq_false, or_self, partsOf, fillA, frz, putD_some, putD_none, and_true, snaps, snap, List.append_nil, Option.map_some, List.elem_cons, List.elem_nil, List.length_cons, List.length_nil, List.getElem?_cons_zero, List.getElem?_cons_succ, List.drop_zero, List.take_succ_cons, List.take_nil, List.set_cons_zero, List.set_cons_succ, T_56, x27_1, r27_0_l, s27_0_0, x27_3, r27_1_l, s27_1_0, s27_1_1, s27_1_2, s27_1_3, x27_4, x27_2, x27_0, b_27, aBuild, placeF, fillA]
theorem lfrac_call {d : Nat} {site : Nat → Nat} {seen : List Nat} {a b : Int} :
    aBack site true seen (thaw (callA E fg 1000 (d + 1)) 27 [.int .i64 a, .int .i64 b] [] 0) = .pure (.agg [.int .i64 a, .int .i64 b], []) :=
  aBack_frac (rs_ex (lfrac_run))
theorem rdN_b {num den : Int} (hd : 0 < den) : (rdN num den).natAbs ≤ num.natAbs := by
  obtain ⟨m1, _⟩ := rd_mul num den
  have hg := gcdI_pos (num := num) hd
  have := nat_le_mul (rdN num den) (show (1 : Int) ≤ gcdI num den by omega)
  rwa [m1] at this
theorem ratio_run {d : Nat} {num den : Int} (h1 : -4611686018427387903 ≤ num ∧ num ≤ 4611686018427387903) (h2 : 0 < den ∧ den ≤ 4611686018427387903) :
    rsOf (callA E fg 1000 (d + 2) 28 [.int .i64 num, .int .i64 den] [] 0) = some (.agg (frc (rd num den))) := by
  change rsOf (bodyA E (callA E fg 1000 (d + 1)) fg 1000 28 _ _ _) = _
  have hc := fun (site : Nat → Nat) seen => common_call (d := d) (site := site) (seen := seen) h1 ⟨by omega, h2.2⟩
  have gp := gcdI_pos (num := num) h2.1
  have hz : ¬ (gcdI num den : Int) = 0 := by omega
  have t1 : num.tdiv (gcdI num den : Int) = rdN num den := Int.tdiv_eq_ediv_of_dvd (gcdI_dvd1 ..)
  have t2 : den.tdiv (gcdI num den : Int) = rdD num den := Int.tdiv_eq_ediv_of_dvd (gcdI_dvd2 ..)
  have b1 := rdN_b (num := num) h2.1
  obtain ⟨b2, b3⟩ := rd_den (num := num) h2.1
  simp only [rd] at b2 b3
  have x1 : wrp .i64 (rdN num den) = rdN num den := wrp64 (by omega)
  have x2 : wrp .i64 (rdD num den) = rdD num den := wrp64 (by omega)
  have hf := fun (site : Nat → Nat) seen => lfrac_call (d := d) (site := site) (seen := seen) (a := rdN num den) (b := rdD num den)
  simp only [seqX_normal, bindR_some, regX_some, Bool.not_true, Bool.not_false, bodyX_ret, run_nil, run_cons, fget_cons', fput_cons', forget_nil, forget_cons', hget_nil', hget_cons', hset_nil', hset_cons', frame0, gcM, stp, opBox, just, Rd.bind, Rd.run, Rd.opt, upds, acells, zeroCells, tsz, rdCells, aLoad, aStore, opStore, resA, resL, fresh, aBin, aInt, putC, Nat.reduceAdd, Nat.reduceBEq, Nat.reduceEqDiff, Nat.reduceLeDiff, ↓reduceIte, reduceCtorEq, liveBlk_eq, Nat.zero_add, List.nil_append, rtX_some, addT_some, drX_some, runT_nil, runT_cons, neat_eq, descF_nil', descF_cons', ascH_nil', ascH_cons', stpT, Rd.foot, writing, touching, Tr.empty, dynPairs, apartT, disj, List.isEmpty_nil, List.isEmpty_cons, List.map_nil, List.map_cons, Bool.not_false, Bool.not_true, Bool.true_or, Bool.or_true, Bool.or_false, Bool.true_and, Bool.and_self, decide_true, frz, putD_some, putD_none, and_true, aCall, snaps, snap, List.append_nil, Option.map_some, List.elem_cons, List.elem_nil, List.length_cons, List.length_nil, List.drop_zero, List.take_succ_cons, List.take_nil, List.set_cons_zero, List.set_cons_succ, T_56, x28_1, r28_0_l, s28_0_0, x28_3, r28_1_l, s28_1_0, s28_1_1, s28_1_2, s28_1_3, x28_5, r28_2_l, r28_2_dr, r28_2_an, s28_2_0, s28_2_1, s28_2_2, s28_2_3, s28_2_4, s28_2_5, s28_2_6, s28_2_7, x28_6, x28_4, x28_2, x28_0, b_28, hc, hf, hz, t1, t2, x1, x2, frc, rd, List.all_nil]
theorem ratio_call {d : Nat} {site : Nat → Nat} {seen : List Nat} {num den : Int} (h1 : -4611686018427387903 ≤ num ∧ num ≤ 4611686018427387903) (h2 : 0 < den ∧ den ≤ 4611686018427387903) :
    aBack site true seen (thaw (callA E fg 1000 (d + 2)) 28 [.int .i64 num, .int .i64 den] [] 0) = .pure (.agg (frc (rd num den)), []) :=
  aBack_frac (rs_ex (ratio_run h1 h2))

/-! Equal lists -/
theorem mul_known : givesA (.tup [.int .u64 0, .int .u64 1]) (callA E fg 1000 39 58 [.int .u64 1, .int .u64 1] [] 0) = true ∧
    givesA (.tup [.int .u64 0, .int .u64 2]) (callA E fg 1000 39 58 [.int .u64 1, .int .u64 2] [] 0) = true ∧
    givesA (.tup [.int .u64 0, .int .u64 3]) (callA E fg 1000 39 58 [.int .u64 1, .int .u64 3] [] 0) = true ∧
    givesA (.tup [.int .u64 0, .int .u64 4]) (callA E fg 1000 39 58 [.int .u64 1, .int .u64 4] [] 0) = true ∧
    givesA (.tup [.int .u64 0, .int .u64 5]) (callA E fg 1000 39 58 [.int .u64 1, .int .u64 5] [] 0) = true :=
  ⟨by kernel_rfl, by kernel_rfl, by kernel_rfl, by kernel_rfl, by kernel_rfl⟩
theorem list_run {C : Callee} {x : Int} {ex : Bool} : bodyA E C fg 1000 31 [.imm [.int .i64 x] 1 ex] [] 0 = some (.imm [.int .i64 x] 1 ex, []) := by
  simp only [seqX_normal, bindR_some, regX_some, bodyX_ret, run_nil, run_cons, fget_cons', fput_cons', forget_nil, forget_cons', frame0, gcM, resA, resL, Nat.reduceBEq, Nat.reduceEqDiff, Nat.reduceLeDiff, ↓reduceIte, reduceCtorEq, Option.map_some, List.elem_cons, List.elem_nil, x31_1, r31_0_l, s31_0_0, x31_3, r31_1_l, s31_1_0, s31_1_1, x31_4, x31_2, x31_0, b_31]
theorem aBack_lead {C : Callee} {site : Nat → Nat} {seen : List Nat} {f : FuncId} {args : List AV} {r : AV} {H' : AHeap} (h : C f args [] 0 = some (r, H')) (ht : frzRet H' r = some (r, H')) (hi : ∀ site, imp H' site 200 r [] [] = some (r, [], [])) (hl : r.leads = true) :
    aBack site true seen (thaw C f args [] 0) = (frz seen).bind fun us => .pure (r, us) := by
  simp only [thaw, h, ht, aBack, sitesB, freeOff, allFree, aBackAt, hi, List.map_nil, AM.apart, if_true, freeAll, Rd.bind, hl, List.append_nil]
theorem list_call {d : Nat} {site : Nat → Nat} {seen : List Nat} {x : Int} {ex : Bool} :
    aBack site true seen (thaw (callA E fg 1000 (d + 1)) 31 [.imm [.int .i64 x] 1 ex] [] 0) = (frz seen).bind fun us => .pure (.imm [.int .i64 x] 1 ex, us) :=
  aBack_lead (H' := []) (list_run (C := callA E fg 1000 d)) rfl (fun _ => rfl) rfl
theorem wu1 : wrp .u64 1 = 1 := by decide
theorem wu2 : wrp .u64 2 = 2 := by decide
theorem wu3 : wrp .u64 3 = 3 := by decide
theorem wu4 : wrp .u64 4 = 4 := by decide
theorem wu5 : wrp .u64 5 = 5 := by decide
theorem wi1 : wrp .i64 1 = 1 := by decide
theorem wi2 : wrp .i64 2 = 2 := by decide
theorem wi3 : wrp .i64 3 = 3 := by decide
theorem wi4 : wrp .i64 4 = 4 := by decide
theorem wi5 : wrp .i64 5 = 5 := by decide
theorem ul : ¬ (1 : Int) > 9223372036854775807 ∧ ¬ (2 : Int) > 9223372036854775807 ∧ ¬ (3 : Int) > 9223372036854775807 ∧ ¬ (4 : Int) > 9223372036854775807 ∧ ¬ (5 : Int) > 9223372036854775807 := by decide
theorem repC_one (a : AV) : ∀ n, repC [a] n = List.replicate n a
  | 0 => rfl
  | n + 1 => by rw [List.replicate_succ, ← repC_one a n]; rfl
theorem make36 {s n : Nat} (h : n ≤ 1000) : aMake E.T s 36 (.int .i64 n) (.int .i64 n) = (fresh s ⟨.row, List.replicate n (.int .i64 0)⟩).bind fun f => .pure (.ref s 0 n n n 1 false, f) := by
  have h1 : (n : Int) ≤ kHi .i64 := by simp only [kHi]; omega
  have h2 : (8 : Int) * n ≤ 281474976710656 := by omega
  simp [aMake, elemT, T_36, T_3, zeroCells, aNum, AV.flat, repC_one, h1, h2]
theorem hd30 {k : IntKind} {z : Int} {n g : Nat} {c : List AV} : headA [] ([(8, .int k z), (7, .ref 30 0 n n g 1 false)], [(30, ⟨.row, c⟩)]) = ([(8, .int k z), (7, .ref 30 0 n n g 1 false)], [(30, ⟨.row, c⟩)]) := rfl
theorem mn : min 1 1 = 1 ∧ min 1 2 = 1 ∧ min 1 3 = 1 ∧ min 1 4 = 1 ∧ min 1 5 = 1 ∧ min 2 1 = 1 ∧ min 2 2 = 2 ∧ min 2 3 = 2 ∧ min 4 1 = 1 := by decide
theorem lt0 : ¬ (0 : Int) > 0 := by decide
theorem repeat_run1 {C : Callee} {x : Int} {ex : Bool}
    (cm : ∀ (site : Nat → Nat) seen, aBack site true seen (thaw C 58 [.int .u64 1, .int .u64 1] [] 0) = .pure (.tup [.int .u64 0, .int .u64 1], [])) :
    bodyA E C fg 1000 30 [.imm [.int .i64 x] 1 ex, .int .i64 1] [] 0 = some (.ref 30 0 1 1 1 1 false, [(30, ⟨.row, icells (List.replicate 1 x)⟩)]) := by
  have mk := fun s => make36 (s := s) (n := 1) (by omega)
  simp only [cl1, List.replicate] at mk
  simp only [seqX_normal, seqX_exit, bindR_some, regX_some, condX_bool, blockX_exit, ↓gd, fset_cons, bodyX_ret, run_nil, run_cons, fget_cons', fput_nil, fput_cons', forget_nil, forget_cons', hget_nil', hget_cons', hset_nil', hset_cons', frame0, gcM, stp, opPick, justO, just, Rd.bind, Rd.run, Rd.opt, upds, tsz, elemT, opExtract, resA, resL, fresh, aLen, aBuiltin, aBin, aInt, putC, Nat.reduceBEq, Nat.reduceEqDiff, Nat.reduceLeDiff, ↓reduceIte, reduceCtorEq, liveBlk_eq, Nat.zero_add, List.getElem?_toArray, List.map_nil, List.map_cons, decide_false, srcOf, putD_some, aCall, snaps, snap, List.append_nil, Option.map_some, List.elem_cons, List.elem_nil, List.length_cons, List.length_nil, List.getElem?_cons_zero, List.getElem?_cons_succ, List.take_succ_cons, List.take_nil, List.set_cons_zero, T_3, T_36, T_92, x30_1, r30_0_l, s30_0_0, x30_4, r30_1_l, s30_1_0, s30_1_1, x30_7, x30_5, x30_3, x30_9, r30_3_l, s30_3_0, s30_3_1, s30_3_2, s30_3_3, s30_3_4, s30_3_5, s30_3_6, s30_3_7, s30_3_8, s30_3_9, s30_3_10, x30_12, r30_4_l, s30_4_0, s30_4_1, s30_4_2, s30_4_3, s30_4_4, s30_4_5, x30_15, x30_13, x30_11, x30_17, r30_6_l, s30_6_0, s30_6_1, s30_6_2, s30_6_3, x30_19, r30_7_l, s30_7_0, s30_7_1, s30_7_2, s30_7_3, x30_25, r30_8_l, s30_8_0, s30_8_1, s30_8_2, s30_8_3, x30_27, x30_28, x30_26, x30_24, x30_23, x30_22, x30_21, x30_32, r30_10_l, s30_10_0, s30_10_1, x30_33, x30_31, x30_20, x30_18, x30_16, x30_10, x30_8, x30_2, x30_0, b_30, iterA_succ, hd30, cm, mk, aConv, aCopy, putC, icells, List.replicate, List.map_cons, List.map_nil, cl1, wu1, wi1, ul, mn, lt0, Int.reduceLT, Nat.mul_one, Nat.le_refl, beq_self_eq_true]
theorem repeat_run2 {C : Callee} {x : Int} {ex : Bool}
    (cm : ∀ (site : Nat → Nat) seen, aBack site true seen (thaw C 58 [.int .u64 1, .int .u64 2] [] 0) = .pure (.tup [.int .u64 0, .int .u64 2], [])) :
    bodyA E C fg 1000 30 [.imm [.int .i64 x] 1 ex, .int .i64 2] [] 0 = some (.ref 30 0 2 2 2 1 false, [(30, ⟨.row, icells (List.replicate 2 x)⟩)]) := by
  have mk := fun s => make36 (s := s) (n := 2) (by omega)
  simp only [cl2, List.replicate] at mk
  simp only [seqX_normal, seqX_exit, bindR_some, regX_some, condX_bool, blockX_exit, blockX_normal, ↓gd, fset_cons, Bool.not_true, Bool.not_false, bodyX_ret, run_nil, run_cons, fget_cons', fput_nil, fput_cons', forget_nil, forget_cons', hget_nil', hget_cons', hset_nil', hset_cons', frame0, gcM, stp, opPick, justO, just, Rd.bind, Rd.run, Rd.opt, upds, tsz, elemT, opExtract, resA, resL, fresh, aNum, aLen, aBuiltin, aBin, aInt, putC, Nat.reduceAdd, Nat.reduceSub, Nat.reduceBEq, Nat.reduceEqDiff, Nat.reduceLeDiff, ↓reduceIte, reduceCtorEq, liveBlk_eq, Nat.zero_add, Nat.add_zero, List.getElem?_toArray, rtX_some, addT_some, drX_some, runT_nil, runT_cons, neat_eq, descF_nil', descF_cons', ascH_nil', ascH_cons', stpT, Rd.foot, writing, touching, Tr.empty, dynPairs, apartT, disj, List.isEmpty_nil, List.isEmpty_cons, List.map_nil, List.map_cons, Bool.not_false, Bool.not_true, Bool.true_or, Bool.or_true, Bool.or_false, Bool.and_true, Bool.true_and, Bool.and_self, decide_true, decide_false, srcOf, window, putD_some, and_true, aCall, snaps, snap, List.append_nil, Option.map_some, List.elem_cons, List.elem_nil, List.length_cons, List.length_nil, List.getElem?_cons_zero, List.getElem?_cons_succ, List.drop_zero, List.take_succ_cons, List.take_zero, List.take_nil, List.set_cons_zero, List.set_cons_succ, T_3, T_36, T_92, x30_1, r30_0_l, s30_0_0, x30_4, r30_1_l, s30_1_0, s30_1_1, x30_7, x30_5, x30_3, x30_9, r30_3_l, s30_3_0, s30_3_1, s30_3_2, s30_3_3, s30_3_4, s30_3_5, s30_3_6, s30_3_7, s30_3_8, s30_3_9, s30_3_10, x30_12, r30_4_l, s30_4_0, s30_4_1, s30_4_2, s30_4_3, s30_4_4, s30_4_5, x30_15, x30_13, x30_11, x30_17, r30_6_l, s30_6_0, s30_6_1, s30_6_2, s30_6_3, x30_19, r30_7_l, s30_7_0, s30_7_1, s30_7_2, s30_7_3, x30_25, r30_8_l, s30_8_0, s30_8_1, s30_8_2, s30_8_3, x30_27, x30_28, x30_26, x30_24, x30_30, r30_9_l, r30_9_dr, r30_9_an, s30_9_0, s30_9_1, s30_9_2, s30_9_3, s30_9_4, s30_9_5, s30_9_6, s30_9_7, s30_9_8, s30_9_9, x30_29, x30_23, x30_22, x30_21, x30_32, r30_10_l, s30_10_0, s30_10_1, x30_33, x30_31, x30_20, x30_18, x30_16, x30_10, x30_8, x30_2, x30_0, b_30, iterA_succ, hd30, cm, mk, aConv, aCopy, aSlice, aBounds, bMax, bHigh, bLow, putC, icells, List.replicate, List.map_cons, List.map_nil, cl1, cl2, wu1, wu2, wi2, ul, mn, lt0, Int.reduceLT, Int.reduceLE, Int.reduceAdd, Int.reduceToNat, Nat.mul_one, Nat.sub_zero, Nat.le_refl, List.all_cons, List.all_nil, List.getD_cons_zero, List.getD_cons_succ, beq_self_eq_true]
theorem repeat_run3 {C : Callee} {x : Int} {ex : Bool}
    (cm : ∀ (site : Nat → Nat) seen, aBack site true seen (thaw C 58 [.int .u64 1, .int .u64 3] [] 0) = .pure (.tup [.int .u64 0, .int .u64 3], [])) :
    bodyA E C fg 1000 30 [.imm [.int .i64 x] 1 ex, .int .i64 3] [] 0 = some (.ref 30 0 3 3 3 1 false, [(30, ⟨.row, icells (List.replicate 3 x)⟩)]) := by
  have mk := fun s => make36 (s := s) (n := 3) (by omega)
  simp only [cl3, List.replicate] at mk
  simp only [seqX_normal, seqX_exit, bindR_some, regX_some, condX_bool, blockX_exit, blockX_normal, ↓gd, fset_cons, Bool.not_true, Bool.not_false, bodyX_ret, run_nil, run_cons, fget_cons', fput_nil, fput_cons', forget_nil, forget_cons', hget_nil', hget_cons', hset_nil', hset_cons', frame0, gcM, stp, opPick, justO, just, Rd.bind, Rd.run, Rd.opt, upds, tsz, elemT, opExtract, resA, resL, fresh, aNum, aLen, aBuiltin, aBin, aInt, putC, Nat.reduceAdd, Nat.reduceSub, Nat.reduceBEq, Nat.reduceEqDiff, Nat.reduceLeDiff, ↓reduceIte, reduceCtorEq, liveBlk_eq, Nat.zero_add, Nat.add_zero, List.getElem?_toArray, rtX_some, addT_some, drX_some, runT_nil, runT_cons, neat_eq, descF_nil', descF_cons', ascH_nil', ascH_cons', stpT, Rd.foot, writing, touching, Tr.empty, dynPairs, apartT, disj, List.isEmpty_nil, List.isEmpty_cons, List.map_nil, List.map_cons, Bool.not_false, Bool.not_true, Bool.true_or, Bool.or_true, Bool.or_false, Bool.and_true, Bool.true_and, Bool.and_self, decide_true, decide_false, srcOf, window, putD_some, and_true, aCall, snaps, snap, List.append_nil, Option.map_some, List.elem_cons, List.elem_nil, List.length_cons, List.length_nil, List.getElem?_cons_zero, List.getElem?_cons_succ, List.drop_zero, List.take_succ_cons, List.take_zero, List.take_nil, List.set_cons_zero, List.set_cons_succ, T_3, T_36, T_92, x30_1, r30_0_l, s30_0_0, x30_4, r30_1_l, s30_1_0, s30_1_1, x30_7, x30_5, x30_3, x30_9, r30_3_l, s30_3_0, s30_3_1, s30_3_2, s30_3_3, s30_3_4, s30_3_5, s30_3_6, s30_3_7, s30_3_8, s30_3_9, s30_3_10, x30_12, r30_4_l, s30_4_0, s30_4_1, s30_4_2, s30_4_3, s30_4_4, s30_4_5, x30_15, x30_13, x30_11, x30_17, r30_6_l, s30_6_0, s30_6_1, s30_6_2, s30_6_3, x30_19, r30_7_l, s30_7_0, s30_7_1, s30_7_2, s30_7_3, x30_25, r30_8_l, s30_8_0, s30_8_1, s30_8_2, s30_8_3, x30_27, x30_28, x30_26, x30_24, x30_30, r30_9_l, r30_9_dr, r30_9_an, s30_9_0, s30_9_1, s30_9_2, s30_9_3, s30_9_4, s30_9_5, s30_9_6, s30_9_7, s30_9_8, s30_9_9, x30_29, x30_23, x30_22, x30_21, x30_32, r30_10_l, s30_10_0, s30_10_1, x30_33, x30_31, x30_20, x30_18, x30_16, x30_10, x30_8, x30_2, x30_0, b_30, iterA_succ, hd30, cm, mk, aConv, aCopy, aSlice, aBounds, bMax, bHigh, bLow, putC, icells, List.replicate, List.map_cons, List.map_nil, cl1, cl3, wu1, wu3, wi2, wi3, ul, mn, lt0, Int.reduceLT, Int.reduceLE, Int.reduceAdd, Int.reduceToNat, Nat.mul_one, Nat.sub_zero, Nat.le_refl, List.all_cons, List.all_nil, List.getD_cons_zero, List.getD_cons_succ, beq_self_eq_true]
theorem repeat_run4 {C : Callee} {x : Int} {ex : Bool}
    (cm : ∀ (site : Nat → Nat) seen, aBack site true seen (thaw C 58 [.int .u64 1, .int .u64 4] [] 0) = .pure (.tup [.int .u64 0, .int .u64 4], [])) :
    bodyA E C fg 1000 30 [.imm [.int .i64 x] 1 ex, .int .i64 4] [] 0 = some (.ref 30 0 4 4 4 1 false, [(30, ⟨.row, icells (List.replicate 4 x)⟩)]) := by
  have mk := fun s => make36 (s := s) (n := 4) (by omega)
  simp only [cl4, List.replicate] at mk
  simp only [seqX_normal, seqX_exit, bindR_some, regX_some, condX_bool, blockX_exit, blockX_normal, ↓gd, fset_cons, Bool.not_true, Bool.not_false, bodyX_ret, run_nil, run_cons, fget_cons', fput_nil, fput_cons', forget_nil, forget_cons', hget_nil', hget_cons', hset_nil', hset_cons', frame0, gcM, stp, opPick, justO, just, Rd.bind, Rd.run, Rd.opt, upds, tsz, elemT, opExtract, resA, resL, fresh, aNum, aLen, aBuiltin, aBin, aInt, putC, Nat.reduceAdd, Nat.reduceSub, Nat.reduceBEq, Nat.reduceEqDiff, Nat.reduceLeDiff, ↓reduceIte, reduceCtorEq, liveBlk_eq, Nat.zero_add, Nat.add_zero, List.getElem?_toArray, rtX_some, addT_some, drX_some, runT_nil, runT_cons, neat_eq, descF_nil', descF_cons', ascH_nil', ascH_cons', stpT, Rd.foot, writing, touching, Tr.empty, dynPairs, apartT, disj, List.isEmpty_nil, List.isEmpty_cons, List.map_nil, List.map_cons, Bool.not_false, Bool.not_true, Bool.true_or, Bool.or_true, Bool.or_false, Bool.and_true, Bool.true_and, Bool.and_self, decide_true, decide_false, srcOf, window, putD_some, and_true, aCall, snaps, snap, List.append_nil, Option.map_some, List.elem_cons, List.elem_nil, List.length_cons, List.length_nil, List.getElem?_cons_zero, List.getElem?_cons_succ, List.drop_zero, List.take_succ_cons, List.take_zero, List.take_nil, List.set_cons_zero, List.set_cons_succ, T_3, T_36, T_92, x30_1, r30_0_l, s30_0_0, x30_4, r30_1_l, s30_1_0, s30_1_1, x30_7, x30_5, x30_3, x30_9, r30_3_l, s30_3_0, s30_3_1, s30_3_2, s30_3_3, s30_3_4, s30_3_5, s30_3_6, s30_3_7, s30_3_8, s30_3_9, s30_3_10, x30_12, r30_4_l, s30_4_0, s30_4_1, s30_4_2, s30_4_3, s30_4_4, s30_4_5, x30_15, x30_13, x30_11, x30_17, r30_6_l, s30_6_0, s30_6_1, s30_6_2, s30_6_3, x30_19, r30_7_l, s30_7_0, s30_7_1, s30_7_2, s30_7_3, x30_25, r30_8_l, s30_8_0, s30_8_1, s30_8_2, s30_8_3, x30_27, x30_28, x30_26, x30_24, x30_30, r30_9_l, r30_9_dr, r30_9_an, s30_9_0, s30_9_1, s30_9_2, s30_9_3, s30_9_4, s30_9_5, s30_9_6, s30_9_7, s30_9_8, s30_9_9, x30_29, x30_23, x30_22, x30_21, x30_32, r30_10_l, s30_10_0, s30_10_1, x30_33, x30_31, x30_20, x30_18, x30_16, x30_10, x30_8, x30_2, x30_0, b_30, iterA_succ, hd30, cm, mk, aConv, aCopy, aSlice, aBounds, bMax, bHigh, bLow, putC, icells, List.replicate, List.map_cons, List.map_nil, cl1, cl2, cl4, wu1, wu4, wi2, wi4, ul, mn, lt0, Int.reduceLT, Int.reduceLE, Int.reduceAdd, Int.reduceToNat, Nat.mul_one, Nat.sub_zero, Nat.le_refl, List.all_cons, List.all_nil, List.getD_cons_zero, List.getD_cons_succ, beq_self_eq_true]
theorem repeat_run5 {C : Callee} {x : Int} {ex : Bool}
    (cm : ∀ (site : Nat → Nat) seen, aBack site true seen (thaw C 58 [.int .u64 1, .int .u64 5] [] 0) = .pure (.tup [.int .u64 0, .int .u64 5], [])) :
    bodyA E C fg 1000 30 [.imm [.int .i64 x] 1 ex, .int .i64 5] [] 0 = some (.ref 30 0 5 5 5 1 false, [(30, ⟨.row, icells (List.replicate 5 x)⟩)]) := by
  have mk := fun s => make36 (s := s) (n := 5) (by omega)
  simp only [cl5, List.replicate] at mk
  simp only [seqX_normal, seqX_exit, bindR_some, regX_some, condX_bool, blockX_exit, blockX_normal, ↓gd, fset_cons, Bool.not_true, Bool.not_false, bodyX_ret, run_nil, run_cons, fget_cons', fput_nil, fput_cons', forget_nil, forget_cons', hget_nil', hget_cons', hset_nil', hset_cons', frame0, gcM, stp, opPick, justO, just, Rd.bind, Rd.run, Rd.opt, upds, tsz, elemT, opExtract, resA, resL, fresh, aNum, aLen, aBuiltin, aBin, aInt, putC, Nat.reduceAdd, Nat.reduceSub, Nat.reduceBEq, Nat.reduceEqDiff, Nat.reduceLeDiff, ↓reduceIte, reduceCtorEq, liveBlk_eq, Nat.zero_add, Nat.add_zero, List.getElem?_toArray, rtX_some, addT_some, drX_some, runT_nil, runT_cons, neat_eq, descF_nil', descF_cons', ascH_nil', ascH_cons', stpT, Rd.foot, writing, touching, Tr.empty, dynPairs, apartT, disj, List.isEmpty_nil, List.isEmpty_cons, List.map_nil, List.map_cons, Bool.not_false, Bool.not_true, Bool.true_or, Bool.or_true, Bool.or_false, Bool.and_true, Bool.true_and, Bool.and_self, decide_true, decide_false, srcOf, window, putD_some, and_true, aCall, snaps, snap, List.append_nil, Option.map_some, List.elem_cons, List.elem_nil, List.length_cons, List.length_nil, List.getElem?_cons_zero, List.getElem?_cons_succ, List.drop_zero, List.take_succ_cons, List.take_zero, List.take_nil, List.set_cons_zero, List.set_cons_succ, T_3, T_36, T_92, x30_1, r30_0_l, s30_0_0, x30_4, r30_1_l, s30_1_0, s30_1_1, x30_7, x30_5, x30_3, x30_9, r30_3_l, s30_3_0, s30_3_1, s30_3_2, s30_3_3, s30_3_4, s30_3_5, s30_3_6, s30_3_7, s30_3_8, s30_3_9, s30_3_10, x30_12, r30_4_l, s30_4_0, s30_4_1, s30_4_2, s30_4_3, s30_4_4, s30_4_5, x30_15, x30_13, x30_11, x30_17, r30_6_l, s30_6_0, s30_6_1, s30_6_2, s30_6_3, x30_19, r30_7_l, s30_7_0, s30_7_1, s30_7_2, s30_7_3, x30_25, r30_8_l, s30_8_0, s30_8_1, s30_8_2, s30_8_3, x30_27, x30_28, x30_26, x30_24, x30_30, r30_9_l, r30_9_dr, r30_9_an, s30_9_0, s30_9_1, s30_9_2, s30_9_3, s30_9_4, s30_9_5, s30_9_6, s30_9_7, s30_9_8, s30_9_9, x30_29, x30_23, x30_22, x30_21, x30_32, r30_10_l, s30_10_0, s30_10_1, x30_33, x30_31, x30_20, x30_18, x30_16, x30_10, x30_8, x30_2, x30_0, b_30, iterA_succ, hd30, cm, mk, aConv, aCopy, aSlice, aBounds, bMax, bHigh, bLow, putC, icells, List.replicate, List.map_cons, List.map_nil, cl1, cl2, cl5, wu1, wu5, wi2, wi4, wi5, ul, mn, lt0, Int.reduceLT, Int.reduceLE, Int.reduceAdd, Int.reduceToNat, Nat.mul_one, Nat.sub_zero, Nat.le_refl, List.all_cons, List.all_nil, List.getD_cons_zero, List.getD_cons_succ, beq_self_eq_true]
end Go.AM.Ytikchlfbjdfioaa
