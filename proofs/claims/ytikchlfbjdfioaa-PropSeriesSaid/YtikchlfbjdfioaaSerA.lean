/- Fractions in lowest terms: the loop of remainders, and sums. Own work of this project. -/
import Derived.Test.YtikchlfbjdfioaaSyG
import Derived.Test.YtikchlfbjdfioaaBas
namespace Go.AM.Ytikchlfbjdfioaa
open Go Go.AM
set_option maxRecDepth 100000
set_option maxHeartbeats 4000000

abbrev euS (a b : Nat) (num den : Int) : St := ([(6, .int .i64 b), (5, .int .i64 a), (4, .ptr 4 0 2), (1, .int .i64 den), (0, .int .i64 num)], [(4, ⟨.box, [.int .i64 0, .int .i64 0]⟩)])
theorem eu_go {C : Callee} {a b : Nat} {num den : Int} (hb : b ≠ 0) (h2 : b < 9223372036854775808) :
    ∃ s', execA E C (fg 67) 0 25 [] 1000 c67_7 (euS a b num den) = some (.normal, s') ∧ headA [] s' = euS b (a % b) num den := by
  have hn : ¬ (b : Int) = 0 := by omega
  have ht : (a : Int).tmod b = ((a % b : Nat) : Int) := by rw [Int.tmod_eq_emod_of_nonneg (by omega)]; omega
  have hlt := Nat.mod_lt a (Nat.pos_of_ne_zero hb)
  have w : wrp .i64 ((a % b : Nat) : Int) = ((a % b : Nat) : Int) := wrp64 (by omega)
  simp only [seqX_normal, bindR_some, regX_some, condX_bool, blockX_normal, Bool.not_true, Bool.not_false, run_nil, run_cons, fget_cons', fput_cons', forget_nil, forget_cons', gcM, stp, just, Rd.bind, Rd.run, Rd.opt, upds, aBin, aInt, Nat.reduceAdd, Nat.reduceBEq, Nat.reduceEqDiff, Nat.reduceLeDiff, ↓reduceIte, reduceCtorEq, Nat.zero_add, bne_iff_ne, ne_eq, rtX_some, addT_some, drX_some, runT_nil, runT_cons, neat_eq, descF_nil', descF_cons', ascH_nil', ascH_cons', stpT, Rd.foot, writing, touching, Tr.empty, dynPairs, List.isEmpty_nil, List.map_nil, Bool.not_false, Bool.not_true, Bool.or_true, Bool.or_false, Bool.and_self, decide_true, not_false_eq_true, putD_some, List.elem_cons, List.elem_nil, x67_9, r67_2_l, s67_2_0, s67_2_1, x67_11, x67_12, x67_10, x67_8, x67_14, r67_3_l, r67_3_dr, r67_3_an, s67_3_0, s67_3_1, s67_3_2, s67_3_3, s67_3_4, s67_3_5, x67_13, x67_7, euS, hn, ht]
  exact ⟨_, rfl, rfl⟩
abbrev euE (a : Nat) (num den : Int) : St := ([(13, .bool false), (6, .int .i64 0), (5, .int .i64 a), (4, .ptr 4 0 2), (1, .int .i64 den), (0, .int .i64 num)], [(4, ⟨.box, [.int .i64 0, .int .i64 0]⟩)])
theorem eu_stop {C : Callee} {a : Nat} {num den : Int} :
    execA E C (fg 67) 0 25 [] 1000 c67_7 (euS a 0 num den) = some (.exit 0, euE a num den) := by
  simp only [seqX_normal, seqX_exit, bindR_some, regX_some, condX_bool, run_nil, run_cons, fget_cons', fput_cons', forget_nil, forget_cons', gcM, stp, just, Rd.bind, Rd.run, Rd.opt, upds, aBin, aInt, Nat.reduceBEq, Nat.reduceEqDiff, Nat.reduceLeDiff, ↓reduceIte, reduceCtorEq, putD_some, List.elem_cons, List.elem_nil, x67_9, r67_2_l, s67_2_0, s67_2_1, x67_11, x67_12, x67_10, x67_8, x67_7, euS, euE, Int.natCast_zero, bne_self_eq_false]
theorem eu_loop {C : Callee} {num den : Int} : ∀ (m a b F : Nat) (s : St), headA [] s = euS a b num den → b < 2 ^ m → m ≤ 62 → 2 * m < F →
    iterA (execA E C (fg 67) 0 25 [] 1000 c67_7) (headA []) F s = some (.exit 0, euE (Nat.gcd a b) num den) := by
  intro m
  induction m with
  | zero =>
    intro a b F s hs hb hm hF
    obtain ⟨F, rfl⟩ : ∃ G, F = G + 1 := ⟨F - 1, by omega⟩
    obtain rfl : b = 0 := by omega
    rw [iterA_succ, hs, eu_stop, seqX_exit, Nat.gcd_zero_right]
  | succ m ih =>
    intro a b F s hs hb hm hF
    obtain ⟨F, rfl⟩ : ∃ G, F = G + 2 := ⟨F - 2, by omega⟩
    have hpow : 2 ^ (m + 1) ≤ 2 ^ 62 := Nat.pow_le_pow_right (by omega) hm
    have h62 : (2 : Nat) ^ 62 < 9223372036854775808 := by decide
    have hps : 2 ^ (m + 1) = 2 * 2 ^ m := by rw [Nat.pow_succ]; omega
    by_cases h0 : b = 0
    · subst h0
      rw [iterA_succ, hs, eu_stop, seqX_exit, Nat.gcd_zero_right]
    · obtain ⟨s1, e1, e2⟩ := eu_go (C := C) (a := a) (num := num) (den := den) h0 (by omega)
      have hlt := Nat.mod_lt a (Nat.pos_of_ne_zero h0)
      have hg : Nat.gcd a b = Nat.gcd b (a % b) := by rw [Nat.gcd_comm a b, Nat.gcd_rec, Nat.gcd_comm]
      rw [iterA_succ, hs, e1, seqN, iterA_succ, e2, hg]
      by_cases h1 : a % b = 0
      · rw [h1, eu_stop, seqX_exit, Nat.gcd_zero_right]
      · obtain ⟨s2, f1, f2⟩ := eu_go (C := C) (a := b) (num := num) (den := den) h1 (by omega)
        have hlt2 := Nat.mod_lt b (Nat.pos_of_ne_zero h1)
        have hg2 : Nat.gcd b (a % b) = Nat.gcd (a % b) (b % (a % b)) := by rw [Nat.gcd_comm b (a % b), Nat.gcd_rec, Nat.gcd_comm]
        have hdm := Nat.div_add_mod b (a % b)
        have hq : 1 ≤ b / (a % b) := Nat.div_pos (by omega) (by omega)
        have hmul : a % b ≤ (a % b) * (b / (a % b)) := Nat.le_mul_of_pos_right _ hq
        rw [f1, seqN, hg2]
        exact ih (a % b) (b % (a % b)) F s2 f2 (by omega) (by omega) (by omega)

/-- A fraction in lowest terms. -/
def gcdI (num den : Int) : Nat := Nat.gcd num.natAbs den.natAbs
def rdN (num den : Int) : Int := num / (gcdI num den : Int)
def rdD (num den : Int) : Int := den / (gcdI num den : Int)
theorem gcdI_pos {num den : Int} (h : 0 < den) : 0 < gcdI num den := Nat.gcd_pos_of_pos_right _ (by omega)
theorem gcdI_le {num den : Int} (h : 0 < den) : (gcdI num den : Int) ≤ den := by
  have := Nat.gcd_le_right num.natAbs (n := den.natAbs) (by omega)
  unfold gcdI
  omega
theorem gcdI_dvd1 (num den : Int) : (gcdI num den : Int) ∣ num := Int.ofNat_dvd_left.2 (Nat.gcd_dvd_left ..)
theorem gcdI_dvd2 (num den : Int) : (gcdI num den : Int) ∣ den := Int.ofNat_dvd_left.2 (Nat.gcd_dvd_right ..)

theorem rd_mul (num den : Int) : rdN num den * (gcdI num den : Int) = num ∧ rdD num den * (gcdI num den : Int) = den :=
  ⟨Int.ediv_mul_cancel (gcdI_dvd1 ..), Int.ediv_mul_cancel (gcdI_dvd2 ..)⟩
theorem nat_le_mul (x : Int) {g : Int} (h : 1 ≤ g) : x.natAbs ≤ (x * g).natAbs := by
  rw [Int.natAbs_mul]
  exact Nat.le_mul_of_pos_right _ (by omega)
theorem rd_den_pos {num den : Int} (h : 0 < den) : 0 < rdD num den := by
  obtain ⟨_, h2⟩ := rd_mul num den
  have hg := gcdI_pos (num := num) h
  rcases Int.lt_trichotomy 0 (rdD num den) with h3 | h3 | h3
  · exact h3
  · rw [← h3] at h2; omega
  · have := Int.mul_neg_of_neg_of_pos h3 (show (0 : Int) < gcdI num den by omega)
    omega
theorem reduced_run {C : Callee} {num den : Int} (h1 : -4611686018427387903 ≤ num ∧ num ≤ 4611686018427387903) (h2 : 0 < den ∧ den ≤ 4611686018427387903) :
    rsOf (bodyA E C fg 1000 67 [.int .i64 num, .int .i64 den] [] 0) = some (.agg [.int .i64 (rdN num den), .int .i64 (rdD num den)]) := by
  have h62 : (2 : Nat) ^ 62 = 4611686018427387904 := by decide
  have hl := eu_loop (C := C) (num := num) (den := den) 62 num.natAbs den.natAbs 1000 (euS num.natAbs den.natAbs num den) rfl (by omega) (by omega) (by omega)
  have hmax : (if -num > num then -num else num) = (num.natAbs : Int) := by split <;> omega
  have hden : (den.natAbs : Int) = den := by omega
  have w1 : wrp .i64 (0 - num) = -num := by rw [wrp64 (by omega)]; omega
  have hg : Nat.gcd num.natAbs den.natAbs = gcdI num den := rfl
  have gp := gcdI_pos (num := num) h2.1
  have gl := gcdI_le (num := num) h2.1
  have hz : ¬ (gcdI num den : Int) = 0 := by omega
  have t1 : num.tdiv (gcdI num den : Int) = rdN num den := Int.tdiv_eq_ediv_of_dvd (gcdI_dvd1 ..)
  have t2 : den.tdiv (gcdI num den : Int) = rdD num den := Int.tdiv_eq_ediv_of_dvd (gcdI_dvd2 ..)
  simp only [hg, euE, euS, hden] at hl
  obtain ⟨m1, m2⟩ := rd_mul num den
  have hp := rd_den_pos (num := num) h2.1
  have hdl : rdD num den ≤ den := by
    have := Int.mul_le_mul_of_nonneg_left (show (1 : Int) ≤ gcdI num den by omega) (Int.le_of_lt hp)
    omega
  have hnb := nat_le_mul (rdN num den) (show (1 : Int) ≤ gcdI num den by omega)
  rw [m1] at hnb
  have x1 : wrp .i64 (rdN num den) = rdN num den := wrp64 (by omega)
  have x2 : wrp .i64 (rdD num den) = rdD num den := wrp64 (by omega)
  simp only [seqX_normal, bindR_some, regX_some, blockX_exit, Bool.not_true, Bool.not_false, bodyX_ret, run_nil, run_cons, fget_cons', fput_cons', forget_nil, forget_cons', hget_nil', hget_cons', hset_nil', hset_cons', frame0, gcM, stp, opBox, justO, just, Rd.bind, Rd.run, Rd.opt, upds, acells, zeroCells, tsz, rdCells, aLoad, aStore, opStore, resA, resL, fresh, aBuiltin, aMax, aBin, aInt, putC, evO, Nat.reduceAdd, Nat.reduceGT, Nat.reduceBEq, Nat.reduceEqDiff, Nat.reduceLeDiff, ↓reduceIte, reduceCtorEq, liveBlk_eq, Nat.zero_add, ne_eq, List.nil_append, rtX_some, addT_some, drX_some, runT_nil, runT_cons, neat_eq, descF_nil', descF_cons', ascH_nil', ascH_cons', stpT, Rd.foot, writing, touching, Tr.empty, dynPairs, apartT, disj, List.isEmpty_nil, List.isEmpty_cons, List.map_nil, List.map_cons, Bool.not_false, Bool.not_true, Bool.true_or, Bool.or_true, Bool.or_false, Bool.and_true, Bool.true_and, Bool.and_self, decide_true, not_true_eq_false, or_self, partsOf, fillA, frz, aUn, putD_some, putD_none, and_true, snaps, snap, List.append_nil, Option.map_some, List.elem_cons, List.elem_nil, List.length_cons, List.length_nil, List.getElem?_cons_zero, List.getElem?_cons_succ, List.drop_zero, List.take_succ_cons, List.take_nil, List.set_cons_zero, List.set_cons_succ, T_56, x67_1, r67_0_l, s67_0_0, x67_3, r67_1_l, s67_1_0, s67_1_1, s67_1_2, s67_1_3, s67_1_4, s67_1_5, s67_1_6, x67_6, x67_5, x67_16, r67_4_l, r67_4_dr, r67_4_an, s67_4_0, s67_4_1, s67_4_2, s67_4_3, s67_4_4, s67_4_5, s67_4_6, s67_4_7, x67_17, x67_15, x67_4, x67_2, x67_0, b_67, w1, hmax, hl, hz, t1, t2, x1, x2, aBuild, placeF, fillA, List.all_cons, List.all_nil]
theorem reduced_call {d : Nat} {site : Nat → Nat} {seen : List Nat} {num den : Int} (h1 : -4611686018427387903 ≤ num ∧ num ≤ 4611686018427387903) (h2 : 0 < den ∧ den ≤ 4611686018427387903) :
    aBack site true seen (thaw (callA E fg 1000 (d + 1)) 67 [.int .i64 num, .int .i64 den] [] 0) = .pure (.agg [.int .i64 (rdN num den), .int .i64 (rdD num den)], []) := by
  obtain ⟨H, h⟩ := rs_ex (reduced_run (C := callA E fg 1000 d) h1 h2)
  exact aBack_plain (H' := H) h rfl (fun _ => rfl) rfl

/-! Fractions -/
structure Fr where
  num : Int
  den : Int
deriving Inhabited
def frc (f : Fr) : List AV := [.int .i64 f.num, .int .i64 f.den]
def rd (num den : Int) : Fr := ⟨rdN num den, rdD num den⟩
/-- A fraction and another one together. -/
def fadd (f : Fr) (num den : Int) : Fr := rd (f.num * den + num * f.den) (f.den * den)
theorem rd_den {num den : Int} (h : 0 < den) : 0 < (rd num den).den ∧ (rd num den).den ≤ den := by
  obtain ⟨_, h2⟩ := rd_mul num den
  have hg := gcdI_pos (num := num) h
  have hp := rd_den_pos (num := num) h
  have := Int.mul_le_mul_of_nonneg_left (show (1 : Int) ≤ gcdI num den by omega) (Int.le_of_lt hp)
  refine ⟨hp, ?_⟩
  show rdD num den ≤ den
  omega
theorem rd_cross {num den : Int} : (rd num den).num * den = num * (rd num den).den := by
  obtain ⟨h1, h2⟩ := rd_mul num den
  show rdN num den * den = num * rdD num den
  calc rdN num den * den = rdN num den * (rdD num den * (gcdI num den : Int)) := by rw [h2]
    _ = rdN num den * (gcdI num den : Int) * rdD num den := by ac_rfl
    _ = num * rdD num den := by rw [h1]
/-- Fractions that are equal have the same lowest terms. -/
theorem rd_coprime {a b : Int} (h : 0 < b) : Nat.gcd (rdN a b).natAbs (rdD a b).natAbs = 1 := by
  have hg := gcdI_pos (num := a) h
  have e1 : (rdN a b).natAbs = a.natAbs / gcdI a b := Int.natAbs_ediv_of_dvd (gcdI_dvd1 a b)
  have e2 : (rdD a b).natAbs = b.natAbs / gcdI a b := Int.natAbs_ediv_of_dvd (gcdI_dvd2 a b)
  rw [e1, e2]
  unfold gcdI at hg ⊢
  rw [Nat.gcd_div (Nat.gcd_dvd_left ..) (Nat.gcd_dvd_right ..)]
  exact Nat.div_self hg
theorem co_eq {p q r s : Int} (hq : 0 < q) (hs : 0 < s) (c1 : Nat.gcd p.natAbs q.natAbs = 1) (c2 : Nat.gcd r.natAbs s.natAbs = 1) (h : p * s = r * q) : q = s ∧ p = r := by
  have h1 : p.natAbs * s.natAbs = r.natAbs * q.natAbs := by rw [← Int.natAbs_mul, ← Int.natAbs_mul, h]
  have d1 : q.natAbs ∣ s.natAbs := (Nat.Coprime.dvd_of_dvd_mul_left (Nat.Coprime.symm c1) ⟨r.natAbs, by rw [h1, Nat.mul_comm]⟩)
  have d2 : s.natAbs ∣ q.natAbs := (Nat.Coprime.dvd_of_dvd_mul_left (Nat.Coprime.symm c2) ⟨p.natAbs, by rw [← h1, Nat.mul_comm]⟩)
  have e := Nat.dvd_antisymm d1 d2
  have hqs : q = s := by omega
  refine ⟨hqs, ?_⟩
  subst hqs
  exact Int.eq_of_mul_eq_mul_right (by omega) h
/-- Fractions that are equal have the same lowest terms. -/
theorem rd_eq {a b c d : Int} (hb : 0 < b) (hd : 0 < d) (h : a * d = c * b) : rd a b = rd c d := by
  have h1 := rd_cross (num := a) (den := b)
  have h3 := rd_cross (num := c) (den := d)
  have hp1 := rd_den_pos (num := a) hb
  have hp2 := rd_den_pos (num := c) hd
  simp only [rd] at h1 h3 ⊢
  have e : rdN a b * rdD c d = rdN c d * rdD a b := by
    have : (rdN a b * rdD c d) * (b * d) = (rdN c d * rdD a b) * (b * d) := by
      calc (rdN a b * rdD c d) * (b * d) = (rdN a b * b) * (rdD c d * d) := by ac_rfl
        _ = (a * d) * (rdD a b * rdD c d) := by rw [h1]; ac_rfl
        _ = (c * b) * (rdD a b * rdD c d) := by rw [h]
        _ = (c * rdD c d) * (b * rdD a b) := by ac_rfl
        _ = (rdN c d * d) * (b * rdD a b) := by rw [h3]
        _ = _ := by ac_rfl
    exact Int.eq_of_mul_eq_mul_right (Int.ne_of_gt (Int.mul_pos hb hd)) this
  obtain ⟨x1, x2⟩ := co_eq hp1 hp2 (rd_coprime hb) (rd_coprime hd) e
  rw [x1, x2]

theorem add_run {d : Nat} {f : Fr} {num den : Int} {M1 M2 : Int} (w1 : -M1 ≤ f.num * den ∧ f.num * den ≤ M1) (w2 : -M2 ≤ num * f.den ∧ num * f.den ≤ M2) (hM : M1 + M2 ≤ 4611686018427387903) (h2 : 0 < f.den * den ∧ f.den * den ≤ 4611686018427387903) :
    rsOf (callA E fg 1000 (d + 2) 52 [.agg (frc f), .int .i64 num, .int .i64 den] [] 0) = some (.agg (frc (fadd f num den))) := by
  change rsOf (bodyA E (callA E fg 1000 (d + 1)) fg 1000 52 _ _ _) = _
  have hr := fun (site : Nat → Nat) seen => reduced_call (d := d) (site := site) (seen := seen) (num := f.num * den + num * f.den) (den := f.den * den) (by omega) h2
  have x1 : wrp .i64 (f.num * den) = f.num * den := wrp64 (by omega)
  have x2 : wrp .i64 (num * f.den) = num * f.den := wrp64 (by omega)
  have x3 : wrp .i64 (f.num * den + num * f.den) = f.num * den + num * f.den := wrp64 (by omega)
  have x4 : wrp .i64 (f.den * den) = f.den * den := wrp64 (by omega)
  simp only [frc, seqX_normal, bindR_some, regX_some, bodyX_ret, run_nil, run_cons, fget_cons', fput_cons', forget_nil, forget_cons', hget_nil', hget_cons', hset_nil', hset_cons', frame0, gcM, stp, opBox, just, Rd.bind, Rd.run, Rd.opt, upds, acells, zeroCells, tsz, rdCells, fieldOf, aFieldAddr, aLoad, aStore, opStore, resA, resL, fresh, aBin, aInt, putC, Nat.reduceAdd, Nat.reduceBEq, Nat.reduceEqDiff, Nat.reduceLeDiff, ↓reduceIte, reduceCtorEq, liveBlk_eq, Nat.zero_add, Nat.add_zero, List.nil_append, frz, putD_some, putD_none, and_true, aCall, snaps, snap, List.append_nil, Option.map_some, List.elem_cons, List.elem_nil, List.length_cons, List.length_nil, List.getElem?_cons_zero, List.getElem?_cons_succ, List.drop_zero, List.take_succ_cons, List.take_nil, List.set_cons_zero, List.set_cons_succ, T_3, T_56, x52_1, r52_0_l, s52_0_0, s52_0_1, x52_3, r52_1_l, s52_1_0, s52_1_1, s52_1_2, s52_1_3, s52_1_4, s52_1_5, s52_1_6, s52_1_7, s52_1_8, s52_1_9, s52_1_10, s52_1_11, s52_1_12, s52_1_13, s52_1_14, x52_4, x52_2, x52_0, b_52, x1, x2, x3, x4, hr, fadd, rd]
theorem add_call {d : Nat} {site : Nat → Nat} {seen : List Nat} {f : Fr} {num den : Int} {M1 M2 : Int} (w1 : -M1 ≤ f.num * den ∧ f.num * den ≤ M1) (w2 : -M2 ≤ num * f.den ∧ num * f.den ≤ M2) (hM : M1 + M2 ≤ 4611686018427387903) (h2 : 0 < f.den * den ∧ f.den * den ≤ 4611686018427387903) :
    aBack site true seen (thaw (callA E fg 1000 (d + 2)) 52 [.agg (frc f), .int .i64 num, .int .i64 den] [] 0) = .pure (.agg (frc (fadd f num den)), []) := by
  obtain ⟨H, h⟩ := rs_ex (add_run (d := d) w1 w2 hM h2)
  exact aBack_plain (H' := H) h rfl (fun _ => rfl) rfl
end Go.AM.Ytikchlfbjdfioaa
