/- A part of the proof of propSpanned_holds: SerA, SerC, SyF, SpD, RatA, SpE, NarA, SyO, SpnA. Own work of this project; texts printed by own programs among it. -/
import Derived.KernelRfl
import Derived.Test.YtmhbnflnlglljaaSnJ
section
namespace Go.AM.Ytmhbnflnlglljaa
open Go Go.AM
set_option maxRecDepth 100000
set_option maxHeartbeats 4000000
abbrev euS (a b : Nat) (num den : Int) : St := ([(6, .int .i64 b), (5, .int .i64 a), (4, .ptr 4 0 2), (1, .int .i64 den), (0, .int .i64 num)], [(4, ⟨.box, [.int .i64 0, .int .i64 0]⟩)])
theorem eu_go {C : Callee} {a b : Nat} {num den : Int} (hb : b ≠ 0) (h2 : b < 9223372036854775808) :
    ∃ s', execA E C (fg 61) 0 25 [] 1000 c61_7 (euS a b num den) = some (.normal, s') ∧ headA [] s' = euS b (a % b) num den := by
  have hn : ¬ (b : Int) = 0 := by omega
  have ht : (a : Int).tmod b = ((a % b : Nat) : Int) := by rw [Int.tmod_eq_emod_of_nonneg (by omega)]; omega
  have hlt := Nat.mod_lt a (Nat.pos_of_ne_zero hb)
  have w : wrp .i64 ((a % b : Nat) : Int) = ((a % b : Nat) : Int) := wrp64 (by omega)
  simp only [seqX_normal, bindR_some, regX_some, condX_bool, blockX_normal, Bool.not_true, Bool.not_false, run_nil, run_cons, fget_cons', fput_cons', forget_nil, forget_cons', gcM_c, stp, just, Rd.bind, Rd.run, Rd.opt, upds, aBin, aInt, Nat.reduceAdd, Nat.reduceBEq, Nat.reduceEqDiff, Nat.reduceLeDiff, ↓reduceIte, reduceCtorEq, Nat.zero_add, bne_iff_ne, ne_eq, rtX_some, addT_some, drX_some, runT_nil, runT_cons, neat_eq, descF_nil', descF_cons', ascH_nil', ascH_cons', stpT, Rd.foot, writing, touching, Tr.empty, dynPairs, List.isEmpty_nil, List.map_nil, Bool.not_false, Bool.not_true, Bool.or_true, Bool.or_false, Bool.and_self, decide_true, not_false_eq_true, putD_some, List.elem_cons, List.elem_nil, x61_9, r61_2_l, s61_2_0, s61_2_1, x61_11, x61_12, x61_10, x61_8, x61_14, r61_3_l, r61_3_dr, r61_3_an, s61_3_0, s61_3_1, s61_3_2, s61_3_3, s61_3_4, s61_3_5, x61_13, x61_7, euS, hn, ht]
  exact ⟨_, rfl, rfl⟩
abbrev euE (a : Nat) (num den : Int) : St := ([(13, .bool false), (6, .int .i64 0), (5, .int .i64 a), (4, .ptr 4 0 2), (1, .int .i64 den), (0, .int .i64 num)], [(4, ⟨.box, [.int .i64 0, .int .i64 0]⟩)])
theorem eu_stop {C : Callee} {a : Nat} {num den : Int} :
    execA E C (fg 61) 0 25 [] 1000 c61_7 (euS a 0 num den) = some (.exit 0, euE a num den) := by
  simp only [seqX_normal, seqX_exit, bindR_some, regX_some, condX_bool, run_nil, run_cons, fget_cons', fput_cons', forget_nil, forget_cons', gcM_c, stp, just, Rd.bind, Rd.run, Rd.opt, upds, aBin, aInt, Nat.reduceBEq, Nat.reduceEqDiff, Nat.reduceLeDiff, ↓reduceIte, reduceCtorEq, putD_some, List.elem_cons, List.elem_nil, x61_9, r61_2_l, s61_2_0, s61_2_1, x61_11, x61_12, x61_10, x61_8, x61_7, euS, euE, Int.natCast_zero, bne_self_eq_false]
theorem eu_loop {C : Callee} {num den : Int} : ∀ (m a b F : Nat) (s : St), headA [] s = euS a b num den → b < 2 ^ m → m ≤ 62 → 2 * m < F →
    iterA (execA E C (fg 61) 0 25 [] 1000 c61_7) (headA []) F s = some (.exit 0, euE (Nat.gcd a b) num den) := by
  intro m
  induction m with
  | zero =>
    intro a b F s hs hb hm hF
    obtain ⟨F, rfl⟩ : ∃ G, F = G + 1 := ⟨F - 1, by omega⟩
    obtain rfl : b = 0 := by omega
    rw [iterA_succ, hs, eu_stop, seqX_exit, Nat.gcd_zero_right]
  | succ m ih =>
    intro a b F s hs hb hm hF
    obtain ⟨F, rfl⟩ : ∃ G, F = G + 2 := ⟨F - 2, by omega⟩
    have hpow : 2 ^ (m + 1) ≤ 2 ^ 62 := Nat.pow_le_pow_right (by omega) hm
    have h62 : (2 : Nat) ^ 62 < 9223372036854775808 := by decide
    have hps : 2 ^ (m + 1) = 2 * 2 ^ m := by rw [Nat.pow_succ]; omega
    by_cases h0 : b = 0
    · subst h0
      rw [iterA_succ, hs, eu_stop, seqX_exit, Nat.gcd_zero_right]
    · obtain ⟨s1, e1, e2⟩ := eu_go (C := C) (a := a) (num := num) (den := den) h0 (by omega)
      have hlt := Nat.mod_lt a (Nat.pos_of_ne_zero h0)
      have hg : Nat.gcd a b = Nat.gcd b (a % b) := by rw [Nat.gcd_comm a b, Nat.gcd_rec, Nat.gcd_comm]
      rw [iterA_succ, hs, e1, seqN, iterA_succ, e2, hg]
      by_cases h1 : a % b = 0
      · rw [h1, eu_stop, seqX_exit, Nat.gcd_zero_right]
      · obtain ⟨s2, f1, f2⟩ := eu_go (C := C) (a := b) (num := num) (den := den) h1 (by omega)
        have hlt2 := Nat.mod_lt b (Nat.pos_of_ne_zero h1)
        have hg2 : Nat.gcd b (a % b) = Nat.gcd (a % b) (b % (a % b)) := by rw [Nat.gcd_comm b (a % b), Nat.gcd_rec, Nat.gcd_comm]
        have hdm := Nat.div_add_mod b (a % b)
        have hq : 1 ≤ b / (a % b) := Nat.div_pos (by omega) (by omega)
        have hmul : a % b ≤ (a % b) * (b / (a % b)) := Nat.le_mul_of_pos_right _ hq
        rw [f1, seqN, hg2]
        exact ih (a % b) (b % (a % b)) F s2 f2 (by omega) (by omega) (by omega)
/-- A fraction in lowest terms. -/
def gcdI (num den : Int) : Nat := Nat.gcd num.natAbs den.natAbs
def rdN (num den : Int) : Int := num / (gcdI num den : Int)
def rdD (num den : Int) : Int := den / (gcdI num den : Int)
theorem gcdI_pos {num den : Int} (h : 0 < den) : 0 < gcdI num den := Nat.gcd_pos_of_pos_right _ (by omega)
theorem gcdI_le {num den : Int} (h : 0 < den) : (gcdI num den : Int) ≤ den := by
  have := Nat.gcd_le_right num.natAbs (n := den.natAbs) (by omega)
  unfold gcdI
  omega
theorem gcdI_dvd1 (num den : Int) : (gcdI num den : Int) ∣ num := Int.ofNat_dvd_left.2 (Nat.gcd_dvd_left ..)
theorem gcdI_dvd2 (num den : Int) : (gcdI num den : Int) ∣ den := Int.ofNat_dvd_left.2 (Nat.gcd_dvd_right ..)
theorem rd_mul (num den : Int) : rdN num den * (gcdI num den : Int) = num ∧ rdD num den * (gcdI num den : Int) = den :=
  ⟨Int.ediv_mul_cancel (gcdI_dvd1 ..), Int.ediv_mul_cancel (gcdI_dvd2 ..)⟩
theorem nat_le_mul (x : Int) {g : Int} (h : 1 ≤ g) : x.natAbs ≤ (x * g).natAbs := by
  rw [Int.natAbs_mul]
  exact Nat.le_mul_of_pos_right _ (by omega)
theorem rd_den_pos {num den : Int} (h : 0 < den) : 0 < rdD num den := by
  obtain ⟨_, h2⟩ := rd_mul num den
  have hg := gcdI_pos (num := num) h
  rcases Int.lt_trichotomy 0 (rdD num den) with h3 | h3 | h3
  · exact h3
  · rw [← h3] at h2; omega
  · have := Int.mul_neg_of_neg_of_pos h3 (show (0 : Int) < gcdI num den by omega)
    omega
theorem reduced_run {C : Callee} {num den : Int} (h1 : -4611686018427387903 ≤ num ∧ num ≤ 4611686018427387903) (h2 : 0 < den ∧ den ≤ 4611686018427387903) :
    rsOf (bodyA E C fg 1000 61 [.int .i64 num, .int .i64 den] [] 0) = some (.agg [.int .i64 (rdN num den), .int .i64 (rdD num den)]) := by
  have h62 : (2 : Nat) ^ 62 = 4611686018427387904 := by decide
  have hl := eu_loop (C := C) (num := num) (den := den) 62 num.natAbs den.natAbs 1000 (euS num.natAbs den.natAbs num den) rfl (by omega) (by omega) (by omega)
  have hmax : (if -num > num then -num else num) = (num.natAbs : Int) := by split <;> omega
  have hden : (den.natAbs : Int) = den := by omega
  have w1 : wrp .i64 (0 - num) = -num := by rw [wrp64 (by omega)]; omega
  have hg : Nat.gcd num.natAbs den.natAbs = gcdI num den := rfl
  have gp := gcdI_pos (num := num) h2.1
  have gl := gcdI_le (num := num) h2.1
  have hz : ¬ (gcdI num den : Int) = 0 := by omega
  have t1 : num.tdiv (gcdI num den : Int) = rdN num den := Int.tdiv_eq_ediv_of_dvd (gcdI_dvd1 ..)
  have t2 : den.tdiv (gcdI num den : Int) = rdD num den := Int.tdiv_eq_ediv_of_dvd (gcdI_dvd2 ..)
  simp only [hg, euE, euS, hden] at hl
  obtain ⟨m1, m2⟩ := rd_mul num den
  have hp := rd_den_pos (num := num) h2.1
  have hdl : rdD num den ≤ den := by
    have := Int.mul_le_mul_of_nonneg_left (show (1 : Int) ≤ gcdI num den by omega) (Int.le_of_lt hp)
    omega
  have hnb := nat_le_mul (rdN num den) (show (1 : Int) ≤ gcdI num den by omega)
  rw [m1] at hnb
  have x1 : wrp .i64 (rdN num den) = rdN num den := wrp64 (by omega)
  have x2 : wrp .i64 (rdD num den) = rdD num den := wrp64 (by omega)
  simp only [seqX_normal, bindR_some, regX_some, blockX_exit, Bool.not_true, Bool.not_false, bodyX_ret, run_nil, run_cons, fget_cons', fput_cons', forget_nil, forget_cons', hget_nil', hget_cons', hset_nil', hset_cons', frame0, gcM_n, gcM_c, stp, opBox, justO, just, Rd.bind, Rd.run, Rd.opt, upds, acells, zeroCells, tsz, rdCells, aLoad, aStore, opStore, resA, resL, fresh, aBuiltin, aMax, aBin, aInt, putC, evO, Nat.reduceAdd, Nat.reduceGT, Nat.reduceBEq, Nat.reduceEqDiff, Nat.reduceLeDiff, ↓reduceIte, reduceCtorEq, liveBlk_eq, Nat.zero_add, ne_eq, List.nil_append, rtX_some, addT_some, drX_some, runT_nil, runT_cons, neat_eq, descF_nil', descF_cons', ascH_nil', ascH_cons', stpT, Rd.foot, writing, touching, Tr.empty, dynPairs, apartT, disj, List.isEmpty_nil, List.isEmpty_cons, List.map_nil, List.map_cons, Bool.not_false, Bool.not_true, Bool.true_or, Bool.or_true, Bool.or_false, Bool.and_true, Bool.true_and, Bool.and_self, decide_true, not_true_eq_false, or_self, partsOf, fillA, frz, aUn, putD_some, putD_none, and_true, snaps, snap, List.append_nil, Option.map_some, List.elem_cons, List.elem_nil, List.length_cons, List.length_nil, List.getElem?_cons_zero, List.getElem?_cons_succ, List.drop_zero, List.take_succ_cons, List.take_nil, List.set_cons_zero, List.set_cons_succ, T_27, x61_1, r61_0_l, s61_0_0, x61_3, r61_1_l, s61_1_0, s61_1_1, s61_1_2, s61_1_3, s61_1_4, s61_1_5, s61_1_6, x61_6, x61_5, x61_16, r61_4_l, r61_4_dr, r61_4_an, s61_4_0, s61_4_1, s61_4_2, s61_4_3, s61_4_4, s61_4_5, s61_4_6, s61_4_7, x61_17, x61_15, x61_4, x61_2, x61_0, b_61, w1, hmax, hl, hz, t1, t2, x1, x2, aBuild, placeF, fillA, List.all_cons, List.all_nil]
theorem reduced_call {d : Nat} {site : Nat → Nat} {seen : List Nat} {num den : Int} (h1 : -4611686018427387903 ≤ num ∧ num ≤ 4611686018427387903) (h2 : 0 < den ∧ den ≤ 4611686018427387903) :
    aBack site true seen (thaw (callA E fg 1000 (d + 1)) 61 [.int .i64 num, .int .i64 den] [] 0) = .pure (.agg [.int .i64 (rdN num den), .int .i64 (rdD num den)], []) := by
  obtain ⟨H, h⟩ := rs_ex (reduced_run (C := callA E fg 1000 d) h1 h2)
  exact aBack_plain (H' := H) h rfl (fun _ => rfl) rfl
structure Fr where
  num : Int
  den : Int
deriving Inhabited
def frc (f : Fr) : List AV := [.int .i64 f.num, .int .i64 f.den]
def rd (num den : Int) : Fr := ⟨rdN num den, rdD num den⟩
theorem rd_den {num den : Int} (h : 0 < den) : 0 < (rd num den).den ∧ (rd num den).den ≤ den := by
  obtain ⟨_, h2⟩ := rd_mul num den
  have hg := gcdI_pos (num := num) h
  have hp := rd_den_pos (num := num) h
  have := Int.mul_le_mul_of_nonneg_left (show (1 : Int) ≤ gcdI num den by omega) (Int.le_of_lt hp)
  refine ⟨hp, ?_⟩
  show rdD num den ≤ den
  omega
theorem rd_cross {num den : Int} : (rd num den).num * den = num * (rd num den).den := by
  obtain ⟨h1, h2⟩ := rd_mul num den
  show rdN num den * den = num * rdD num den
  calc rdN num den * den = rdN num den * (rdD num den * (gcdI num den : Int)) := by rw [h2]
    _ = rdN num den * (gcdI num den : Int) * rdD num den := by ac_rfl
    _ = num * rdD num den := by rw [h1]
/-- Fractions that are equal have the same lowest terms. -/
theorem rd_coprime {a b : Int} (h : 0 < b) : Nat.gcd (rdN a b).natAbs (rdD a b).natAbs = 1 := by
  have hg := gcdI_pos (num := a) h
  have e1 : (rdN a b).natAbs = a.natAbs / gcdI a b := Int.natAbs_ediv_of_dvd (gcdI_dvd1 a b)
  have e2 : (rdD a b).natAbs = b.natAbs / gcdI a b := Int.natAbs_ediv_of_dvd (gcdI_dvd2 a b)
  rw [e1, e2]
  unfold gcdI at hg ⊢
  rw [Nat.gcd_div (Nat.gcd_dvd_left ..) (Nat.gcd_dvd_right ..)]
  exact Nat.div_self hg
theorem co_eq {p q r s : Int} (hq : 0 < q) (hs : 0 < s) (c1 : Nat.gcd p.natAbs q.natAbs = 1) (c2 : Nat.gcd r.natAbs s.natAbs = 1) (h : p * s = r * q) : q = s ∧ p = r := by
  have h1 : p.natAbs * s.natAbs = r.natAbs * q.natAbs := by rw [← Int.natAbs_mul, ← Int.natAbs_mul, h]
  have d1 : q.natAbs ∣ s.natAbs := (Nat.Coprime.dvd_of_dvd_mul_left (Nat.Coprime.symm c1) ⟨r.natAbs, by rw [h1, Nat.mul_comm]⟩)
  have d2 : s.natAbs ∣ q.natAbs := (Nat.Coprime.dvd_of_dvd_mul_left (Nat.Coprime.symm c2) ⟨p.natAbs, by rw [← h1, Nat.mul_comm]⟩)
  have e := Nat.dvd_antisymm d1 d2
  have hqs : q = s := by omega
  refine ⟨hqs, ?_⟩
  subst hqs
  exact Int.eq_of_mul_eq_mul_right (by omega) h
end Go.AM.Ytmhbnflnlglljaa
end

section
namespace Go.AM.Ytmhbnflnlglljaa
open Go Go.AM
set_option maxRecDepth 100000
set_option maxHeartbeats 4000000
theorem eq56 {a b c d : Int} : eqArr E.T 27 [.int .i64 a, .int .i64 b] [.int .i64 c, .int .i64 d] = some (if a = c then (if b = d then true else false) else false) := by
  by_cases h1 : a = c <;> by_cases h2 : b = d <;> simp [eqArr, T_27, T_3, eqFs, h1, h2]
theorem aBack_frac {C : Callee} {site : Nat → Nat} {seen : List Nat} {f : FuncId} {args : List AV} {a b : Int} (h : ∃ H', C f args [] 0 = some (.agg [.int .i64 a, .int .i64 b], H')) : aBack site true seen (thaw C f args [] 0) = .pure (.agg [.int .i64 a, .int .i64 b], []) := by
  obtain ⟨H', h⟩ := h; exact aBack_plain h rfl (fun _ => rfl) rfl
end Go.AM.Ytmhbnflnlglljaa
end

section
namespace Go.AM.Ytmhbnflnlglljaa
open Go Go.AM
set_option maxRecDepth 100000
variable {C : Callee} {B N : Nat} {E0 : AHeap} (φ : AFr) (H : AHeap) (s : St)
noncomputable def c41_0 : Code := kBody Proofs.Try.f41
noncomputable def c41_1 : Code := kL c41_0
noncomputable def r41_0 : Array Oper := kO c41_1
noncomputable def o41_0_0 : Oper := opN r41_0 0
theorem x41_1 : execA E C (fg 41) B 8 E0 N c41_1 s = regX (runA E C B 8 r41_0 r41_0.toList s) (fun s => gcM E0 [2] (forget s.1 [2], s.2)) := x_reg (ops := r41_0) (by rfl) (by rfl) s
theorem r41_0_l : r41_0.toList = [o41_0_0] := nrfl rfl
theorem s41_0_0 : stepA E C B 8 r41_0 o41_0_0 (φ, H) = some (fput φ 2 (.nilsl), H) := nrfl rfl
noncomputable def c41_2 : Code := kR c41_0
noncomputable def c41_3 : Code := kL c41_2
noncomputable def c41_4 : Code := kL c41_3
noncomputable def r41_1 : Array Oper := kO c41_4
noncomputable def o41_1_0 : Oper := opN r41_1 0
noncomputable def o41_1_1 : Oper := opN r41_1 1
theorem x41_4 : execA E C (fg 41) B 8 E0 N c41_4 s = regX (runA E C B 8 r41_1 r41_1.toList s) (fun s => gcM E0 [3] (forget s.1 [3], s.2)) := x_reg (ops := r41_1) (by rfl) (by rfl) s
theorem r41_1_l : r41_1.toList = [o41_1_0, o41_1_1] := nrfl rfl
theorem s41_1_0 : stepA E C B 8 r41_1 o41_1_0 (φ, H) = some (fput φ 3 (fget φ 0), H) := nrfl rfl
theorem s41_1_1 : stepA E C B 8 r41_1 o41_1_1 (φ, H) = stp (some 4) φ H (just (aBin E.T .eql 22 (fget φ 3) (.nilsl))) := nrfl rfl
noncomputable def c41_5 : Code := kR c41_3
noncomputable def c41_6 : Code := kT c41_5
noncomputable def c41_7 : Code := kL c41_6
noncomputable def r41_2 : Array Oper := kO c41_7
noncomputable def o41_2_0 : Oper := opN r41_2 0
theorem x41_7 : execA E C (fg 41) B 8 E0 N c41_7 s = regX (runA E C B 8 r41_2 r41_2.toList s) (fun s => gcM E0 [0, 4] (forget s.1 [0, 4], s.2)) := x_reg (ops := r41_2) (by rfl) (by rfl) s
theorem r41_2_l : r41_2.toList = [o41_2_0] := nrfl rfl
theorem s41_2_0 : stepA E C B 8 r41_2 o41_2_0 (φ, H) = some (fput φ 2 (.nilsl), H) := nrfl rfl
noncomputable def c41_8 : Code := kR c41_6
theorem x41_8 : execA E C (fg 41) B 8 E0 N c41_8 s = some (.ret, s) := x_ret (by rfl) s
theorem x41_6 : execA E C (fg 41) B 8 E0 N c41_6 s = seqX (execA E C (fg 41) B 8 E0 N c41_7 s) (execA E C (fg 41) B 8 E0 N c41_8) := x_seq (by rfl) s
noncomputable def c41_9 : Code := kE c41_5
theorem x41_9 : execA E C (fg 41) B 8 E0 N c41_9 s = some (.normal, s) := x_skip (by rfl) s
theorem x41_5 : execA E C (fg 41) B 8 E0 N c41_5 (φ, H) = condX (fget φ 4) (execA E C (fg 41) B 8 E0 N c41_6 (φ, H)) (execA E C (fg 41) B 8 E0 N c41_9 (φ, H)) := x_cond (by rfl) _
theorem x41_3 : execA E C (fg 41) B 8 E0 N c41_3 s = seqX (execA E C (fg 41) B 8 E0 N c41_4 s) (execA E C (fg 41) B 8 E0 N c41_5) := x_seq (by rfl) s
noncomputable def c41_10 : Code := kR c41_2
noncomputable def c41_11 : Code := kL c41_10
noncomputable def r41_3 : Array Oper := kO c41_11
noncomputable def o41_3_0 : Oper := opN r41_3 0
noncomputable def o41_3_1 : Oper := opN r41_3 1
noncomputable def o41_3_2 : Oper := opN r41_3 2
noncomputable def o41_3_3 : Oper := opN r41_3 3
theorem x41_11 : execA E C (fg 41) B 8 E0 N c41_11 s = regX (runA E C B 8 r41_3 r41_3.toList s) (fun s => gcM E0 [0, 4, 5, 6, 7] (forget s.1 [0, 4, 5, 6, 7], s.2)) := x_reg (ops := r41_3) (by rfl) (by rfl) s
theorem r41_3_l : r41_3.toList = [o41_3_0, o41_3_1, o41_3_2, o41_3_3] := nrfl rfl
theorem s41_3_0 : stepA E C B 8 r41_3 o41_3_0 (φ, H) = stp (some 5) φ H (aBuildSlice E.T (B + 5) 22 0 (evO E φ) []) := nrfl rfl
theorem s41_3_1 : stepA E C B 8 r41_3 o41_3_1 (φ, H) = some (fput φ 6 (fget φ 0), H) := nrfl rfl
theorem s41_3_2 : stepA E C B 8 r41_3 o41_3_2 (φ, H) = stp (some 7) φ H (aBuiltin E.T (B + 7) .append #[22, 22] [(fget φ 5), (fget φ 6)]) := nrfl rfl
theorem s41_3_3 : stepA E C B 8 r41_3 o41_3_3 (φ, H) = some (fput φ 2 (fget φ 7), H) := nrfl rfl
noncomputable def c41_12 : Code := kR c41_10
theorem x41_12 : execA E C (fg 41) B 8 E0 N c41_12 s = some (.ret, s) := x_ret (by rfl) s
theorem x41_10 : execA E C (fg 41) B 8 E0 N c41_10 s = seqX (execA E C (fg 41) B 8 E0 N c41_11 s) (execA E C (fg 41) B 8 E0 N c41_12) := x_seq (by rfl) s
theorem x41_2 : execA E C (fg 41) B 8 E0 N c41_2 s = seqX (execA E C (fg 41) B 8 E0 N c41_3 s) (execA E C (fg 41) B 8 E0 N c41_10) := x_seq (by rfl) s
theorem x41_0 : execA E C (fg 41) B 8 E0 N c41_0 s = seqX (execA E C (fg 41) B 8 E0 N c41_1 s) (execA E C (fg 41) B 8 E0 N c41_2) := x_seq (by rfl) s
theorem fi_41 : fInfo E 41 = some ⟨8, #[.tmp 2], c41_0⟩ := nrfl rfl
theorem b_41 (args : List AV) : bodyA E C fg N 41 args H B = bodyX E [.tmp 2] (execA E C (fg 41) B 8 H N c41_0 (frame0 args 0 [], H)) := bodyA_eq fi_41 args H
end Go.AM.Ytmhbnflnlglljaa
end

section
namespace Go.AM.Ytmhbnflnlglljaa
open Go Go.AM
set_option maxRecDepth 100000
set_option maxHeartbeats 4000000
theorem take_pcs (l : List Stone) : List.take (l.length * 4) (pcells l) = pcells l := List.take_of_length_le (by rw [pcells_length]; exact Nat.le_refl _)
theorem clone_run {C : Callee} {l : List Stone} {ex : Bool} (h0 : 0 < l.length) (hl : l.length ≤ 5) : bodyA E C fg 1000 41 [.imm (pcells l) l.length ex] [] 0 = some (.ref 5 0 l.length l.length (l.length * 4) 4 false, [(5, ⟨.row, pcells l⟩)]) := by
  have hn : ¬ l.length = 0 := by omega
  have hn2 : ¬ l.length ≤ 0 := by omega
  have htk := take_pcs l
  simp only [seqX_normal, bindR_some, regX_some, condX_bool, bodyX_ret, run_nil, run_cons, fget_cons', fput_cons', forget_nil, forget_cons', hget_nil', hget_cons', hset_nil', hset_cons', frame0, gcM_c, stp, just, Rd.bind, Rd.run, upds, zeroCells, tsz, elemT, resA, resL, fresh, aBuiltin, aBin, Nat.reduceAdd, Nat.reduceLT, Nat.reduceBEq, Nat.reduceEqDiff, Nat.reduceLeDiff, ↓reduceIte, reduceCtorEq, liveBlk_eq, Nat.zero_add, Nat.add_zero, List.nil_append, List.getElem?_toArray, aBuildSlice, partsOf, fillA, repC, frz, isSliceT, aAppend, srcOf, window, putD_some, and_true, snaps, Option.map_some, List.elem_cons, List.elem_nil, List.length_cons, List.length_nil, List.getElem?_cons_zero, List.getElem?_cons_succ, List.drop_zero, List.take_zero, T_22, T_45, x41_1, r41_0_l, s41_0_0, x41_4, r41_1_l, s41_1_0, s41_1_1, x41_7, r41_2_l, s41_2_0, x41_8, x41_6, x41_9, x41_5, x41_3, x41_11, r41_3_l, s41_3_0, s41_3_1, s41_3_2, s41_3_3, x41_12, x41_10, x41_2, x41_0, b_41, pcells_length, hn, hn2, aNil, room44 (show l.length ≤ 1000000 by omega), Nat.zero_mul, Nat.zero_add, Nat.le_refl, Nat.zero_le, List.length_nil, List.nil_append]
theorem clone_call {d : Nat} {site : Nat → Nat} {seen : List Nat} {l : List Stone} {ex : Bool} (h0 : 0 < l.length) (hl : l.length ≤ 5) :
    aBack site true seen (thaw (callA E fg 1000 (d + 1)) 41 [.imm (pcells l) l.length ex] [] 0) = back1 (site 0) seen (fun k => .ref k 0 l.length l.length (l.length * 4) 4 false) ⟨.row, pcells l⟩ := by
  have e := clone_run (C := callA E fg 1000 d) (ex := ex) h0 hl
  have := aBack_ref (site := site) (seen := seen) (n := l.length) (sz := 4) (id := 5) (cells := pcells l) (H' := [(5, ⟨.row, pcells l⟩)]) (C := callA E fg 1000 (d + 1)) (f := 41) (args := [.imm (pcells l) l.length ex]) (by rw [pcells_length]; exact e) (by rw [hget_cons']; simp)
  rw [pcells_length] at this
  exact this
theorem pcells_drop : ∀ (l : List Stone) (k : Nat), (pcells l).drop (k * 4) = pcells (l.drop k)
  | [], k => by simp [pcells]
  | a :: l, 0 => by simp
  | a :: l, k + 1 => by rw [List.drop_succ_cons, ← pcells_drop l k, pcells, show (k + 1) * 4 = 4 + k * 4 by omega, ← List.drop_drop]; simp [sc]
theorem window_pc (l : List Stone) (k : Nat) : window (pcells l) (k * 4) ((l.length - k) * 4) = pcells (l.drop k) := by
  rw [window, pcells_drop, ← List.length_drop, take_pcs]
def smS (q : List Stone) (i : Nat) : Int := sumS (fun s => s.least * s.pos) (q.take i)
def smW (q : List Stone) (i : Nat) : Int := sumS (fun s => s.least) (q.take i)
theorem take_at {l : List Stone} {i : Nat} {s : Stone} (h : l[i]? = some s) : l.take (i + 1) = l.take i ++ [s] := by
  obtain ⟨h1, h2⟩ := List.getElem?_eq_some_iff.1 h
  rw [List.take_succ_eq_append_getElem h1, h2]
theorem smS_succ {q : List Stone} {i : Nat} {s : Stone} (h : q[i]? = some s) : smS q (i + 1) = smS q i + s.least * s.pos := by
  rw [smS, take_at h, sumS_append]; simp [sumS, smS]
theorem smW_succ {q : List Stone} {i : Nat} {s : Stone} (h : q[i]? = some s) : smW q (i + 1) = smW q i + s.least := by
  rw [smW, take_at h, sumS_append]; simp [sumS, smW]
def FitsL (q : List Stone) : Prop := ∀ (k : Nat) (s : Stone), q[k]? = some s → Fits s
theorem sm_b {q : List Stone} (h : FitsL q) : ∀ i, i ≤ q.length → (i : Int) ≤ smW q i ∧ smW q i ≤ 9 * i ∧ -(33554432 * smW q i) ≤ smS q i ∧ smS q i ≤ 33554432 * smW q i
  | 0, _ => by simp [smS, smW, sumS]
  | i + 1, hi => by
    obtain ⟨h1, h2, h3, h4⟩ := sm_b h i (by omega)
    obtain ⟨s, hs⟩ := at_ex (l := q) (k := i) (by omega)
    obtain ⟨_, _, p1, p2, l1, lm, m9⟩ := h i s hs
    rw [smS_succ hs, smW_succ hs]
    have a1 : s.least * s.pos ≤ s.least * 33554432 := Int.mul_le_mul_of_nonneg_left p2 (by omega)
    have a2 : s.least * -33554432 ≤ s.least * s.pos := Int.mul_le_mul_of_nonneg_left p1 (by omega)
    omega
theorem grd_app (sg : Int) : ∀ (p r : List Stone) (S W : Int), grd sg (p ++ r) S W = grd sg r (grd sg p S W).1 (grd sg p S W).2
  | [], r, S, W => rfl
  | s :: p, r, S, W => by
    rw [List.cons_append, grd, grd]
    split <;> exact grd_app sg p r _ _
def gS (sg : Int) (q : List Stone) (i : Nat) : Int := (grd sg (q.take i) (smS q q.length) (smW q q.length)).1
def gW (sg : Int) (q : List Stone) (i : Nat) : Int := (grd sg (q.take i) (smS q q.length) (smW q q.length)).2
theorem g_succ {sg : Int} {q : List Stone} {i : Nat} {s : Stone} (h : q[i]? = some s) :
    gS sg q (i + 1) = (if sg * (s.pos * gW sg q i - gS sg q i) > 0 then gS sg q i + (s.most - s.least) * s.pos else gS sg q i) ∧ gW sg q (i + 1) = (if sg * (s.pos * gW sg q i - gS sg q i) > 0 then gW sg q i + (s.most - s.least) else gW sg q i) := by
  unfold gS gW
  rw [take_at h, grd_app]
  simp only [grd]
  constructor <;> split <;> rfl
theorem g_b {sg : Int} {q : List Stone} (h : FitsL q) (hl : 0 < q.length ∧ q.length ≤ 5) : ∀ i, i ≤ q.length → 1 ≤ gW sg q i ∧ gW sg q i ≤ 45 + 8 * i ∧ -(33554432 * gW sg q i) ≤ gS sg q i ∧ gS sg q i ≤ 33554432 * gW sg q i
  | 0, _ => by
    have := sm_b h q.length (Nat.le_refl _)
    simp only [gS, gW, List.take_zero, grd]
    omega
  | i + 1, hi => by
    obtain ⟨h1, h2, h3, h4⟩ := g_b (sg := sg) h hl i (by omega)
    obtain ⟨s, hs⟩ := at_ex (l := q) (k := i) (by omega)
    obtain ⟨_, _, p1, p2, l1, lm, m9⟩ := h i s hs
    obtain ⟨e1, e2⟩ := g_succ (sg := sg) hs
    rw [e1, e2]
    split
    · have a1 : (s.most - s.least) * s.pos ≤ (s.most - s.least) * 33554432 := Int.mul_le_mul_of_nonneg_left p2 (by omega)
      have a2 : (s.most - s.least) * -33554432 ≤ (s.most - s.least) * s.pos := Int.mul_le_mul_of_nonneg_left p1 (by omega)
      omega
    · omega
abbrev s1 (sg : Int) (q : List Stone) (i : Nat) : St := ([(21, .int .i64 i), (20, .int .i64 q.length), (19, .ref 15 0 q.length q.length (q.length * 4) 4 false), (7, .int .i64 (smW q i)), (6, .int .i64 (smS q i)), (5, .ref 15 0 q.length q.length (q.length * 4) 4 false), (4, .ptr 4 0 2), (3, .ptr 3 0 1)], sH sg q)
theorem s1_go {C : Callee} {sg : Int} {q : List Stone} (h : FitsL q) (h5 : q.length ≤ 5) {i : Nat} (hi : i < q.length) :
    ∃ s', execA E C (fg 58) 0 73 [] 1000 c58_13 (s1 sg q i) = some (.normal, s') ∧ headA [] s' = s1 sg q (i + 1) := by
  obtain ⟨s, hs⟩ := at_ex hi
  obtain ⟨_, _, p1, p2, l1, lm, m9⟩ := h i s hs
  obtain ⟨h1, h2, h3, h4⟩ := sm_b h i (by omega)
  have a1 : s.least * s.pos ≤ s.least * 33554432 := Int.mul_le_mul_of_nonneg_left p2 (by omega)
  have a2 : s.least * -33554432 ≤ s.least * s.pos := Int.mul_le_mul_of_nonneg_left p1 (by omega)
  have a3 := pcells_at q i s hs
  have a4 : i * 4 + 4 ≤ q.length * 4 := by omega
  simp only [sc] at a3
  rw [show s1 sg q (i + 1) = ([(21, .int .i64 (i + 1 : Nat)), (20, .int .i64 q.length), (19, .ref 15 0 q.length q.length (q.length * 4) 4 false), (7, .int .i64 (smW q i + s.least)), (6, .int .i64 (smS q i + s.least * s.pos)), (5, .ref 15 0 q.length q.length (q.length * 4) 4 false), (4, .ptr 4 0 2), (3, .ptr 3 0 1)], sH sg q) by simp only [s1, smS_succ hs, smW_succ hs]]
  simp (disch := omega) only [seqX_normal, bindR_some, regX_some, condX_bool, blockX_normal, run_nil, run_cons, fget_cons', fput_cons', forget_nil, forget_cons', hget_nil', hget_cons', hset_cons', gcM_n, gcM_c, stp, opBox, just, Rd.bind, Rd.run, Rd.opt, upds, acells, zeroCells, tsz, rdCells, fieldOf, aFieldAddr, aLoad, aStore, opStore, fresh, aIndexAddr, aNum, aBin, aInt, putC, Nat.reduceAdd, Nat.reduceLT, Nat.reduceBEq, Nat.reduceEqDiff, Nat.reduceLeDiff, ↓reduceIte, reduceCtorEq, liveBlk_eq, Nat.zero_add, List.nil_append, decide_true, frz, putD_some, putD_none, and_true, Int.natCast_nonneg, Int.ofNat_lt, Int.toNat_natCast, snaps, snap, List.append_nil, List.elem_cons, List.elem_nil, List.length_cons, List.length_nil, List.getElem?_cons_zero, List.getElem?_cons_succ, List.set_cons_zero, List.set_cons_succ, T_3, T_22, T_45, x58_14, r58_5_l, s58_5_0, x58_17, x58_18, x58_16, x58_22, r58_6_l, s58_6_0, s58_6_1, s58_6_2, s58_6_3, x58_24, r58_7_l, s58_7_0, s58_7_1, s58_7_2, s58_7_3, s58_7_4, s58_7_5, s58_7_6, s58_7_7, x58_25, r58_8_l, s58_8_0, s58_8_1, s58_8_2, s58_8_3, s58_8_4, x58_23, x58_21, x58_20, x58_26, r58_9_l, s58_9_0, s58_9_1, x58_19, x58_15, x58_13, s1, sH, hi, a3, a4, pcells_length, wrp64, wrp_succ (show i < 1000000 by omega)]
  exact ⟨_, rfl, rfl⟩
theorem s1_loop {C : Callee} {sg : Int} {q : List Stone} (h : FitsL q) (h5 : q.length ≤ 5) :
    iterA (execA E C (fg 58) 0 73 [] 1000 c58_13) (headA []) 1000 (s1 sg q 0) = some (.exit 0, ((22, .bool false) :: (s1 sg q q.length).1, sH sg q)) := by
  refine iter_all (f := execA E C (fg 58) 0 73 [] 1000 c58_13) (hd := headA []) (s1 sg q) q.length 1000 0 _ (by rfl) (by omega) (fun i _ hi => s1_go h h5 (by omega)) ?_ (by simp)
  rw [Nat.zero_add]
  simp only [seqX_normal, seqX_exit, bindR_some, regX_some, condX_bool, run_nil, run_cons, fget_cons', fput_cons', forget_nil, forget_cons', gcM_n, stp, just, Rd.bind, Rd.run, Rd.opt, upds, aBin, aInt, Nat.reduceEqDiff, Nat.reduceLeDiff, ↓reduceIte, decide_false, putD_some, List.elem_nil, x58_14, r58_5_l, s58_5_0, x58_17, x58_18, x58_16, x58_15, x58_13, s1, sH, Int.lt_irrefl, decide_false, Bool.false_eq_true]
abbrev s2 (sg : Int) (q : List Stone) (i : Nat) : St := ([(39, .int .i64 i), (38, .int .i64 q.length), (37, .ref 15 0 q.length q.length (q.length * 4) 4 false), (7, .int .i64 (gW sg q i)), (6, .int .i64 (gS sg q i)), (4, .ptr 4 0 2), (3, .ptr 3 0 1)], sH sg q)
theorem s2_go {C : Callee} {sg : Int} (hsg : sg = 1 ∨ sg = -1) {q : List Stone} (h : FitsL q) (h5 : q.length ≤ 5) {i : Nat} (hi : i < q.length) :
    ∃ s', execA E C (fg 58) 0 73 [] 1000 c58_32 (s2 sg q i) = some (.normal, s') ∧ headA [] s' = s2 sg q (i + 1) := by
  obtain ⟨s, hs⟩ := at_ex hi
  obtain ⟨_, _, p1, p2, l1, lm, m9⟩ := h i s hs
  obtain ⟨h1, h2, h3, h4⟩ := g_b (sg := sg) h ⟨by omega, h5⟩ i (by omega)
  have a1 : (s.most - s.least) * s.pos ≤ (s.most - s.least) * 33554432 := Int.mul_le_mul_of_nonneg_left p2 (by omega)
  have a2 : (s.most - s.least) * -33554432 ≤ (s.most - s.least) * s.pos := Int.mul_le_mul_of_nonneg_left p1 (by omega)
  have b1 : s.pos * gW sg q i ≤ 33554432 * gW sg q i := Int.mul_le_mul_of_nonneg_right p2 (by omega)
  have b2 : -33554432 * gW sg q i ≤ s.pos * gW sg q i := Int.mul_le_mul_of_nonneg_right p1 (by omega)
  have b3 := sg_mul hsg (s.pos * gW sg q i - gS sg q i)
  have a3 := pcells_at q i s hs
  have a4 : i * 4 + 4 ≤ q.length * 4 := by omega
  obtain ⟨e1, e2⟩ := g_succ (sg := sg) hs
  simp only [sc] at a3
  by_cases hc : sg * (s.pos * gW sg q i - gS sg q i) > 0
  · rw [if_pos hc] at e1 e2
    rw [show s2 sg q (i + 1) = ([(39, .int .i64 (i + 1 : Nat)), (38, .int .i64 q.length), (37, .ref 15 0 q.length q.length (q.length * 4) 4 false), (7, .int .i64 (gW sg q i + (s.most - s.least))), (6, .int .i64 (gS sg q i + (s.most - s.least) * s.pos)), (4, .ptr 4 0 2), (3, .ptr 3 0 1)], sH sg q) by simp only [s2, e1, e2]]
    simp (disch := omega) only [seqX_normal, bindR_some, regX_some, condX_bool, blockX_normal, run_nil, run_cons, fget_cons', fput_cons', forget_nil, forget_cons', hget_nil', hget_cons', hset_cons', gcM_n, gcM_c, stp, opBox, just, Rd.bind, Rd.run, Rd.opt, upds, acells, zeroCells, tsz, rdCells, fieldOf, aFieldAddr, aLoad, aStore, opStore, fresh, aIndexAddr, aNum, aBin, aInt, putC, Nat.reduceAdd, Nat.reduceLT, Nat.reduceBEq, Nat.reduceEqDiff, Nat.reduceLeDiff, ↓reduceIte, reduceCtorEq, liveBlk_eq, Nat.zero_add, List.nil_append, decide_true, frz, putD_some, putD_none, and_true, Int.natCast_nonneg, Int.ofNat_lt, Int.toNat_natCast, snaps, snap, List.append_nil, List.elem_cons, List.elem_nil, List.length_cons, List.length_nil, List.getElem?_cons_zero, List.getElem?_cons_succ, List.set_cons_zero, List.set_cons_succ, T_3, T_22, T_45, x58_33, r58_11_l, s58_11_0, x58_36, x58_37, x58_35, x58_41, r58_12_l, s58_12_0, s58_12_1, s58_12_2, s58_12_3, x58_43, r58_13_l, s58_13_0, s58_13_1, s58_13_2, s58_13_3, s58_13_4, s58_13_5, s58_13_6, s58_13_7, s58_13_8, x58_46, r58_14_l, s58_14_0, s58_14_1, s58_14_2, s58_14_3, s58_14_4, s58_14_5, s58_14_6, s58_14_7, s58_14_8, s58_14_9, s58_14_10, x58_47, r58_15_l, s58_15_0, s58_15_1, s58_15_2, s58_15_3, s58_15_4, s58_15_5, s58_15_6, s58_15_7, x58_45, x58_48, x58_44, x58_42, x58_40, x58_39, x58_49, r58_16_l, s58_16_0, s58_16_1, x58_38, x58_34, x58_32, s2, sH, hi, a3, a4, pcells_length, wrp64, hc, wrp_succ (show i < 1000000 by omega)]
    exact ⟨_, rfl, rfl⟩
  · rw [if_neg hc] at e1 e2
    rw [show s2 sg q (i + 1) = ([(39, .int .i64 (i + 1 : Nat)), (38, .int .i64 q.length), (37, .ref 15 0 q.length q.length (q.length * 4) 4 false), (7, .int .i64 (gW sg q i)), (6, .int .i64 (gS sg q i)), (4, .ptr 4 0 2), (3, .ptr 3 0 1)], sH sg q) by simp only [s2, e1, e2]]
    simp (disch := omega) only [seqX_normal, bindR_some, regX_some, condX_bool, blockX_normal, run_nil, run_cons, fget_cons', fput_cons', forget_nil, forget_cons', hget_nil', hget_cons', hset_cons', gcM_n, gcM_c, stp, opBox, just, Rd.bind, Rd.run, Rd.opt, upds, acells, zeroCells, tsz, rdCells, fieldOf, aFieldAddr, aLoad, aStore, opStore, fresh, aIndexAddr, aNum, aBin, aInt, putC, Nat.reduceAdd, Nat.reduceLT, Nat.reduceBEq, Nat.reduceEqDiff, Nat.reduceLeDiff, ↓reduceIte, reduceCtorEq, liveBlk_eq, Nat.zero_add, List.nil_append, decide_true, decide_false, frz, putD_some, putD_none, and_true, Int.natCast_nonneg, Int.ofNat_lt, Int.toNat_natCast, snaps, snap, List.append_nil, List.elem_cons, List.elem_nil, List.length_cons, List.length_nil, List.getElem?_cons_zero, List.getElem?_cons_succ, List.set_cons_zero, List.set_cons_succ, T_3, T_22, T_45, x58_33, r58_11_l, s58_11_0, x58_36, x58_37, x58_35, x58_41, r58_12_l, s58_12_0, s58_12_1, s58_12_2, s58_12_3, x58_43, r58_13_l, s58_13_0, s58_13_1, s58_13_2, s58_13_3, s58_13_4, s58_13_5, s58_13_6, s58_13_7, s58_13_8, x58_46, r58_14_l, s58_14_0, s58_14_1, s58_14_2, s58_14_3, s58_14_4, s58_14_5, s58_14_6, s58_14_7, s58_14_8, s58_14_9, s58_14_10, x58_47, r58_15_l, s58_15_0, s58_15_1, s58_15_2, s58_15_3, s58_15_4, s58_15_5, s58_15_6, s58_15_7, x58_45, x58_48, x58_44, x58_42, x58_40, x58_39, x58_49, r58_16_l, s58_16_0, s58_16_1, x58_38, x58_34, x58_32, s2, sH, hi, a3, a4, pcells_length, wrp64, hc, wrp_succ (show i < 1000000 by omega)]
    exact ⟨_, rfl, rfl⟩
theorem s2_loop {C : Callee} {sg : Int} (hsg : sg = 1 ∨ sg = -1) {q : List Stone} (h : FitsL q) (h5 : q.length ≤ 5) :
    iterA (execA E C (fg 58) 0 73 [] 1000 c58_32) (headA []) 1000 (s2 sg q 0) = some (.exit 2, ((40, .bool false) :: (s2 sg q q.length).1, sH sg q)) := by
  refine iter_all (f := execA E C (fg 58) 0 73 [] 1000 c58_32) (hd := headA []) (s2 sg q) q.length 1000 0 _ (by rfl) (by omega) (fun i _ hi => s2_go hsg h h5 (by omega)) ?_ (by simp)
  rw [Nat.zero_add]
  simp only [seqX_normal, seqX_exit, bindR_some, regX_some, condX_bool, run_nil, run_cons, fget_cons', fput_cons', forget_nil, forget_cons', gcM_n, stp, just, Rd.bind, Rd.run, Rd.opt, upds, aBin, aInt, Nat.reduceEqDiff, Nat.reduceLeDiff, ↓reduceIte, decide_false, putD_some, List.elem_nil, x58_33, r58_11_l, s58_11_0, x58_36, x58_37, x58_35, x58_34, x58_32, s2, sH, Int.lt_irrefl, decide_false, Bool.false_eq_true]
theorem fits_perm {p q : List Stone} (h : p.Perm q) (hq : FitsL q) : FitsL p := fun k s hs => by
  have := h.mem_iff.1 (List.mem_of_getElem? hs)
  obtain ⟨j, hj⟩ := List.mem_iff_getElem?.1 this
  exact hq j s hj
theorem fits_drop {l : List Stone} (h : FitsL l) (k : Nat) : FitsL (l.drop k) := fun i s hs => by
  rw [List.getElem?_drop] at hs
  exact h _ s hs
/-- A length's number of bits is known. -/
def LenOk (C : Callee) : Prop := ∀ n : Nat, 1 ≤ n → n ≤ 5 → ∃ m, ∀ (site : Nat → Nat) seen, aBack site true seen (thaw C 95 [.int .u64 n] [] 0) = .pure (.int .i64 m, [])
theorem sp_eq {sg : Int} {q : List Stone} : gS sg (srt sg q) (srt sg q).length = spS sg q ∧ gW sg (srt sg q) (srt sg q).length = spW sg q := by
  simp only [gS, gW, smS, smW, List.take_length, spS, spW, and_self]
theorem spanf_run {d : Nat} {l : List Stone} {ex : Bool} (h : OkP l) {k : Nat} (hk : k < l.length) {sg : Int} (hsg : sg = 1 ∨ sg = -1) (hL : LenOk (callA E fg 1000 (d + 3))) :
    rsOf (callA E fg 1000 (d + 5) 58 [.int .i64 sg, .iptr [.imm (pcells l) l.length ex] 0, .iptr [.int .i64 k] 0] [] 0) = some (.agg (frc (rd (spS sg (l.drop k)) (spW sg (l.drop k))))) := by
  change rsOf (bodyA E (callA E fg 1000 (d + 4)) fg 1000 58 _ _ _) = _
  have h5 := h.le
  have hq : (l.drop k).length = l.length - k := List.length_drop
  have hfd : FitsL (l.drop k) := fits_drop h.fits k
  obtain ⟨m, hm⟩ := hL (l.drop k).length (by omega) (by omega)
  have hpos : Pos (l.drop k) := fun i x hx => by obtain ⟨_, _, p1, p2, _, _, _⟩ := hfd i x hx; exact ⟨p1, p2⟩
  have hcl := fun (site : Nat → Nat) seen (ex : Bool) => clone_call (d := d + 3) (site := site) (seen := seen) (ex := ex) (l := l.drop k) (by omega) (by omega)
  have hs := fun B => sort_run (d := d) (B := B) (m := m) hsg (l := l.drop k) (by omega) (by omega) hpos hm
  obtain ⟨hp, _⟩ := srt_perm sg (l := l.drop k) (by omega)
  have hsl : (srt sg (l.drop k)).length = (l.drop k).length := srt_length ..
  have hfs := fits_perm hp hfd
  have l1 := s1_loop (C := callA E fg 1000 (d + 4)) (sg := sg) hfs (by omega)
  have l2 := s2_loop (C := callA E fg 1000 (d + 4)) hsg hfs (by omega)
  obtain ⟨b1, b2, b3, b4⟩ := g_b (sg := sg) hfs ⟨by omega, by omega⟩ (srt sg (l.drop k)).length (Nat.le_refl _)
  have z1 : smS (srt sg (l.drop k)) 0 = 0 := by simp [smS, sumS]
  have z2 : smW (srt sg (l.drop k)) 0 = 0 := by simp [smW, sumS]
  have z3 : gS sg (srt sg (l.drop k)) 0 = smS (srt sg (l.drop k)) (srt sg (l.drop k)).length := by simp [gS, grd]
  have z4 : gW sg (srt sg (l.drop k)) 0 = smW (srt sg (l.drop k)) (srt sg (l.drop k)).length := by simp [gW, grd]
  obtain ⟨e1, e2⟩ := sp_eq (sg := sg) (q := l.drop k)
  rw [e1] at b3 b4
  rw [e2] at b1 b2 b3 b4
  have hr := fun (site : Nat → Nat) seen => reduced_call (d := d + 3) (site := site) (seen := seen) (num := spS sg (l.drop k)) (den := spW sg (l.drop k)) (by omega) (by omega)
  have f1 : gS sg (srt sg (l.drop k)) (l.length - k) = spS sg (l.drop k) := by rw [← e1, hsl, hq]
  have f2 : gW sg (srt sg (l.drop k)) (l.length - k) = spW sg (l.drop k) := by rw [← e2, hsl, hq]
  have hw : List.take ((l.length - k) * 4) (List.drop (k * 4) (pcells l)) = pcells (l.drop k) := window_pc l k
  simp only [s1, s2, sH, z1, z2, z3, z4, hsl, cl0] at l1 l2 hs
  rw [hq] at *
  have hkl : k ≤ l.length := by omega
  simp (disch := omega) only [blockX_exit, bodyX_ret, run_nil, run_cons, fget_cons', fput_cons', forget_nil, forget_cons', hget_nil', hget_cons', hset_nil', hset_cons', frame0, gcM_n, gcM_c, stp, opBox, just, Rd.bind, Rd.run, Rd.opt, upds, acells, zeroCells, tsz, rdCells, aLoad, aStore, opStore, resA, resL, fresh, aNum, aLen, aBuiltin, putC, Nat.reduceAdd, Nat.reduceMul, Nat.reduceBEq, Nat.reduceEqDiff, Nat.reduceLeDiff, ↓reduceIte, reduceCtorEq, liveBlk_eq, Nat.zero_add, List.nil_append, List.getElem?_toArray, Bool.and_true, decide_true, window, putD_some, putD_none, and_true, true_and, Int.natCast_nonneg, Int.toNat_natCast, mutX, aCall, snaps, List.append_nil, Option.map_some, List.elem_cons, List.elem_nil, List.length_cons, List.length_nil, List.getElem?_cons_zero, List.drop_zero, List.take_succ_cons, List.take_nil, List.set_cons_zero, List.set_cons_succ, frz_nil, seqN, bindN, regN, snap_int, snap_imm, aSlice, aBounds, bMax, bHigh, bLow, back1_r, Nat.le_refl, Nat.zero_mul, List.not_mem_nil, beq_self_eq_true, Bool.false_eq_true, T_3, T_22, T_45, T_27, x58_1, r58_0_l, s58_0_0, s58_0_1, x58_3, r58_1_l, s58_1_0, s58_1_1, s58_1_2, s58_1_3, s58_1_4, x58_5, r58_2_l, s58_2_0, s58_2_1, s58_2_2, x58_7, r58_3_l, s58_3_0, s58_3_1, x58_10, r58_4_l, s58_4_0, s58_4_1, s58_4_2, x58_12, x58_11, x58_9, x58_29, r58_10_l, s58_10_0, s58_10_1, s58_10_2, x58_31, x58_30, x58_28, x58_51, r58_17_l, s58_17_0, s58_17_1, s58_17_2, s58_17_3, x58_52, x58_50, x58_27, x58_8, x58_6, x58_4, x58_2, x58_0, b_58, hcl, pcells_length, hw, if_pos, hs, l1, l2, hr, f1, f2, frc, rd]
theorem spanf_call {d : Nat} {site : Nat → Nat} {l : List Stone} {ex : Bool} (h : OkP l) {k : Nat} (hk : k < l.length) {sg : Int} (hsg : sg = 1 ∨ sg = -1) (hL : LenOk (callA E fg 1000 (d + 3))) (seen : List Nat) :
    aBack site true seen (thaw (callA E fg 1000 (d + 5)) 58 [.int .i64 sg, .iptr [.imm (pcells l) l.length ex] 0, .iptr [.int .i64 k] 0] [] 0) = .pure (.agg (frc (rd (spS sg (l.drop k)) (spW sg (l.drop k)))), []) :=
  aBack_frac (rs_ex (spanf_run h hk hsg hL))
theorem spanf_pure (caps args : List AV) : mutV E (.clo 58 caps) args = none := rfl
/-- An end of a span. -/
def spF (sg : Int) (l : List Stone) (z : Int) : Fr := if foundE l z = 0 then rd (spS sg (l.drop z.toNat)) (spW sg (l.drop z.toNat)) else ⟨0, 0⟩
theorem span_run {d : Nat} {a : AV} {l : List Stone} (ha : IsP a l) (z : Int) (hL : LenOk (callA E fg 1000 (d + 3))) :
    rsOf (callA E fg 1000 (d + 6) 12 [a, .int .i64 z] [] 0) = some (.tup [.agg (frc (spF (-1) l z)), .agg (frc (spF 1 l z)), .int .i64 (foundE l z)]) := by
  change rsOf (bodyA E (callA E fg 1000 (d + 5)) fg 1000 12 _ _ _) = _
  have cf := fun (site : Nat → Nat) seen => found_call (d := d + 2) (site := site) (seen := seen) ha z
  by_cases h0 : foundE l z = 0
  · obtain ⟨ok, z0, zl⟩ := found_zero.1 h0
    obtain ⟨ex, rfl⟩ := isP_imm ha ok.ne
    have hz : ((z.toNat : Nat) : Int) = z := by omega
    have s1 := fun (site : Nat → Nat) seen => spanf_call (d := d) (site := site) (ex := ex) ok (k := z.toNat) (by omega) (sg := 1) (.inl rfl) hL seen
    have s2 := fun (site : Nat → Nat) seen => spanf_call (d := d) (site := site) (ex := ex) ok (k := z.toNat) (by omega) (sg := -1) (.inr rfl) hL seen
    rw [hz] at s1 s2
    simp only [frc] at s1 s2
    simp only [spF, h0, if_true, frc]
    simp (disch := omega) only [condX_bool, bodyX_ret, run_nil, run_cons, fget_cons', fput_cons', forget_nil, forget_cons', hget_nil', hget_cons', hset_nil', hset_cons', frame0, gcM_c, stp, opBox, justO, just, Rd.bind, Rd.run, Rd.opt, upds, acells, zeroCells, tsz, rdCells, aLoad, aStore, opStore, resA, resL, fresh, aBin, aInt, putC, Nat.reduceAdd, Nat.reduceMul, Nat.reduceBEq, Nat.reduceEqDiff, Nat.reduceLeDiff, Int.reduceNeg, ↓reduceIte, reduceCtorEq, liveBlk_eq, Nat.zero_add, List.nil_append, partsOf, fillA, putD_some, putD_none, and_true, aCall, snaps, List.append_nil, Option.map_some, List.elem_cons, List.elem_nil, List.length_cons, List.length_nil, List.getElem?_cons_zero, List.drop_zero, List.take_succ_cons, List.take_nil, List.set_cons_zero, List.set_cons_succ, frz_nil, seqN, bindN, regN, snap_int, snap_imm, snap_ptr', aBuild, opCallV, List.cons_append, Nat.le_refl, List.not_mem_nil, beq_self_eq_true, bne_self_eq_false, Bool.false_eq_true, T_3, T_22, T_27, x12_1, r12_0_l, s12_0_0, s12_0_1, s12_0_2, s12_0_3, s12_0_4, x12_4, r12_1_l, s12_1_0, s12_1_1, s12_1_2, s12_1_3, x12_6, r12_2_l, s12_2_0, s12_2_1, x12_9, r12_3_l, s12_3_0, s12_3_1, s12_3_2, s12_3_3, s12_3_4, s12_3_5, x12_10, x12_8, x12_11, x12_7, x12_5, x12_3, x12_13, r12_4_l, s12_4_0, s12_4_1, x12_15, r12_5_l, s12_5_0, s12_5_1, s12_5_2, s12_5_3, s12_5_4, s12_5_5, s12_5_6, x12_16, x12_14, x12_12, x12_2, x12_0, b_12, cf, h0, callV_eq (spanf_pure _ _), fi_58, s1, s2, beq_self_eq_true, putC]
  · have e0 : frc ⟨0, 0⟩ = [.int .i64 0, .int .i64 0] := rfl
    rcases ha with ⟨rfl, rfl⟩ | ⟨ex, rfl⟩
    all_goals simp only [spF, h0, if_false, e0]
    all_goals simp (disch := omega) only [seqX_ret, condX_bool, bodyX_ret, run_nil, run_cons, fget_cons', fput_cons', forget_nil, forget_cons', hget_nil', hget_cons', hset_nil', hset_cons', frame0, gcM_c, stp, opBox, justO, just, Rd.bind, Rd.run, Rd.opt, upds, acells, zeroCells, tsz, rdCells, aLoad, aStore, opStore, resA, resL, fresh, aBin, aInt, putC, Nat.reduceAdd, Nat.reduceBEq, Nat.reduceEqDiff, Nat.reduceLeDiff, ↓reduceIte, reduceCtorEq, liveBlk_eq, Nat.zero_add, bne_iff_ne, ne_eq, List.nil_append, not_false_eq_true, partsOf, fillA, putD_some, putD_none, and_true, aCall, snaps, List.append_nil, Option.map_some, List.elem_cons, List.elem_nil, List.length_cons, List.length_nil, List.getElem?_cons_zero, List.drop_zero, List.take_succ_cons, List.take_nil, List.set_cons_zero, List.set_cons_succ, frz_nil, seqN, bindN, regN, snap_int, snap_nilsl, snap_imm, aBuild, Nat.le_refl, List.not_mem_nil, beq_self_eq_true, Bool.false_eq_true, T_3, T_22, T_27, x12_1, r12_0_l, s12_0_0, s12_0_1, s12_0_2, s12_0_3, s12_0_4, x12_4, r12_1_l, s12_1_0, s12_1_1, s12_1_2, s12_1_3, x12_6, r12_2_l, s12_2_0, s12_2_1, x12_9, r12_3_l, s12_3_0, s12_3_1, s12_3_2, s12_3_3, s12_3_4, s12_3_5, x12_10, x12_8, x12_11, x12_7, x12_5, x12_3, x12_2, x12_0, b_12, cf, h0, putC, beq_self_eq_true]
theorem aBack_span {C : Callee} {site : Nat → Nat} {seen : List Nat} {f : FuncId} {args : List AV} {a b e : Int} {a' b' : Int} (h : ∃ H', C f args [] 0 = some (.tup [.agg [.int .i64 a, .int .i64 b], .agg [.int .i64 a', .int .i64 b'], .int .i64 e], H')) :
    aBack site true seen (thaw C f args [] 0) = .pure (.tup [.agg [.int .i64 a, .int .i64 b], .agg [.int .i64 a', .int .i64 b'], .int .i64 e], []) := by
  obtain ⟨H', h⟩ := h; exact aBack_plain h rfl (fun _ => rfl) rfl
theorem span_call {d : Nat} {site : Nat → Nat} {seen : List Nat} {a : AV} {l : List Stone} (ha : IsP a l) (z : Int) (hL : LenOk (callA E fg 1000 (d + 3))) :
    aBack site true seen (thaw (callA E fg 1000 (d + 6)) 12 [a, .int .i64 z] [] 0) = .pure (.tup [.agg (frc (spF (-1) l z)), .agg (frc (spF 1 l z)), .int .i64 (foundE l z)], []) :=
  aBack_span (rs_ex (span_run ha z hL))
end Go.AM.Ytmhbnflnlglljaa
end

section
namespace Go.AM.Ytmhbnflnlglljaa
open Go Go.AM
set_option maxRecDepth 100000
set_option maxHeartbeats 4000000
abbrev coS (a b : Nat) : St := ([(1, .int .i64 b), (0, .int .i64 a)], [])
theorem co_go {C : Callee} {a b : Nat} (hb : b ≠ 0) (h2 : b < 9223372036854775808) :
    ∃ s', execA E C (fg 83) 0 20 [] 1000 c83_7 (coS a b) = some (.normal, s') ∧ headA [] s' = coS b (a % b) := by
  have hn : ¬ (b : Int) = 0 := by omega
  have ht : (a : Int).tmod b = ((a % b : Nat) : Int) := by rw [Int.tmod_eq_emod_of_nonneg (by omega)]; omega
  have hlt := Nat.mod_lt a (Nat.pos_of_ne_zero hb)
  have w : wrp .i64 ((a % b : Nat) : Int) = ((a % b : Nat) : Int) := wrp64 (by omega)
  simp only [seqX_normal, bindR_some, regX_some, condX_bool, blockX_normal, Bool.not_true, Bool.not_false, run_nil, run_cons, fget_cons', fput_cons', forget_nil, forget_cons', gcM_c, stp, just, Rd.bind, Rd.run, Rd.opt, upds, aBin, aInt, Nat.reduceAdd, Nat.reduceBEq, Nat.reduceEqDiff, Nat.reduceLeDiff, ↓reduceIte, reduceCtorEq, Nat.zero_add, bne_iff_ne, ne_eq, rtX_some, addT_some, drX_some, runT_nil, runT_cons, neat_eq, descF_nil', descF_cons', ascH_nil', stpT, Rd.foot, writing, touching, Tr.empty, dynPairs, List.isEmpty_nil, List.map_nil, Bool.not_false, Bool.not_true, Bool.or_true, Bool.or_false, Bool.and_self, decide_true, not_false_eq_true, putD_some, List.elem_cons, List.elem_nil, x83_9, r83_2_l, s83_2_0, s83_2_1, x83_11, x83_12, x83_10, x83_8, x83_14, r83_3_l, r83_3_dr, r83_3_an, s83_3_0, s83_3_1, s83_3_2, s83_3_3, s83_3_4, s83_3_5, x83_13, x83_7, coS, hn, ht]
  exact ⟨_, rfl, by simp only [headA_nil]⟩
abbrev coE (a : Nat) : St := ([(14, .bool false), (1, .int .i64 0), (0, .int .i64 a)], [])
theorem co_stop {C : Callee} {a : Nat} : execA E C (fg 83) 0 20 [] 1000 c83_7 (coS a 0) = some (.exit 0, coE a) := by
  simp only [seqX_normal, seqX_exit, bindR_some, regX_some, condX_bool, run_nil, run_cons, fget_cons', fput_cons', forget_nil, forget_cons', gcM_c, stp, just, Rd.bind, Rd.run, Rd.opt, upds, aBin, aInt, Nat.reduceBEq, Nat.reduceEqDiff, Nat.reduceLeDiff, ↓reduceIte, reduceCtorEq, putD_some, List.elem_cons, List.elem_nil, x83_9, r83_2_l, s83_2_0, s83_2_1, x83_11, x83_12, x83_10, x83_8, x83_7, coS, coE, Int.natCast_zero, bne_self_eq_false]
theorem co_loop {C : Callee} : ∀ (m a b F : Nat) (s : St), headA [] s = coS a b → b < 2 ^ m → m ≤ 62 → 2 * m < F →
    iterA (execA E C (fg 83) 0 20 [] 1000 c83_7) (headA []) F s = some (.exit 0, coE (Nat.gcd a b)) := by
  intro m
  induction m with
  | zero =>
    intro a b F s hs hb hm hF
    obtain ⟨F, rfl⟩ : ∃ G, F = G + 1 := ⟨F - 1, by omega⟩
    obtain rfl : b = 0 := by omega
    rw [iterA_succ, hs, co_stop, seqX_exit, Nat.gcd_zero_right]
  | succ m ih =>
    intro a b F s hs hb hm hF
    obtain ⟨F, rfl⟩ : ∃ G, F = G + 2 := ⟨F - 2, by omega⟩
    have hpow : 2 ^ (m + 1) ≤ 2 ^ 62 := Nat.pow_le_pow_right (by omega) hm
    have h62 : (2 : Nat) ^ 62 < 9223372036854775808 := by decide
    have hps : 2 ^ (m + 1) = 2 * 2 ^ m := by rw [Nat.pow_succ]; omega
    by_cases h0 : b = 0
    · subst h0
      rw [iterA_succ, hs, co_stop, seqX_exit, Nat.gcd_zero_right]
    · obtain ⟨s1, e1, e2⟩ := co_go (C := C) (a := a) h0 (by omega)
      have hlt := Nat.mod_lt a (Nat.pos_of_ne_zero h0)
      have hg : Nat.gcd a b = Nat.gcd b (a % b) := by rw [Nat.gcd_comm a b, Nat.gcd_rec, Nat.gcd_comm]
      rw [iterA_succ, hs, e1, seqN, iterA_succ, e2, hg]
      by_cases h1 : a % b = 0
      · rw [h1, co_stop, seqX_exit, Nat.gcd_zero_right]
      · obtain ⟨s2, f1, f2⟩ := co_go (C := C) (a := b) h1 (by omega)
        have hlt2 := Nat.mod_lt b (Nat.pos_of_ne_zero h1)
        have hg2 : Nat.gcd b (a % b) = Nat.gcd (a % b) (b % (a % b)) := by rw [Nat.gcd_comm b (a % b), Nat.gcd_rec, Nat.gcd_comm]
        have hdm := Nat.div_add_mod b (a % b)
        have hq : 1 ≤ b / (a % b) := Nat.div_pos (by omega) (by omega)
        have hmul : a % b ≤ (a % b) * (b / (a % b)) := Nat.le_mul_of_pos_right _ hq
        rw [f1, seqN, hg2]
        exact ih (a % b) (b % (a % b)) F s2 f2 (by omega) (by omega) (by omega)
theorem common_run {C : Callee} {num den : Int} (h1 : -4611686018427387903 ≤ num ∧ num ≤ 4611686018427387903) (h2 : -4611686018427387903 ≤ den ∧ den ≤ 4611686018427387903) :
    rsOf (bodyA E C fg 1000 83 [.int .i64 num, .int .i64 den] [] 0) = some (.int .i64 (gcdI num den)) := by
  have h62 : (2 : Nat) ^ 62 = 4611686018427387904 := by decide
  have hl := co_loop (C := C) 62 num.natAbs den.natAbs 1000 (coS num.natAbs den.natAbs) rfl (by omega) (by omega) (by omega)
  have hmax : (if -num > num then -num else num) = (num.natAbs : Int) := by split <;> omega
  have hmax2 : (if -den > den then -den else den) = (den.natAbs : Int) := by split <;> omega
  have w1 : wrp .i64 (0 - num) = -num := by rw [wrp64 (by omega)]; omega
  have w2 : wrp .i64 (0 - den) = -den := by rw [wrp64 (by omega)]; omega
  have hg : Nat.gcd num.natAbs den.natAbs = gcdI num den := rfl
  simp only [hg, coE, coS] at hl
  simp only [seqX_normal, bindR_some, regX_some, blockX_exit, bodyX_ret, run_nil, run_cons, fget_cons', fput_cons', forget_nil, forget_cons', frame0, gcM_c, stp, justO, Rd.run, upds, resA, resL, aBuiltin, aMax, Nat.reduceBEq, Nat.reduceEqDiff, Nat.reduceLeDiff, ↓reduceIte, reduceCtorEq, Nat.zero_add, aUn, putD_some, Option.map_some, List.elem_cons, List.elem_nil, x83_1, r83_0_l, s83_0_0, x83_3, r83_1_l, s83_1_0, s83_1_1, s83_1_2, s83_1_3, s83_1_4, s83_1_5, s83_1_6, s83_1_7, s83_1_8, s83_1_9, x83_6, x83_5, x83_16, r83_4_l, s83_4_0, s83_4_1, x83_17, x83_15, x83_4, x83_2, x83_0, b_83, w1, w2, hmax, hmax2, hl]
theorem common_call {d : Nat} {site : Nat → Nat} {seen : List Nat} {num den : Int} (h1 : -4611686018427387903 ≤ num ∧ num ≤ 4611686018427387903) (h2 : -4611686018427387903 ≤ den ∧ den ≤ 4611686018427387903) :
    aBack site true seen (thaw (callA E fg 1000 (d + 1)) 83 [.int .i64 num, .int .i64 den] [] 0) = .pure (.int .i64 (gcdI num den), []) :=
  aBack_int (rs_ex (common_run h1 h2))
theorem lfrac_run {C : Callee} {a b : Int} : rsOf (bodyA E C fg 1000 40 [.int .i64 a, .int .i64 b] [] 0) = some (.agg [.int .i64 a, .int .i64 b]) := by
  simp only [seqX_normal, bindR_some, regX_some, bodyX_ret, run_nil, run_cons, fget_cons', fput_cons', forget_nil, forget_cons', hget_nil', hget_cons', hset_nil', hset_cons', frame0, gcM_n, gcM_c, stp, opBox, justO, Rd.bind, Rd.run, Rd.opt, upds, acells, zeroCells, tsz, rdCells, aLoad, aStore, opStore, resA, resL, fresh, putC, evO, Nat.reduceAdd, Nat.reduceGT, Nat.reduceBEq, Nat.reduceEqDiff, Nat.reduceLeDiff, ↓reduceIte, reduceCtorEq, liveBlk_eq, Nat.zero_add, ne_eq, List.nil_append, not_true_eq_false, or_self, partsOf, fillA, frz, putD_some, putD_none, and_true, snaps, snap, List.append_nil, Option.map_some, List.elem_cons, List.elem_nil, List.length_cons, List.length_nil, List.getElem?_cons_zero, List.getElem?_cons_succ, List.drop_zero, List.take_succ_cons, List.take_nil, List.set_cons_zero, List.set_cons_succ, T_27, x40_1, r40_0_l, s40_0_0, x40_3, r40_1_l, s40_1_0, s40_1_1, s40_1_2, s40_1_3, x40_4, x40_2, x40_0, b_40, aBuild, placeF, fillA]
theorem lfrac_call {d : Nat} {site : Nat → Nat} {seen : List Nat} {a b : Int} :
    aBack site true seen (thaw (callA E fg 1000 (d + 1)) 40 [.int .i64 a, .int .i64 b] [] 0) = .pure (.agg [.int .i64 a, .int .i64 b], []) :=
  aBack_frac (rs_ex (lfrac_run))
theorem rdN_b {num den : Int} (hd : 0 < den) : (rdN num den).natAbs ≤ num.natAbs := by
  obtain ⟨m1, _⟩ := rd_mul num den
  have hg := gcdI_pos (num := num) hd
  have := nat_le_mul (rdN num den) (show (1 : Int) ≤ gcdI num den by omega)
  rwa [m1] at this
theorem ratio_run {d : Nat} {num den : Int} (h1 : -4611686018427387903 ≤ num ∧ num ≤ 4611686018427387903) (h2 : 0 < den ∧ den ≤ 4611686018427387903) :
    rsOf (callA E fg 1000 (d + 2) 35 [.int .i64 num, .int .i64 den] [] 0) = some (.agg (frc (rd num den))) := by
  change rsOf (bodyA E (callA E fg 1000 (d + 1)) fg 1000 35 _ _ _) = _
  have hc := fun (site : Nat → Nat) seen => common_call (d := d) (site := site) (seen := seen) h1 ⟨by omega, h2.2⟩
  have gp := gcdI_pos (num := num) h2.1
  have hz : ¬ (gcdI num den : Int) = 0 := by omega
  have t1 : num.tdiv (gcdI num den : Int) = rdN num den := Int.tdiv_eq_ediv_of_dvd (gcdI_dvd1 ..)
  have t2 : den.tdiv (gcdI num den : Int) = rdD num den := Int.tdiv_eq_ediv_of_dvd (gcdI_dvd2 ..)
  have b1 := rdN_b (num := num) h2.1
  obtain ⟨b2, b3⟩ := rd_den (num := num) h2.1
  simp only [rd] at b2 b3
  have x1 : wrp .i64 (rdN num den) = rdN num den := wrp64 (by omega)
  have x2 : wrp .i64 (rdD num den) = rdD num den := wrp64 (by omega)
  have hf := fun (site : Nat → Nat) seen => lfrac_call (d := d) (site := site) (seen := seen) (a := rdN num den) (b := rdD num den)
  simp only [seqX_normal, bindR_some, regX_some, Bool.not_true, Bool.not_false, bodyX_ret, run_nil, run_cons, fget_cons', fput_cons', forget_nil, forget_cons', hget_nil', hget_cons', hset_nil', hset_cons', frame0, gcM_n, gcM_c, stp, opBox, just, Rd.bind, Rd.run, Rd.opt, upds, acells, zeroCells, tsz, rdCells, aLoad, aStore, opStore, resA, resL, fresh, aBin, aInt, putC, Nat.reduceAdd, Nat.reduceBEq, Nat.reduceEqDiff, Nat.reduceLeDiff, ↓reduceIte, reduceCtorEq, liveBlk_eq, Nat.zero_add, List.nil_append, rtX_some, addT_some, drX_some, runT_nil, runT_cons, neat_eq, descF_nil', descF_cons', ascH_nil', ascH_cons', stpT, Rd.foot, writing, touching, Tr.empty, dynPairs, apartT, disj, List.isEmpty_nil, List.isEmpty_cons, List.map_nil, List.map_cons, Bool.not_false, Bool.not_true, Bool.true_or, Bool.or_true, Bool.or_false, Bool.true_and, Bool.and_self, decide_true, frz, putD_some, putD_none, and_true, aCall, snaps, snap, List.append_nil, Option.map_some, List.elem_cons, List.elem_nil, List.length_cons, List.length_nil, List.drop_zero, List.take_succ_cons, List.take_nil, List.set_cons_zero, List.set_cons_succ, T_27, x35_1, r35_0_l, s35_0_0, x35_3, r35_1_l, s35_1_0, s35_1_1, s35_1_2, s35_1_3, x35_5, r35_2_l, r35_2_dr, r35_2_an, s35_2_0, s35_2_1, s35_2_2, s35_2_3, s35_2_4, s35_2_5, s35_2_6, s35_2_7, x35_6, x35_4, x35_2, x35_0, b_35, hc, hf, hz, t1, t2, x1, x2, frc, rd, List.all_nil]
theorem ratio_call {d : Nat} {site : Nat → Nat} {seen : List Nat} {num den : Int} (h1 : -4611686018427387903 ≤ num ∧ num ≤ 4611686018427387903) (h2 : 0 < den ∧ den ≤ 4611686018427387903) :
    aBack site true seen (thaw (callA E fg 1000 (d + 2)) 35 [.int .i64 num, .int .i64 den] [] 0) = .pure (.agg (frc (rd num den)), []) :=
  aBack_frac (rs_ex (ratio_run h1 h2))
end Go.AM.Ytmhbnflnlglljaa
end

section
namespace Go.AM.Ytmhbnflnlglljaa
open Go Go.AM
set_option maxRecDepth 100000
set_option maxHeartbeats 4000000
structure Fair (f : Fr) : Prop where
  d0 : 0 < f.den
  d1 : f.den < 33554432
  n0 : -68719476736 < f.num
  n1 : f.num < 68719476736
  co : gcdI f.num f.den = 1
theorem fair_run {d : Nat} {f : Fr} (h : Fair f) : rsOf (callA E fg 1000 (d + 2) 33 [.agg (frc f)] [] 0) = some (.bool true) := by
  change rsOf (bodyA E (callA E fg 1000 (d + 1)) fg 1000 33 _ _ _) = _
  obtain ⟨d0, d1, n0, n1, co⟩ := h
  have hc := fun (site : Nat → Nat) seen => common_call (d := d) (site := site) (seen := seen) (num := f.num) (den := f.den) (by omega) (by omega)
  have g1 : f.den > 0 := d0
  have g2 : f.num > -68719476736 := n0
  simp only [co, cl1] at hc
  simp (disch := omega) only [↓gd, fset_cons, bodyX_ret, run_nil, run_cons, fget_cons', fput_cons', forget_nil, forget_cons', hget_nil', hget_cons', hset_nil', frame0, gcM_c, stp, opPick, opBox, just, Rd.bind, Rd.run, Rd.opt, upds, acells, rdCells, fieldOf, aFieldAddr, aLoad, resA, resL, fresh, aBin, aInt, Nat.reduceAdd, Nat.reduceBEq, Nat.reduceEqDiff, Nat.reduceLeDiff, Int.reduceNeg, ↓reduceIte, reduceCtorEq, liveBlk_eq, Nat.zero_add, Nat.add_zero, decide_true, putD_some, aCall, snaps, List.append_nil, Option.map_some, List.elem_cons, List.elem_nil, List.length_cons, List.length_nil, List.getElem?_cons_zero, List.getElem?_cons_succ, seqN, bindN, regN, snap_int, beq_self_eq_true, Bool.false_eq_true, T_3, T_27, x33_1, r33_0_l, s33_0_0, s33_0_1, x33_3, r33_1_l, s33_1_0, s33_1_1, s33_1_2, s33_1_3, s33_1_4, s33_1_5, s33_1_6, s33_1_7, s33_1_8, s33_1_9, s33_1_10, s33_1_11, s33_1_12, s33_1_13, s33_1_14, s33_1_15, s33_1_16, s33_1_17, s33_1_18, s33_1_19, s33_1_20, s33_1_21, s33_1_22, s33_1_23, s33_1_24, s33_1_25, s33_1_26, x33_4, x33_2, x33_0, b_33, frc, g1, d1, g2, n1, hc]
theorem fair_call {d : Nat} {site : Nat → Nat} {seen : List Nat} {f : Fr} (h : Fair f) : aBack site true seen (thaw (callA E fg 1000 (d + 2)) 33 [.agg [.int .i64 f.num, .int .i64 f.den]] [] 0) = .pure (.bool true, []) :=
  aBack_bool (rs_ex (fair_run h))
theorem fair_mul {f g : Fr} (hf : Fair f) (hg : Fair g) : -2305843009213693952 ≤ f.num * g.den ∧ f.num * g.den ≤ 2305843009213693952 := by
  obtain ⟨_, _, n0, n1, _⟩ := hf
  obtain ⟨d0, d1, _, _, _⟩ := hg
  have a1 : f.num * g.den ≤ 68719476736 * g.den := Int.mul_le_mul_of_nonneg_right (by omega) (by omega)
  have a2 : -68719476736 * g.den ≤ f.num * g.den := Int.mul_le_mul_of_nonneg_right (by omega) (by omega)
  omega
theorem below_run {C : Callee} {f g : Fr} (hf : Fair f) (hg : Fair g) : rsOf (bodyA E C fg 1000 39 [.agg (frc f), .agg (frc g)] [] 0) = some (.bool (decide (f.num * g.den < g.num * f.den))) := by
  have a1 := fair_mul hf hg
  have a2 := fair_mul hg hf
  simp (disch := omega) only [bodyX_ret, run_nil, run_cons, fget_cons', fput_cons', forget_nil, forget_cons', hget_nil', hget_cons', hset_nil', hset_cons', frame0, gcM_c, stp, opBox, just, Rd.bind, Rd.run, Rd.opt, upds, acells, rdCells, fieldOf, aFieldAddr, aLoad, resA, resL, fresh, aBin, aInt, Nat.reduceAdd, Nat.reduceBEq, Nat.reduceEqDiff, Nat.reduceLeDiff, ↓reduceIte, reduceCtorEq, liveBlk_eq, Nat.zero_add, Nat.add_zero, putD_some, Option.map_some, List.elem_cons, List.elem_nil, List.length_cons, List.length_nil, List.getElem?_cons_zero, List.getElem?_cons_succ, seqN, bindN, regN, beq_self_eq_true, Bool.false_eq_true, T_3, T_27, x39_1, r39_0_l, s39_0_0, s39_0_1, s39_0_2, x39_3, r39_1_l, s39_1_0, s39_1_1, s39_1_2, s39_1_3, s39_1_4, s39_1_5, s39_1_6, s39_1_7, s39_1_8, s39_1_9, s39_1_10, s39_1_11, x39_4, x39_2, x39_0, b_39, frc, wrp64]
theorem below_call {d : Nat} {site : Nat → Nat} {seen : List Nat} {f g : Fr} (hf : Fair f) (hg : Fair g) : aBack site true seen (thaw (callA E fg 1000 (d + 1)) 39 [.agg [.int .i64 f.num, .int .i64 f.den], .agg [.int .i64 g.num, .int .i64 g.den]] [] 0) = .pure (.bool (decide (f.num * g.den < g.num * f.den)), []) :=
  aBack_bool (rs_ex (below_run hf hg))
end Go.AM.Ytmhbnflnlglljaa
end

section
namespace Go.AM.Ytmhbnflnlglljaa
open Go Go.AM
set_option maxRecDepth 100000
theorem weak_iff {l : List Stone} : ∀ (m k : Nat), weakFrom l k m < 0 ↔ ∀ i, k ≤ i → i < k + m → worstSum l i 1 ≤ 0 ∧ worstSum l i (-1) ≤ 0
  | 0, k => by simp only [weakFrom]; constructor <;> intro h <;> first | (intro i; omega) | omega
  | m + 1, k => by
    have ih := weak_iff (l := l) m (k + 1)
    simp only [weakFrom, mayTip, decide_eq_true_eq]
    split
    · rename_i h
      constructor
      · intro h2; omega
      · intro h2; have := h2 k (Nat.le_refl _) (by omega); omega
    · rename_i h
      rw [ih]
      constructor
      · intro h2 i h3 h4
        by_cases e : i = k
        · subst e; omega
        · exact h2 i (by omega) (by omega)
      · intro h2 i h3 h4; exact h2 i (by omega) (by omega)
theorem weakL_iff {l : List Stone} : weakL l < 0 ↔ ∀ i, i < l.length → worstSum l i 1 ≤ 0 ∧ worstSum l i (-1) ≤ 0 := by
  unfold weakL
  rw [weak_iff]
  constructor
  · intro h i hi; exact h i (by omega) (by omega)
  · intro h i _ hi; exact h i (by omega)
theorem sumF_mono {F G : Nat → Int} {k : Nat} : ∀ m, (∀ i, k ≤ i → i < k + m → F i ≤ G i) → sumF F k m ≤ sumF G k m
  | 0, _ => by simp [sumF]
  | m + 1, h => by
    have := sumF_mono m (fun i h1 h2 => h i h1 (by omega))
    have := h (k + m) (by omega) (by omega)
    simp only [sumF]; omega
/-- The same stones, of which more is known. -/
structure Nrw (l m : List Stone) : Prop where
  len : m.length = l.length
  eq : ∀ (i : Nat) (s t : Stone), l[i]? = some s → m[i]? = some t → t.half = s.half ∧ t.pos = s.pos ∧ s.least ≤ t.least ∧ t.most ≤ s.most ∧ t.least ≤ t.most
theorem Nrw.ok {l m : List Stone} (h : Nrw l m) (ok : OkP l) : OkP m := by
  refine ⟨by rw [h.len]; exact ok.ne, by rw [h.len]; exact ok.le, fun k t ht => ?_⟩
  obtain ⟨s, hs⟩ := at_ex (l := l) (k := k) (by have := at_lt ht; have := h.len; omega)
  obtain ⟨e1, e2, e3, e4, e5⟩ := h.eq k s t hs ht
  obtain ⟨a1, a2, a3, a4, a5, a6, a7⟩ := ok.fits k s hs
  constructor <;> omega
theorem Nrw.getD {l m : List Stone} (h : Nrw l m) {i : Nat} (hi : i < l.length) : (m.getD i default).half = (l.getD i default).half ∧ (m.getD i default).pos = (l.getD i default).pos ∧ (l.getD i default).least ≤ (m.getD i default).least ∧ (m.getD i default).most ≤ (l.getD i default).most := by
  obtain ⟨s, hs⟩ := at_ex hi
  obtain ⟨t, ht⟩ := at_ex (l := m) (k := i) (by rw [h.len]; exact hi)
  obtain ⟨e1, e2, e3, e4, e5⟩ := h.eq i s t hs ht
  simp only [List.getD_eq_getElem?_getD, hs, ht, Option.getD_some]
  exact ⟨e1, e2, e3, e4⟩
theorem Nrw.edges {l m : List Stone} (h : Nrw l m) {k : Nat} (hk : k ≤ l.length) : leftE m k = leftE l k ∧ rightE m k = rightE l k := by
  cases k with
  | zero => exact ⟨rfl, rfl⟩
  | succ k =>
    obtain ⟨e1, e2, _, _⟩ := h.getD (i := k) (by omega)
    simp only [leftE, rightE, e1, e2, and_self]
theorem term_nrw {side r l : Int} {s t : Stone} (e2 : t.pos = s.pos) (e3 : s.least ≤ t.least) (e4 : t.most ≤ s.most) : term side r l t ≤ term side r l s := by
  have hf : far side r l t = far side r l s := by unfold far; rw [e2]
  unfold term wt
  rw [hf]
  split
  · rename_i h; exact Int.mul_le_mul_of_nonneg_right e4 (by omega)
  · rename_i h
    have := Int.mul_le_mul_of_nonneg_right e3 (show 0 ≤ -far side r l s by omega)
    rw [Int.mul_neg, Int.mul_neg] at this
    omega
theorem Nrw.weak {l m : List Stone} (h : Nrw l m) (hw : weakL l < 0) : weakL m < 0 := by
  rw [weakL_iff] at *
  intro i hi
  rw [h.len] at hi
  obtain ⟨e1, e2⟩ := h.edges (k := i) (by omega)
  have key : ∀ side, worstSum m i side ≤ worstSum l i side := by
    intro side
    unfold worstSum
    rw [h.len, e1, e2]
    refine sumF_mono _ fun j h1 h2 => ?_
    obtain ⟨_, f2, f3, f4⟩ := h.getD (i := j) (by omega)
    exact term_nrw f2 f3 f4
  have := hw i hi
  have := key 1
  have := key (-1)
  omega
theorem Nrw.stands {l m : List Stone} (h : Nrw l m) (ok : OkP l) (hs : standsB l = true) : standsB m = true := by
  unfold standsB at *
  rw [if_pos (check_zero.2 ok), decide_eq_true_eq] at hs
  rw [if_pos (check_zero.2 (h.ok ok)), decide_eq_true_eq]
  exact h.weak hs
theorem Nrw.drop {l m : List Stone} (h : Nrw l m) (k : Nat) : Nrw (l.drop k) (m.drop k) := by
  refine ⟨by rw [List.length_drop, List.length_drop, h.len], fun i s t hs ht => ?_⟩
  rw [List.getElem?_drop] at hs ht
  exact h.eq _ s t hs ht
theorem Nrw.truth : ∀ {l m : List Stone} {ws : List Int}, Nrw l m → InB m ws → InB l ws ∧ dotS m ws = dotS l ws ∧ totS m ws = totS l ws
  | [], [], [], _, _ => ⟨trivial, rfl, rfl⟩
  | s :: l, t :: m, w :: ws, h, ⟨⟨h1, h2⟩, h3⟩ => by
    obtain ⟨e1, e2, e3, e4, e5⟩ := h.eq 0 s t rfl rfl
    obtain ⟨a, b, c⟩ := Nrw.truth (l := l) (m := m) (ws := ws) (by simpa using h.drop 1) h3
    refine ⟨⟨⟨by omega, by omega⟩, a⟩, ?_, ?_⟩
    · simp only [dotS, b, e2]
    · simp only [totS, c]
  | [], t :: m, _, h, _ => by have := h.len; simp at this
  | s :: l, [], _, h, _ => by have := h.len; simp at this
  | _, [], _ :: _, _, h => h.elim
  | _, _ :: _, [], _, h => h.elim
theorem frac_le {S W S' W' : Int} (hW : 0 < W) (hW' : 0 < W') (h : S' * W ≤ S * W') : (rd S' W').num * (rd S W).den ≤ (rd S W).num * (rd S' W').den := by
  have c1 := rd_cross (num := S) (den := W)
  have c2 := rd_cross (num := S') (den := W')
  obtain ⟨p1, _⟩ := rd_den (num := S) hW
  obtain ⟨p2, _⟩ := rd_den (num := S') hW'
  generalize rd S W = f at *
  generalize rd S' W' = g at *
  refine Int.le_of_mul_le_mul_right (a := W' * W) ?_ (Int.mul_pos hW' hW)
  calc g.num * f.den * (W' * W) = (g.num * W') * (f.den * W) := by ac_rfl
    _ = (S' * W) * (g.den * f.den) := by rw [c2]; ac_rfl
    _ ≤ (S * W') * (g.den * f.den) := Int.mul_le_mul_of_nonneg_right h (Int.mul_nonneg (by omega) (by omega))
    _ = (S * f.den) * (W' * g.den) := by ac_rfl
    _ = (f.num * W) * (W' * g.den) := by rw [c1]
    _ = f.num * g.den * (W' * W) := by ac_rfl
theorem okl_mem {l : List Stone} (h : FitsL l) : (∀ s ∈ l, 1 ≤ s.least) ∧ (∀ s ∈ l, s.least ≤ s.most) := by
  constructor <;> intro s hs <;> obtain ⟨i, hi⟩ := List.mem_iff_getElem?.1 hs <;> obtain ⟨_, _, _, _, a, b, _⟩ := h i s hi <;> assumption
theorem sp_bound {sg : Int} {q : List Stone} (h : FitsL q) (h0 : 0 < q.length ∧ q.length ≤ 5) : 1 ≤ spW sg q ∧ spW sg q ≤ 85 ∧ -(33554432 * spW sg q) ≤ spS sg q ∧ spS sg q ≤ 33554432 * spW sg q := by
  obtain ⟨hp, _⟩ := srt_perm sg (l := q) h0.1
  have hl := srt_length sg q
  have := g_b (sg := sg) (fits_perm hp h) ⟨by omega, by omega⟩ (srt sg q).length (Nat.le_refl _)
  obtain ⟨e1, e2⟩ := sp_eq (sg := sg) (q := q)
  rw [e1, e2] at this
  omega
theorem sp_le {sg : Int} (hsg : sg = 1 ∨ sg = -1) {q q' : List Stone} (hf : FitsL q) (hf' : FitsL q') (h0 : 0 < q.length) (h0' : 0 < q'.length)
    (ht : ∀ ws, InB q' ws → InB q ws ∧ dotS q' ws = dotS q ws ∧ totS q' ws = totS q ws) : sg * (spS sg q' * spW sg q - spS sg q * spW sg q') ≤ 0 := by
  obtain ⟨a1, a2⟩ := okl_mem hf
  obtain ⟨b1, b2⟩ := okl_mem hf'
  obtain ⟨f, _⟩ := sp_fix hsg h0 a1 a2
  obtain ⟨f', _⟩ := sp_fix hsg h0' b1 b2
  obtain ⟨c1, c2, c3⟩ := ht _ (wsF_in (sg := sg) (S := spS sg q') (W := spW sg q') b2)
  obtain ⟨d1, d2⟩ := fix_truth f'
  have := fix_ext f c1 a2
  rw [← c2, ← c3, d1, d2] at this
  exact this
theorem spF_at {sg : Int} {l : List Stone} (ok : OkP l) {i : Nat} (hi : i < l.length) : spF sg l i = rd (spS sg (l.drop i)) (spW sg (l.drop i)) := by
  rw [spF, if_pos (found_zero.2 ⟨ok, by omega, by omega⟩)]; rfl
theorem spF_fair {sg : Int} {l : List Stone} (ok : OkP l) {i : Nat} (hi : i < l.length) : Fair (spF sg l i) := by
  have hq : (l.drop i).length = l.length - i := List.length_drop
  have := ok.le
  obtain ⟨b1, b2, b3, b4⟩ := sp_bound (sg := sg) (fits_drop ok.fits i) ⟨by omega, by omega⟩
  rw [spF_at ok hi]
  obtain ⟨p1, p2⟩ := rd_den (num := spS sg (l.drop i)) (den := spW sg (l.drop i)) (by omega)
  have p3 := rdN_b (num := spS sg (l.drop i)) (den := spW sg (l.drop i)) (by omega)
  have p4 : (rd (spS sg (l.drop i)) (spW sg (l.drop i))).num = rdN (spS sg (l.drop i)) (spW sg (l.drop i)) := rfl
  exact ⟨p1, by omega, by omega, by omega, rd_coprime (by omega)⟩
/-- Spans become no wider. -/
theorem Nrw.span {l m : List Stone} (h : Nrw l m) (ok : OkP l) {i : Nat} (hi : i < l.length) :
    (spF (-1) l i).num * (spF (-1) m i).den ≤ (spF (-1) m i).num * (spF (-1) l i).den ∧ (spF 1 m i).num * (spF 1 l i).den ≤ (spF 1 l i).num * (spF 1 m i).den := by
  have okm := h.ok ok
  have him : i < m.length := by rw [h.len]; exact hi
  have hq : (l.drop i).length = l.length - i := List.length_drop
  have hq' : (m.drop i).length = m.length - i := List.length_drop
  have a5 := ok.le
  have b5 := okm.le
  have f1 := fits_drop ok.fits i
  have f2 := fits_drop okm.fits i
  have ht := fun ws hw => (h.drop i).truth (ws := ws) hw
  have n1 := sp_le (sg := -1) (.inr rfl) f1 f2 (by omega) (by omega) ht
  have n2 := sp_le (sg := 1) (.inl rfl) f1 f2 (by omega) (by omega) ht
  obtain ⟨x1, _⟩ := sp_bound (sg := 1) f1 ⟨by omega, by omega⟩
  obtain ⟨x2, _⟩ := sp_bound (sg := 1) f2 ⟨by omega, by omega⟩
  obtain ⟨x3, _⟩ := sp_bound (sg := -1) f1 ⟨by omega, by omega⟩
  obtain ⟨x4, _⟩ := sp_bound (sg := -1) f2 ⟨by omega, by omega⟩
  rw [spF_at ok hi, spF_at ok hi, spF_at okm him, spF_at okm him]
  exact ⟨frac_le (by omega) (by omega) (by omega), frac_le (by omega) (by omega) (by omega)⟩
end Go.AM.Ytmhbnflnlglljaa
end

section
namespace Go.AM.Ytmhbnflnlglljaa
open Go Go.AM
set_option maxRecDepth 100000
variable {C : Callee} {B N : Nat} {E0 : AHeap} (φ : AFr) (H : AHeap) (s : St)
noncomputable def c5_0 : Code := kBody Proofs.Try.f5
noncomputable def c5_1 : Code := kL c5_0
noncomputable def r5_0 : Array Oper := kO c5_1
noncomputable def o5_0_0 : Oper := opN r5_0 0
noncomputable def o5_0_1 : Oper := opN r5_0 1
noncomputable def o5_0_2 : Oper := opN r5_0 2
theorem x5_1 : execA E C (fg 5) B 156 E0 N c5_1 s = regX (runA E C B 156 r5_0 r5_0.toList s) (fun s => gcM E0 [0, 1, 4] (forget s.1 [0, 1, 4], s.2)) := x_reg (ops := r5_0) (by rfl) (by rfl) s
theorem r5_0_l : r5_0.toList = [o5_0_0, o5_0_1, o5_0_2] := nrfl rfl
theorem s5_0_0 : stepA E C B 156 r5_0 o5_0_0 (φ, H) = stp (some 2) φ H (opBox (B + 2) (acells (fget φ 0))) := nrfl rfl
theorem s5_0_1 : stepA E C B 156 r5_0 o5_0_1 (φ, H) = stp (some 3) φ H (opBox (B + 3) (acells (fget φ 1))) := nrfl rfl
theorem s5_0_2 : stepA E C B 156 r5_0 o5_0_2 (φ, H) = some (fput φ 4 (.bool false), H) := nrfl rfl
noncomputable def c5_2 : Code := kR c5_0
noncomputable def c5_3 : Code := kL c5_2
noncomputable def r5_1 : Array Oper := kO c5_3
noncomputable def o5_1_0 : Oper := opN r5_1 0
noncomputable def o5_1_1 : Oper := opN r5_1 1
noncomputable def o5_1_2 : Oper := opN r5_1 2
noncomputable def o5_1_3 : Oper := opN r5_1 3
theorem x5_3 : execA E C (fg 5) B 156 E0 N c5_3 s = regX (runA E C B 156 r5_1 r5_1.toList s) (fun s => gcM E0 [2, 21, 22] (forget s.1 [2, 21, 22], s.2)) := x_reg (ops := r5_1) (by rfl) (by rfl) s
theorem r5_1_l : r5_1.toList = [o5_1_0, o5_1_1, o5_1_2, o5_1_3] := nrfl rfl
theorem s5_1_0 : stepA E C B 156 r5_1 o5_1_0 (φ, H) = stp (some 21) φ H (just (aLoad E.T 70 (fget φ 2))) := nrfl rfl
theorem s5_1_1 : stepA E C B 156 r5_1 o5_1_1 (φ, H) = stp (some 22) φ H (aCall C (fun j => B + j * 156 + 22) true 31 [(fget φ 21), (.int .i64 5)]) := nrfl rfl
theorem s5_1_2 : stepA E C B 156 r5_1 o5_1_2 (φ, H) = stp (some 5) φ H (opBox (B + 5) (zeroCells E.T 22)) := nrfl rfl
theorem s5_1_3 : stepA E C B 156 r5_1 o5_1_3 (φ, H) = stp none φ H (opStore E.T 22 (fget φ 5) (fget φ 22)) := nrfl rfl
noncomputable def c5_4 : Code := kR c5_2
noncomputable def c5_5 : Code := kL c5_4
noncomputable def r5_2 : Array Oper := kO c5_5
noncomputable def o5_2_0 : Oper := opN r5_2 0
noncomputable def o5_2_1 : Oper := opN r5_2 1
noncomputable def o5_2_2 : Oper := opN r5_2 2
noncomputable def o5_2_3 : Oper := opN r5_2 3
noncomputable def o5_2_4 : Oper := opN r5_2 4
noncomputable def o5_2_5 : Oper := opN r5_2 5
noncomputable def o5_2_6 : Oper := opN r5_2 6
theorem x5_5 : execA E C (fg 5) B 156 E0 N c5_5 s = regX (runA E C B 156 r5_2 r5_2.toList s) (fun s => gcM E0 [23, 24, 25, 26, 27] (forget s.1 [23, 24, 25, 26, 27], s.2)) := x_reg (ops := r5_2) (by rfl) (by rfl) s
theorem r5_2_l : r5_2.toList = [o5_2_0, o5_2_1, o5_2_2, o5_2_3, o5_2_4, o5_2_5, o5_2_6] := nrfl rfl
theorem s5_2_0 : stepA E C B 156 r5_2 o5_2_0 (φ, H) = stp (some 24) φ H (just (aLoad E.T 22 (fget φ 5))) := nrfl rfl
theorem s5_2_1 : stepA E C B 156 r5_2 o5_2_1 (φ, H) = stp (some 25) φ H (aCall C (fun j => B + j * 156 + 25) true 32 [(fget φ 24)]) := nrfl rfl
theorem s5_2_2 : stepA E C B 156 r5_2 o5_2_2 (φ, H) = some (fput φ 23 (fget φ 25), H) := nrfl rfl
theorem s5_2_3 : stepA E C B 156 r5_2 o5_2_3 (φ, H) = stp (some 26) φ H (opExtract (fget φ 23) 0) := nrfl rfl
theorem s5_2_4 : stepA E C B 156 r5_2 o5_2_4 (φ, H) = stp (some 27) φ H (opExtract (fget φ 23) 1) := nrfl rfl
theorem s5_2_5 : stepA E C B 156 r5_2 o5_2_5 (φ, H) = some (fput φ 6 (fget φ 26), H) := nrfl rfl
theorem s5_2_6 : stepA E C B 156 r5_2 o5_2_6 (φ, H) = some (fput φ 7 (fget φ 27), H) := nrfl rfl
noncomputable def c5_6 : Code := kR c5_4
noncomputable def c5_7 : Code := kL c5_6
noncomputable def r5_3 : Array Oper := kO c5_7
noncomputable def o5_3_0 : Oper := opN r5_3 0
theorem x5_7 : execA E C (fg 5) B 156 E0 N c5_7 s = regX (runA E C B 156 r5_3 r5_3.toList s) (fun s => gcM E0 [] (forget s.1 [], s.2)) := x_reg (ops := r5_3) (by rfl) (by rfl) s
theorem r5_3_l : r5_3.toList = [o5_3_0] := nrfl rfl
theorem s5_3_0 : stepA E C B 156 r5_3 o5_3_0 (φ, H) = some (fput φ 8 (.bool true), H) := nrfl rfl
noncomputable def c5_8 : Code := kR c5_6
noncomputable def c5_9 : Code := kL c5_8
noncomputable def c5_10 : Code := kL c5_9
noncomputable def r5_4 : Array Oper := kO c5_10
noncomputable def o5_4_0 : Oper := opN r5_4 0
noncomputable def o5_4_1 : Oper := opN r5_4 1
noncomputable def o5_4_2 : Oper := opN r5_4 2
theorem x5_10 : execA E C (fg 5) B 156 E0 N c5_10 s = regX (runA E C B 156 r5_4 r5_4.toList s) (fun s => gcM E0 [28] (forget s.1 [28], s.2)) := x_reg (ops := r5_4) (by rfl) (by rfl) s
theorem r5_4_l : r5_4.toList = [o5_4_0, o5_4_1, o5_4_2] := nrfl rfl
theorem s5_4_0 : stepA E C B 156 r5_4 o5_4_0 (φ, H) = stp (some 28) φ H (just (aLoad E.T 22 (fget φ 5))) := nrfl rfl
theorem s5_4_1 : stepA E C B 156 r5_4 o5_4_1 (φ, H) = stp (some 29) φ H (aBuiltin E.T (B + 29) .len #[22] [(fget φ 28)]) := nrfl rfl
theorem s5_4_2 : stepA E C B 156 r5_4 o5_4_2 (φ, H) = some (fput φ 30 (.int .i64 0), H) := nrfl rfl
noncomputable def c5_11 : Code := kR c5_9
noncomputable def c5_12 : Code := kB c5_11
noncomputable def c5_13 : Code := kB c5_12
noncomputable def c5_14 : Code := kL c5_13
noncomputable def r5_5 : Array Oper := kO c5_14
noncomputable def o5_5_0 : Oper := opN r5_5 0
theorem x5_14 : execA E C (fg 5) B 156 E0 N c5_14 s = regX (runA E C B 156 r5_5 r5_5.toList s) (fun s => gcM E0 [] (forget s.1 [], s.2)) := x_reg (ops := r5_5) (by rfl) (by rfl) s
theorem r5_5_l : r5_5.toList = [o5_5_0] := nrfl rfl
theorem s5_5_0 : stepA E C B 156 r5_5 o5_5_0 (φ, H) = stp (some 31) φ H (just (aBin E.T .lss 3 (fget φ 30) (fget φ 29))) := nrfl rfl
noncomputable def c5_15 : Code := kR c5_13
noncomputable def c5_16 : Code := kL c5_15
noncomputable def c5_17 : Code := kT c5_16
theorem x5_17 : execA E C (fg 5) B 156 E0 N c5_17 s = some (.normal, s) := x_skip (by rfl) s
noncomputable def c5_18 : Code := kE c5_16
theorem x5_18 : execA E C (fg 5) B 156 E0 N c5_18 s = some (.exit 0, s) := x_exit (by rfl) s
theorem x5_16 : execA E C (fg 5) B 156 E0 N c5_16 (φ, H) = condX (fget φ 31) (execA E C (fg 5) B 156 E0 N c5_17 (φ, H)) (execA E C (fg 5) B 156 E0 N c5_18 (φ, H)) := x_cond (by rfl) _
noncomputable def c5_19 : Code := kR c5_15
noncomputable def c5_20 : Code := kL c5_19
noncomputable def c5_21 : Code := kB c5_20
noncomputable def c5_22 : Code := kL c5_21
noncomputable def r5_6 : Array Oper := kO c5_22
noncomputable def o5_6_0 : Oper := opN r5_6 0
noncomputable def o5_6_1 : Oper := opN r5_6 1
noncomputable def o5_6_2 : Oper := opN r5_6 2
theorem x5_22 : execA E C (fg 5) B 156 E0 N c5_22 s = regX (runA E C B 156 r5_6 r5_6.toList s) (fun s => gcM E0 [31, 32] (forget s.1 [31, 32], s.2)) := x_reg (ops := r5_6) (by rfl) (by rfl) s
theorem r5_6_l : r5_6.toList = [o5_6_0, o5_6_1, o5_6_2] := nrfl rfl
theorem s5_6_0 : stepA E C B 156 r5_6 o5_6_0 (φ, H) = some (fput φ 32 (fget φ 30), H) := nrfl rfl
theorem s5_6_1 : stepA E C B 156 r5_6 o5_6_1 (φ, H) = stp (some 9) φ H (opBox (B + 9) (zeroCells E.T 3)) := nrfl rfl
theorem s5_6_2 : stepA E C B 156 r5_6 o5_6_2 (φ, H) = stp none φ H (opStore E.T 3 (fget φ 9) (fget φ 32)) := nrfl rfl
noncomputable def c5_23 : Code := kR c5_21
noncomputable def c5_24 : Code := kL c5_23
noncomputable def r5_7 : Array Oper := kO c5_24
noncomputable def o5_7_0 : Oper := opN r5_7 0
noncomputable def o5_7_1 : Oper := opN r5_7 1
noncomputable def o5_7_2 : Oper := opN r5_7 2
noncomputable def o5_7_3 : Oper := opN r5_7 3
noncomputable def o5_7_4 : Oper := opN r5_7 4
noncomputable def o5_7_5 : Oper := opN r5_7 5
noncomputable def o5_7_6 : Oper := opN r5_7 6
noncomputable def o5_7_7 : Oper := opN r5_7 7
noncomputable def o5_7_8 : Oper := opN r5_7 8
noncomputable def o5_7_9 : Oper := opN r5_7 9
noncomputable def o5_7_10 : Oper := opN r5_7 10
noncomputable def o5_7_11 : Oper := opN r5_7 11
theorem x5_24 : execA E C (fg 5) B 156 E0 N c5_24 s = regX (runA E C B 156 r5_7 r5_7.toList s) (fun s => gcM E0 [33, 34, 35, 36, 37, 38, 39] (forget s.1 [33, 34, 35, 36, 37, 38, 39], s.2)) := x_reg (ops := r5_7) (by rfl) (by rfl) s
theorem r5_7_l : r5_7.toList = [o5_7_0, o5_7_1, o5_7_2, o5_7_3, o5_7_4, o5_7_5, o5_7_6, o5_7_7, o5_7_8, o5_7_9, o5_7_10, o5_7_11] := nrfl rfl
theorem s5_7_0 : stepA E C B 156 r5_7 o5_7_0 (φ, H) = stp (some 34) φ H (just (aLoad E.T 22 (fget φ 5))) := nrfl rfl
theorem s5_7_1 : stepA E C B 156 r5_7 o5_7_1 (φ, H) = stp (some 35) φ H (just (aLoad E.T 3 (fget φ 9))) := nrfl rfl
theorem s5_7_2 : stepA E C B 156 r5_7 o5_7_2 (φ, H) = stp (some 36) φ H (aCall C (fun j => B + j * 156 + 36) true 12 [(fget φ 34), (fget φ 35)]) := nrfl rfl
theorem s5_7_3 : stepA E C B 156 r5_7 o5_7_3 (φ, H) = some (fput φ 33 (fget φ 36), H) := nrfl rfl
theorem s5_7_4 : stepA E C B 156 r5_7 o5_7_4 (φ, H) = stp (some 37) φ H (opExtract (fget φ 33) 0) := nrfl rfl
theorem s5_7_5 : stepA E C B 156 r5_7 o5_7_5 (φ, H) = stp (some 38) φ H (opExtract (fget φ 33) 1) := nrfl rfl
theorem s5_7_6 : stepA E C B 156 r5_7 o5_7_6 (φ, H) = stp (some 39) φ H (opExtract (fget φ 33) 2) := nrfl rfl
theorem s5_7_7 : stepA E C B 156 r5_7 o5_7_7 (φ, H) = stp (some 10) φ H (opBox (B + 10) (zeroCells E.T 27)) := nrfl rfl
theorem s5_7_8 : stepA E C B 156 r5_7 o5_7_8 (φ, H) = stp (some 11) φ H (opBox (B + 11) (zeroCells E.T 27)) := nrfl rfl
theorem s5_7_9 : stepA E C B 156 r5_7 o5_7_9 (φ, H) = stp none φ H (opStore E.T 27 (fget φ 10) (fget φ 37)) := nrfl rfl
theorem s5_7_10 : stepA E C B 156 r5_7 o5_7_10 (φ, H) = stp none φ H (opStore E.T 27 (fget φ 11) (fget φ 38)) := nrfl rfl
theorem s5_7_11 : stepA E C B 156 r5_7 o5_7_11 (φ, H) = some (fput φ 12 (fget φ 39), H) := nrfl rfl
noncomputable def c5_25 : Code := kR c5_23
noncomputable def c5_26 : Code := kL c5_25
noncomputable def c5_27 : Code := kL c5_26
noncomputable def r5_8 : Array Oper := kO c5_27
noncomputable def o5_8_0 : Oper := opN r5_8 0
noncomputable def o5_8_1 : Oper := opN r5_8 1
noncomputable def o5_8_2 : Oper := opN r5_8 2
noncomputable def o5_8_3 : Oper := opN r5_8 3
noncomputable def o5_8_4 : Oper := opN r5_8 4
noncomputable def o5_8_5 : Oper := opN r5_8 5
noncomputable def o5_8_6 : Oper := opN r5_8 6
noncomputable def o5_8_7 : Oper := opN r5_8 7
noncomputable def o5_8_8 : Oper := opN r5_8 8
noncomputable def o5_8_9 : Oper := opN r5_8 9
noncomputable def o5_8_10 : Oper := opN r5_8 10
noncomputable def o5_8_11 : Oper := opN r5_8 11
theorem x5_27 : execA E C (fg 5) B 156 E0 N c5_27 s = regX (runA E C B 156 r5_8 r5_8.toList s) (fun s => gcM E0 [12, 40, 41, 42, 43, 44, 45, 46, 47, 48, 49, 50] (forget s.1 [12, 40, 41, 42, 43, 44, 45, 46, 47, 48, 49, 50], s.2)) := x_reg (ops := r5_8) (by rfl) (by rfl) s
theorem r5_8_l : r5_8.toList = [o5_8_0, o5_8_1, o5_8_2, o5_8_3, o5_8_4, o5_8_5, o5_8_6, o5_8_7, o5_8_8, o5_8_9, o5_8_10, o5_8_11] := nrfl rfl
theorem s5_8_0 : stepA E C B 156 r5_8 o5_8_0 (φ, H) = some (fput φ 40 (fget φ 12), H) := nrfl rfl
theorem s5_8_1 : stepA E C B 156 r5_8 o5_8_1 (φ, H) = stp (some 41) φ H (just (aBin E.T .neq 28 (fget φ 40) (.int .i64 0))) := nrfl rfl
theorem s5_8_2 : stepA E C B 156 r5_8 o5_8_2 (φ, H) = some (fput φ 42 (fget φ 41), H) := nrfl rfl
theorem s5_8_3 : stepA E C B 156 r5_8 o5_8_3 (φ, H) = gd φ 42 false (fun φ => some (fput φ 43 (.tup []), H)) (fun φ => stp (some 43) φ H (just (aLoad E.T 27 (fget φ 10)))) := s_gd (j := 2) (oj := o5_8_2) rfl rfl rfl (fun _ => rfl) (fun _ => rfl)
theorem s5_8_4 : stepA E C B 156 r5_8 o5_8_4 (φ, H) = gd φ 42 false (fun φ => some (fput φ 44 (.tup []), H)) (fun φ => stp (some 44) φ H (aCall C (fun j => B + j * 156 + 44) true 33 [(fget φ 43)])) := s_gd (j := 2) (oj := o5_8_2) rfl rfl rfl (fun _ => rfl) (fun _ => rfl)
theorem s5_8_5 : stepA E C B 156 r5_8 o5_8_5 (φ, H) = gd φ 42 false (fun φ => some (fput φ 45 (.tup []), H)) (fun φ => stp (some 45) φ H (justO (aUn .not (fget φ 44)))) := s_gd (j := 2) (oj := o5_8_2) rfl rfl rfl (fun _ => rfl) (fun _ => rfl)
theorem s5_8_6 : stepA E C B 156 r5_8 o5_8_6 (φ, H) = stp (some 46) φ H (opPick (fget φ 42) (.bool true) (fget φ 45)) := nrfl rfl
theorem s5_8_7 : stepA E C B 156 r5_8 o5_8_7 (φ, H) = some (fput φ 47 (fget φ 46), H) := nrfl rfl
theorem s5_8_8 : stepA E C B 156 r5_8 o5_8_8 (φ, H) = gd φ 47 false (fun φ => some (fput φ 48 (.tup []), H)) (fun φ => stp (some 48) φ H (just (aLoad E.T 27 (fget φ 11)))) := s_gd (j := 7) (oj := o5_8_7) rfl rfl rfl (fun _ => rfl) (fun _ => rfl)
theorem s5_8_9 : stepA E C B 156 r5_8 o5_8_9 (φ, H) = gd φ 47 false (fun φ => some (fput φ 49 (.tup []), H)) (fun φ => stp (some 49) φ H (aCall C (fun j => B + j * 156 + 49) true 33 [(fget φ 48)])) := s_gd (j := 7) (oj := o5_8_7) rfl rfl rfl (fun _ => rfl) (fun _ => rfl)
theorem s5_8_10 : stepA E C B 156 r5_8 o5_8_10 (φ, H) = gd φ 47 false (fun φ => some (fput φ 50 (.tup []), H)) (fun φ => stp (some 50) φ H (justO (aUn .not (fget φ 49)))) := s_gd (j := 7) (oj := o5_8_7) rfl rfl rfl (fun _ => rfl) (fun _ => rfl)
theorem s5_8_11 : stepA E C B 156 r5_8 o5_8_11 (φ, H) = stp (some 51) φ H (opPick (fget φ 47) (.bool true) (fget φ 50)) := nrfl rfl
noncomputable def c5_28 : Code := kR c5_26
noncomputable def c5_29 : Code := kT c5_28
noncomputable def c5_30 : Code := kL c5_29
noncomputable def r5_9 : Array Oper := kO c5_30
noncomputable def o5_9_0 : Oper := opN r5_9 0
theorem x5_30 : execA E C (fg 5) B 156 E0 N c5_30 s = regX (runA E C B 156 r5_9 r5_9.toList s) (fun s => gcM E0 [3, 5, 6, 7, 8, 9, 10, 11, 29, 30, 51] (forget s.1 [3, 5, 6, 7, 8, 9, 10, 11, 29, 30, 51], s.2)) := x_reg (ops := r5_9) (by rfl) (by rfl) s
theorem r5_9_l : r5_9.toList = [o5_9_0] := nrfl rfl
theorem s5_9_0 : stepA E C B 156 r5_9 o5_9_0 (φ, H) = some (fput φ 4 (.bool false), H) := nrfl rfl
noncomputable def c5_31 : Code := kR c5_29
theorem x5_31 : execA E C (fg 5) B 156 E0 N c5_31 s = some (.ret, s) := x_ret (by rfl) s
theorem x5_29 : execA E C (fg 5) B 156 E0 N c5_29 s = seqX (execA E C (fg 5) B 156 E0 N c5_30 s) (execA E C (fg 5) B 156 E0 N c5_31) := x_seq (by rfl) s
noncomputable def c5_32 : Code := kE c5_28
theorem x5_32 : execA E C (fg 5) B 156 E0 N c5_32 s = some (.normal, s) := x_skip (by rfl) s
theorem x5_28 : execA E C (fg 5) B 156 E0 N c5_28 (φ, H) = condX (fget φ 51) (execA E C (fg 5) B 156 E0 N c5_29 (φ, H)) (execA E C (fg 5) B 156 E0 N c5_32 (φ, H)) := x_cond (by rfl) _
theorem x5_26 : execA E C (fg 5) B 156 E0 N c5_26 s = seqX (execA E C (fg 5) B 156 E0 N c5_27 s) (execA E C (fg 5) B 156 E0 N c5_28) := x_seq (by rfl) s
noncomputable def c5_33 : Code := kR c5_25
noncomputable def c5_34 : Code := kL c5_33
noncomputable def r5_10 : Array Oper := kO c5_34
noncomputable def o5_10_0 : Oper := opN r5_10 0
noncomputable def o5_10_1 : Oper := opN r5_10 1
noncomputable def o5_10_2 : Oper := opN r5_10 2
theorem x5_34 : execA E C (fg 5) B 156 E0 N c5_34 s = regX (runA E C B 156 r5_10 r5_10.toList s) (fun s => gcM E0 [51, 52] (forget s.1 [51, 52], s.2)) := x_reg (ops := r5_10) (by rfl) (by rfl) s
theorem r5_10_l : r5_10.toList = [o5_10_0, o5_10_1, o5_10_2] := nrfl rfl
theorem s5_10_0 : stepA E C B 156 r5_10 o5_10_0 (φ, H) = stp (some 52) φ H (.pure (.clo 34 [(fget φ 9), (fget φ 5)], [])) := nrfl rfl
theorem s5_10_1 : stepA E C B 156 r5_10 o5_10_1 (φ, H) = stp (some 13) φ H (opBox (B + 13) (zeroCells E.T 77)) := nrfl rfl
theorem s5_10_2 : stepA E C B 156 r5_10 o5_10_2 (φ, H) = stp none φ H (opStore E.T 77 (fget φ 13) (fget φ 52)) := nrfl rfl
noncomputable def c5_35 : Code := kR c5_33
noncomputable def c5_36 : Code := kL c5_35
noncomputable def r5_11 : Array Oper := kO c5_36
noncomputable def o5_11_0 : Oper := opN r5_11 0
noncomputable def o5_11_1 : Oper := opN r5_11 1
noncomputable def o5_11_2 : Oper := opN r5_11 2
noncomputable def o5_11_3 : Oper := opN r5_11 3
noncomputable def o5_11_4 : Oper := opN r5_11 4
noncomputable def o5_11_5 : Oper := opN r5_11 5
noncomputable def o5_11_6 : Oper := opN r5_11 6
noncomputable def o5_11_7 : Oper := opN r5_11 7
noncomputable def o5_11_8 : Oper := opN r5_11 8
noncomputable def o5_11_9 : Oper := opN r5_11 9
noncomputable def o5_11_10 : Oper := opN r5_11 10
noncomputable def o5_11_11 : Oper := opN r5_11 11
noncomputable def o5_11_12 : Oper := opN r5_11 12
noncomputable def o5_11_13 : Oper := opN r5_11 13
theorem x5_36 : execA E C (fg 5) B 156 E0 N c5_36 s = regX (drawA E C B 156 r5_11 s) (fun s => gcM E0 [53, 54, 55, 56, 57, 58, 59, 60, 61, 62] (forget s.1 [53, 54, 55, 56, 57, 58, 59, 60, 61, 62], s.2)) := x_draw (ops := r5_11) (by rfl) (by rfl) s
theorem r5_11_l : r5_11.toList = [o5_11_0, o5_11_1, o5_11_2, o5_11_3, o5_11_4, o5_11_5, o5_11_6, o5_11_7, o5_11_8, o5_11_9, o5_11_10, o5_11_11, o5_11_12, o5_11_13] := nrfl rfl
theorem r5_11_st : statOk r5_11 = true := by kernel_rfl
theorem r5_11_dr : drawA E C B 156 r5_11 s = if neat 156 s = true then drX r5_11 (runT E C B 156 r5_11 r5_11.toList 0 s) else none := draw_eq r5_11_st s
theorem r5_11_an (l : List (Nat × Tr)) : dynOk r5_11 l = (!writing l || dynPairs [[], [], [], [1, 2], [0, 1, 2, 3], [], [], [], [0, 1, 2, 3, 4, 6, 7], [0, 1, 2, 3, 4, 5, 6, 7, 8], [], [], [0, 1, 2, 3, 4, 5, 6, 7, 8, 9, 10, 11], [0, 1, 2, 3, 4, 5, 6, 7, 8, 9, 10, 11, 12]] (touching l)) := dynOk_eq (by kernel_rfl) l
theorem s5_11_0 : stepT E C B 156 r5_11 o5_11_0 (φ, H) = stpT (some 53) φ H (just (aLoad E.T 77 (fget φ 13))) := stT_go rfl (goT_R rfl rfl)
theorem s5_11_1 : stepT E C B 156 r5_11 o5_11_1 (φ, H) = stpT (some 54) φ H (just (aLoad E.T 22 (fget φ 5))) := stT_go rfl (goT_R rfl rfl)
theorem s5_11_2 : stepT E C B 156 r5_11 o5_11_2 (φ, H) = stpT (some 55) φ H (justO (aBuild E.T 71 (evO E φ) [])) := stT_go rfl (goT_R rfl rfl)
theorem s5_11_3 : stepT E C B 156 r5_11 o5_11_3 (φ, H) = stpT (some 56) φ H (aCall C (fun j => B + j * 156 + 56) true 36 [(fget φ 54), (fget φ 55)]) := stT_go rfl (goT_R rfl rfl)
theorem s5_11_4 : stepT E C B 156 r5_11 o5_11_4 (φ, H) = callVT E C (B + 156 * 8) (some 57) (fun j => B + j * 156 + 57) φ H (fget φ 53) [(fget φ 56)] true := stT_go rfl (goT_V rfl rfl)
theorem s5_11_5 : stepT E C B 156 r5_11 o5_11_5 (φ, H) = stpT (some 58) φ H (just (aLoad E.T 77 (fget φ 13))) := stT_go rfl (goT_R rfl rfl)
theorem s5_11_6 : stepT E C B 156 r5_11 o5_11_6 (φ, H) = stpT (some 59) φ H (just (aLoad E.T 22 (fget φ 5))) := stT_go rfl (goT_R rfl rfl)
theorem s5_11_7 : stepT E C B 156 r5_11 o5_11_7 (φ, H) = stpT (some 60) φ H (justO (aBuild E.T 71 (evO E φ) [])) := stT_go rfl (goT_R rfl rfl)
theorem s5_11_8 : stepT E C B 156 r5_11 o5_11_8 (φ, H) = stpT (some 61) φ H (aCall C (fun j => B + j * 156 + 61) true 36 [(fget φ 59), (fget φ 60)]) := stT_go rfl (goT_R rfl rfl)
theorem s5_11_9 : stepT E C B 156 r5_11 o5_11_9 (φ, H) = callVT E C (B + 156 * 8) (some 62) (fun j => B + j * 156 + 62) φ H (fget φ 58) [(fget φ 61)] true := stT_go rfl (goT_V rfl rfl)
theorem s5_11_10 : stepT E C B 156 r5_11 o5_11_10 (φ, H) = stpT (some 14) φ H (opBox (B + 14) (zeroCells E.T 27)) := stT_go rfl (goT_R rfl rfl)
theorem s5_11_11 : stepT E C B 156 r5_11 o5_11_11 (φ, H) = stpT (some 15) φ H (opBox (B + 15) (zeroCells E.T 27)) := stT_go rfl (goT_R rfl rfl)
theorem s5_11_12 : stepT E C B 156 r5_11 o5_11_12 (φ, H) = stpT none φ H (opStore E.T 27 (fget φ 14) (fget φ 57)) := stT_go rfl (goT_R rfl rfl)
theorem s5_11_13 : stepT E C B 156 r5_11 o5_11_13 (φ, H) = stpT none φ H (opStore E.T 27 (fget φ 15) (fget φ 62)) := stT_go rfl (goT_R rfl rfl)
noncomputable def c5_37 : Code := kR c5_35
noncomputable def c5_38 : Code := kL c5_37
noncomputable def r5_12 : Array Oper := kO c5_38
noncomputable def o5_12_0 : Oper := opN r5_12 0
noncomputable def o5_12_1 : Oper := opN r5_12 1
noncomputable def o5_12_2 : Oper := opN r5_12 2
theorem x5_38 : execA E C (fg 5) B 156 E0 N c5_38 s = regX (runA E C B 156 r5_12 r5_12.toList s) (fun s => gcM E0 [63, 64, 65] (forget s.1 [63, 64, 65], s.2)) := x_reg (ops := r5_12) (by rfl) (by rfl) s
theorem r5_12_l : r5_12.toList = [o5_12_0, o5_12_1, o5_12_2] := nrfl rfl
theorem s5_12_0 : stepA E C B 156 r5_12 o5_12_0 (φ, H) = stp (some 63) φ H (just (aLoad E.T 22 (fget φ 5))) := nrfl rfl
theorem s5_12_1 : stepA E C B 156 r5_12 o5_12_1 (φ, H) = stp (some 64) φ H (.pure (.clo 38 [(fget φ 13), (fget φ 14), (fget φ 15)], [])) := nrfl rfl
theorem s5_12_2 : stepA E C B 156 r5_12 o5_12_2 (φ, H) = mutX (some 65) φ (C 37 [(fget φ 63), (fget φ 64)] H (B + 156 * 8)) := nrfl rfl
noncomputable def c5_39 : Code := kR c5_37
noncomputable def c5_40 : Code := kL c5_39
noncomputable def r5_13 : Array Oper := kO c5_40
noncomputable def o5_13_0 : Oper := opN r5_13 0
noncomputable def o5_13_1 : Oper := opN r5_13 1
noncomputable def o5_13_2 : Oper := opN r5_13 2
noncomputable def o5_13_3 : Oper := opN r5_13 3
noncomputable def o5_13_4 : Oper := opN r5_13 4
noncomputable def o5_13_5 : Oper := opN r5_13 5
noncomputable def o5_13_6 : Oper := opN r5_13 6
theorem x5_40 : execA E C (fg 5) B 156 E0 N c5_40 s = regX (drawA E C B 156 r5_13 s) (fun s => gcM E0 [13, 66, 67, 68, 69, 70] (forget s.1 [13, 66, 67, 68, 69, 70], s.2)) := x_draw (ops := r5_13) (by rfl) (by rfl) s
theorem r5_13_l : r5_13.toList = [o5_13_0, o5_13_1, o5_13_2, o5_13_3, o5_13_4, o5_13_5, o5_13_6] := nrfl rfl
theorem r5_13_st : statOk r5_13 = true := by kernel_rfl
theorem r5_13_dr : drawA E C B 156 r5_13 s = if neat 156 s = true then drX r5_13 (runT E C B 156 r5_13 r5_13.toList 0 s) else none := draw_eq r5_13_st s
theorem r5_13_an (l : List (Nat × Tr)) : dynOk r5_13 l = (!writing l || dynPairs [[], [], [], [1, 2], [0, 1, 2, 3], [], [0, 1, 2, 3, 4, 5]] (touching l)) := dynOk_eq (by kernel_rfl) l
theorem s5_13_0 : stepT E C B 156 r5_13 o5_13_0 (φ, H) = stpT (some 66) φ H (just (aLoad E.T 77 (fget φ 13))) := stT_go rfl (goT_R rfl rfl)
theorem s5_13_1 : stepT E C B 156 r5_13 o5_13_1 (φ, H) = stpT (some 67) φ H (just (aLoad E.T 22 (fget φ 5))) := stT_go rfl (goT_R rfl rfl)
theorem s5_13_2 : stepT E C B 156 r5_13 o5_13_2 (φ, H) = stpT (some 68) φ H (just (aLoad E.T 71 (fget φ 3))) := stT_go rfl (goT_R rfl rfl)
theorem s5_13_3 : stepT E C B 156 r5_13 o5_13_3 (φ, H) = stpT (some 69) φ H (aCall C (fun j => B + j * 156 + 69) true 36 [(fget φ 67), (fget φ 68)]) := stT_go rfl (goT_R rfl rfl)
theorem s5_13_4 : stepT E C B 156 r5_13 o5_13_4 (φ, H) = callVT E C (B + 156 * 8) (some 70) (fun j => B + j * 156 + 70) φ H (fget φ 66) [(fget φ 69)] true := stT_go rfl (goT_V rfl rfl)
theorem s5_13_5 : stepT E C B 156 r5_13 o5_13_5 (φ, H) = stpT (some 16) φ H (opBox (B + 16) (zeroCells E.T 27)) := stT_go rfl (goT_R rfl rfl)
theorem s5_13_6 : stepT E C B 156 r5_13 o5_13_6 (φ, H) = stpT none φ H (opStore E.T 27 (fget φ 16) (fget φ 70)) := stT_go rfl (goT_R rfl rfl)
noncomputable def c5_41 : Code := kR c5_39
noncomputable def c5_42 : Code := kL c5_41
noncomputable def c5_43 : Code := kL c5_42
noncomputable def r5_14 : Array Oper := kO c5_43
noncomputable def o5_14_0 : Oper := opN r5_14 0
noncomputable def o5_14_1 : Oper := opN r5_14 1
noncomputable def o5_14_2 : Oper := opN r5_14 2
noncomputable def o5_14_3 : Oper := opN r5_14 3
noncomputable def o5_14_4 : Oper := opN r5_14 4
noncomputable def o5_14_5 : Oper := opN r5_14 5
noncomputable def o5_14_6 : Oper := opN r5_14 6
noncomputable def o5_14_7 : Oper := opN r5_14 7
noncomputable def o5_14_8 : Oper := opN r5_14 8
noncomputable def o5_14_9 : Oper := opN r5_14 9
noncomputable def o5_14_10 : Oper := opN r5_14 10
noncomputable def o5_14_11 : Oper := opN r5_14 11
noncomputable def o5_14_12 : Oper := opN r5_14 12
noncomputable def o5_14_13 : Oper := opN r5_14 13
noncomputable def o5_14_14 : Oper := opN r5_14 14
noncomputable def o5_14_15 : Oper := opN r5_14 15
noncomputable def o5_14_16 : Oper := opN r5_14 16
noncomputable def o5_14_17 : Oper := opN r5_14 17
theorem x5_43 : execA E C (fg 5) B 156 E0 N c5_43 s = regX (runA E C B 156 r5_14 r5_14.toList s) (fun s => gcM E0 [14, 15, 16, 71, 72, 73, 74, 75, 76, 77, 78, 79, 80, 81, 82, 83, 84, 85, 86, 87] (forget s.1 [14, 15, 16, 71, 72, 73, 74, 75, 76, 77, 78, 79, 80, 81, 82, 83, 84, 85, 86, 87], s.2)) := x_reg (ops := r5_14) (by rfl) (by rfl) s
theorem r5_14_l : r5_14.toList = [o5_14_0, o5_14_1, o5_14_2, o5_14_3, o5_14_4, o5_14_5, o5_14_6, o5_14_7, o5_14_8, o5_14_9, o5_14_10, o5_14_11, o5_14_12, o5_14_13, o5_14_14, o5_14_15, o5_14_16, o5_14_17] := nrfl rfl
theorem s5_14_0 : stepA E C B 156 r5_14 o5_14_0 (φ, H) = stp (some 71) φ H (just (aLoad E.T 27 (fget φ 10))) := nrfl rfl
theorem s5_14_1 : stepA E C B 156 r5_14 o5_14_1 (φ, H) = stp (some 72) φ H (just (aLoad E.T 27 (fget φ 14))) := nrfl rfl
theorem s5_14_2 : stepA E C B 156 r5_14 o5_14_2 (φ, H) = stp (some 73) φ H (just (aBin E.T .neq 27 (fget φ 71) (fget φ 72))) := nrfl rfl
theorem s5_14_3 : stepA E C B 156 r5_14 o5_14_3 (φ, H) = some (fput φ 74 (fget φ 73), H) := nrfl rfl
theorem s5_14_4 : stepA E C B 156 r5_14 o5_14_4 (φ, H) = gd φ 74 false (fun φ => some (fput φ 75 (.tup []), H)) (fun φ => stp (some 75) φ H (just (aLoad E.T 27 (fget φ 11)))) := s_gd (j := 3) (oj := o5_14_3) rfl rfl rfl (fun _ => rfl) (fun _ => rfl)
theorem s5_14_5 : stepA E C B 156 r5_14 o5_14_5 (φ, H) = gd φ 74 false (fun φ => some (fput φ 76 (.tup []), H)) (fun φ => stp (some 76) φ H (just (aLoad E.T 27 (fget φ 15)))) := s_gd (j := 3) (oj := o5_14_3) rfl rfl rfl (fun _ => rfl) (fun _ => rfl)
theorem s5_14_6 : stepA E C B 156 r5_14 o5_14_6 (φ, H) = gd φ 74 false (fun φ => some (fput φ 77 (.tup []), H)) (fun φ => stp (some 77) φ H (just (aBin E.T .neq 27 (fget φ 75) (fget φ 76)))) := s_gd (j := 3) (oj := o5_14_3) rfl rfl rfl (fun _ => rfl) (fun _ => rfl)
theorem s5_14_7 : stepA E C B 156 r5_14 o5_14_7 (φ, H) = stp (some 78) φ H (opPick (fget φ 74) (.bool true) (fget φ 77)) := nrfl rfl
theorem s5_14_8 : stepA E C B 156 r5_14 o5_14_8 (φ, H) = some (fput φ 79 (fget φ 78), H) := nrfl rfl
theorem s5_14_9 : stepA E C B 156 r5_14 o5_14_9 (φ, H) = gd φ 79 false (fun φ => some (fput φ 80 (.tup []), H)) (fun φ => stp (some 80) φ H (just (aLoad E.T 27 (fget φ 16)))) := s_gd (j := 8) (oj := o5_14_8) rfl rfl rfl (fun _ => rfl) (fun _ => rfl)
theorem s5_14_10 : stepA E C B 156 r5_14 o5_14_10 (φ, H) = gd φ 79 false (fun φ => some (fput φ 81 (.tup []), H)) (fun φ => stp (some 81) φ H (just (aLoad E.T 27 (fget φ 10)))) := s_gd (j := 8) (oj := o5_14_8) rfl rfl rfl (fun _ => rfl) (fun _ => rfl)
theorem s5_14_11 : stepA E C B 156 r5_14 o5_14_11 (φ, H) = gd φ 79 false (fun φ => some (fput φ 82 (.tup []), H)) (fun φ => stp (some 82) φ H (aCall C (fun j => B + j * 156 + 82) true 39 [(fget φ 80), (fget φ 81)])) := s_gd (j := 8) (oj := o5_14_8) rfl rfl rfl (fun _ => rfl) (fun _ => rfl)
theorem s5_14_12 : stepA E C B 156 r5_14 o5_14_12 (φ, H) = stp (some 83) φ H (opPick (fget φ 79) (.bool true) (fget φ 82)) := nrfl rfl
theorem s5_14_13 : stepA E C B 156 r5_14 o5_14_13 (φ, H) = some (fput φ 84 (fget φ 83), H) := nrfl rfl
theorem s5_14_14 : stepA E C B 156 r5_14 o5_14_14 (φ, H) = gd φ 84 false (fun φ => some (fput φ 85 (.tup []), H)) (fun φ => stp (some 85) φ H (just (aLoad E.T 27 (fget φ 11)))) := s_gd (j := 13) (oj := o5_14_13) rfl rfl rfl (fun _ => rfl) (fun _ => rfl)
theorem s5_14_15 : stepA E C B 156 r5_14 o5_14_15 (φ, H) = gd φ 84 false (fun φ => some (fput φ 86 (.tup []), H)) (fun φ => stp (some 86) φ H (just (aLoad E.T 27 (fget φ 16)))) := s_gd (j := 13) (oj := o5_14_13) rfl rfl rfl (fun _ => rfl) (fun _ => rfl)
theorem s5_14_16 : stepA E C B 156 r5_14 o5_14_16 (φ, H) = gd φ 84 false (fun φ => some (fput φ 87 (.tup []), H)) (fun φ => stp (some 87) φ H (aCall C (fun j => B + j * 156 + 87) true 39 [(fget φ 85), (fget φ 86)])) := s_gd (j := 13) (oj := o5_14_13) rfl rfl rfl (fun _ => rfl) (fun _ => rfl)
theorem s5_14_17 : stepA E C B 156 r5_14 o5_14_17 (φ, H) = stp (some 88) φ H (opPick (fget φ 84) (.bool true) (fget φ 87)) := nrfl rfl
noncomputable def c5_44 : Code := kR c5_42
noncomputable def c5_45 : Code := kT c5_44
noncomputable def c5_46 : Code := kL c5_45
noncomputable def r5_15 : Array Oper := kO c5_46
noncomputable def o5_15_0 : Oper := opN r5_15 0
theorem x5_46 : execA E C (fg 5) B 156 E0 N c5_46 s = regX (runA E C B 156 r5_15 r5_15.toList s) (fun s => gcM E0 [3, 5, 6, 7, 8, 9, 10, 11, 29, 30, 88] (forget s.1 [3, 5, 6, 7, 8, 9, 10, 11, 29, 30, 88], s.2)) := x_reg (ops := r5_15) (by rfl) (by rfl) s
theorem r5_15_l : r5_15.toList = [o5_15_0] := nrfl rfl
theorem s5_15_0 : stepA E C B 156 r5_15 o5_15_0 (φ, H) = some (fput φ 4 (.bool false), H) := nrfl rfl
noncomputable def c5_47 : Code := kR c5_45
theorem x5_47 : execA E C (fg 5) B 156 E0 N c5_47 s = some (.ret, s) := x_ret (by rfl) s
theorem x5_45 : execA E C (fg 5) B 156 E0 N c5_45 s = seqX (execA E C (fg 5) B 156 E0 N c5_46 s) (execA E C (fg 5) B 156 E0 N c5_47) := x_seq (by rfl) s
noncomputable def c5_48 : Code := kE c5_44
theorem x5_48 : execA E C (fg 5) B 156 E0 N c5_48 s = some (.normal, s) := x_skip (by rfl) s
theorem x5_44 : execA E C (fg 5) B 156 E0 N c5_44 (φ, H) = condX (fget φ 88) (execA E C (fg 5) B 156 E0 N c5_45 (φ, H)) (execA E C (fg 5) B 156 E0 N c5_48 (φ, H)) := x_cond (by rfl) _
theorem x5_42 : execA E C (fg 5) B 156 E0 N c5_42 s = seqX (execA E C (fg 5) B 156 E0 N c5_43 s) (execA E C (fg 5) B 156 E0 N c5_44) := x_seq (by rfl) s
noncomputable def c5_49 : Code := kR c5_41
noncomputable def c5_50 : Code := kL c5_49
noncomputable def r5_16 : Array Oper := kO c5_50
noncomputable def o5_16_0 : Oper := opN r5_16 0
noncomputable def o5_16_1 : Oper := opN r5_16 1
noncomputable def o5_16_2 : Oper := opN r5_16 2
theorem x5_50 : execA E C (fg 5) B 156 E0 N c5_50 s = regX (runA E C B 156 r5_16 r5_16.toList s) (fun s => gcM E0 [88, 89] (forget s.1 [88, 89], s.2)) := x_reg (ops := r5_16) (by rfl) (by rfl) s
theorem r5_16_l : r5_16.toList = [o5_16_0, o5_16_1, o5_16_2] := nrfl rfl
theorem s5_16_0 : stepA E C B 156 r5_16 o5_16_0 (φ, H) = stp (some 89) φ H (aCall C (fun j => B + j * 156 + 89) true 40 [(.int .i64 0), (.int .i64 1)]) := nrfl rfl
theorem s5_16_1 : stepA E C B 156 r5_16 o5_16_1 (φ, H) = stp (some 17) φ H (opBox (B + 17) (zeroCells E.T 27)) := nrfl rfl
theorem s5_16_2 : stepA E C B 156 r5_16 o5_16_2 (φ, H) = stp none φ H (opStore E.T 27 (fget φ 17) (fget φ 89)) := nrfl rfl
noncomputable def c5_51 : Code := kR c5_49
noncomputable def c5_52 : Code := kL c5_51
noncomputable def c5_53 : Code := kL c5_52
noncomputable def r5_17 : Array Oper := kO c5_53
noncomputable def o5_17_0 : Oper := opN r5_17 0
noncomputable def o5_17_1 : Oper := opN r5_17 1
theorem x5_53 : execA E C (fg 5) B 156 E0 N c5_53 s = regX (runA E C B 156 r5_17 r5_17.toList s) (fun s => gcM E0 [90] (forget s.1 [90], s.2)) := x_reg (ops := r5_17) (by rfl) (by rfl) s
theorem r5_17_l : r5_17.toList = [o5_17_0, o5_17_1] := nrfl rfl
theorem s5_17_0 : stepA E C B 156 r5_17 o5_17_0 (φ, H) = stp (some 90) φ H (just (aLoad E.T 3 (fget φ 9))) := nrfl rfl
theorem s5_17_1 : stepA E C B 156 r5_17 o5_17_1 (φ, H) = stp (some 91) φ H (just (aBin E.T .gtr 3 (fget φ 90) (.int .i64 0))) := nrfl rfl
noncomputable def c5_54 : Code := kR c5_52
noncomputable def c5_55 : Code := kT c5_54
noncomputable def c5_56 : Code := kL c5_55
noncomputable def r5_18 : Array Oper := kO c5_56
noncomputable def o5_18_0 : Oper := opN r5_18 0
noncomputable def o5_18_1 : Oper := opN r5_18 1
noncomputable def o5_18_2 : Oper := opN r5_18 2
noncomputable def o5_18_3 : Oper := opN r5_18 3
noncomputable def o5_18_4 : Oper := opN r5_18 4
noncomputable def o5_18_5 : Oper := opN r5_18 5
noncomputable def o5_18_6 : Oper := opN r5_18 6
noncomputable def o5_18_7 : Oper := opN r5_18 7
noncomputable def o5_18_8 : Oper := opN r5_18 8
noncomputable def o5_18_9 : Oper := opN r5_18 9
noncomputable def o5_18_10 : Oper := opN r5_18 10
noncomputable def o5_18_11 : Oper := opN r5_18 11
noncomputable def o5_18_12 : Oper := opN r5_18 12
noncomputable def o5_18_13 : Oper := opN r5_18 13
noncomputable def o5_18_14 : Oper := opN r5_18 14
theorem x5_56 : execA E C (fg 5) B 156 E0 N c5_56 s = regX (drawA E C B 156 r5_18 s) (fun s => gcM E0 [91, 92, 93, 94, 95, 96, 97, 98, 99, 100, 101, 102, 103, 104, 105] (forget s.1 [91, 92, 93, 94, 95, 96, 97, 98, 99, 100, 101, 102, 103, 104, 105], s.2)) := x_draw (ops := r5_18) (by rfl) (by rfl) s
theorem r5_18_l : r5_18.toList = [o5_18_0, o5_18_1, o5_18_2, o5_18_3, o5_18_4, o5_18_5, o5_18_6, o5_18_7, o5_18_8, o5_18_9, o5_18_10, o5_18_11, o5_18_12, o5_18_13, o5_18_14] := nrfl rfl
theorem r5_18_st : statOk r5_18 = true := by kernel_rfl
theorem r5_18_dr : drawA E C B 156 r5_18 s = if neat 156 s = true then drX r5_18 (runT E C B 156 r5_18 r5_18.toList 0 s) else none := draw_eq r5_18_st s
theorem r5_18_an (l : List (Nat × Tr)) : dynOk r5_18 l = (!writing l || dynPairs [[], [], [1], [0, 1, 2], [0, 1, 2, 3], [0, 1, 2, 3, 4], [], [], [7], [6, 7, 8], [6, 7, 8, 9], [6, 7, 8, 9, 10], [0, 1, 2, 3, 4, 5, 6, 7, 8, 9, 10, 11], [0, 1, 2, 3, 4, 5, 6, 7, 8, 9, 10, 11, 12], [0, 1, 2, 3, 4, 5, 6, 7, 8, 9, 10, 11, 12, 13]] (touching l)) := dynOk_eq (by kernel_rfl) l
theorem s5_18_0 : stepT E C B 156 r5_18 o5_18_0 (φ, H) = stpT (some 92) φ H (just (aLoad E.T 22 (fget φ 5))) := stT_go rfl (goT_R rfl rfl)
theorem s5_18_1 : stepT E C B 156 r5_18 o5_18_1 (φ, H) = stpT (some 93) φ H (just (aLoad E.T 3 (fget φ 9))) := stT_go rfl (goT_R rfl rfl)
theorem s5_18_2 : stepT E C B 156 r5_18 o5_18_2 (φ, H) = stpT (some 94) φ H (just (aBin E.T .sub 3 (fget φ 93) (.int .i64 1))) := stT_go rfl (goT_R rfl rfl)
theorem s5_18_3 : stepT E C B 156 r5_18 o5_18_3 (φ, H) = stpT (some 95) φ H (just (aIndexAddr E.T 22 (fget φ 92) (fget φ 94))) := stT_go rfl (goT_R rfl rfl)
theorem s5_18_4 : stepT E C B 156 r5_18 o5_18_4 (φ, H) = stpT (some 96) φ H (just (aFieldAddr E.T 45 (fget φ 95) 1)) := stT_go rfl (goT_R rfl rfl)
theorem s5_18_5 : stepT E C B 156 r5_18 o5_18_5 (φ, H) = stpT (some 97) φ H (just (aLoad E.T 3 (fget φ 96))) := stT_go rfl (goT_R rfl rfl)
theorem s5_18_6 : stepT E C B 156 r5_18 o5_18_6 (φ, H) = stpT (some 98) φ H (just (aLoad E.T 22 (fget φ 5))) := stT_go rfl (goT_R rfl rfl)
theorem s5_18_7 : stepT E C B 156 r5_18 o5_18_7 (φ, H) = stpT (some 99) φ H (just (aLoad E.T 3 (fget φ 9))) := stT_go rfl (goT_R rfl rfl)
theorem s5_18_8 : stepT E C B 156 r5_18 o5_18_8 (φ, H) = stpT (some 100) φ H (just (aBin E.T .sub 3 (fget φ 99) (.int .i64 1))) := stT_go rfl (goT_R rfl rfl)
theorem s5_18_9 : stepT E C B 156 r5_18 o5_18_9 (φ, H) = stpT (some 101) φ H (just (aIndexAddr E.T 22 (fget φ 98) (fget φ 100))) := stT_go rfl (goT_R rfl rfl)
theorem s5_18_10 : stepT E C B 156 r5_18 o5_18_10 (φ, H) = stpT (some 102) φ H (just (aFieldAddr E.T 45 (fget φ 101) 0)) := stT_go rfl (goT_R rfl rfl)
theorem s5_18_11 : stepT E C B 156 r5_18 o5_18_11 (φ, H) = stpT (some 103) φ H (just (aLoad E.T 3 (fget φ 102))) := stT_go rfl (goT_R rfl rfl)
theorem s5_18_12 : stepT E C B 156 r5_18 o5_18_12 (φ, H) = stpT (some 104) φ H (just (aBin E.T .add 3 (fget φ 97) (fget φ 103))) := stT_go rfl (goT_R rfl rfl)
theorem s5_18_13 : stepT E C B 156 r5_18 o5_18_13 (φ, H) = stpT (some 105) φ H (aCall C (fun j => B + j * 156 + 105) true 40 [(fget φ 104), (.int .i64 1)]) := stT_go rfl (goT_R rfl rfl)
theorem s5_18_14 : stepT E C B 156 r5_18 o5_18_14 (φ, H) = stpT none φ H (opStore E.T 27 (fget φ 17) (fget φ 105)) := stT_go rfl (goT_R rfl rfl)
noncomputable def c5_57 : Code := kR c5_55
noncomputable def r5_19 : Array Oper := kO c5_57
noncomputable def o5_19_0 : Oper := opN r5_19 0
noncomputable def o5_19_1 : Oper := opN r5_19 1
noncomputable def o5_19_2 : Oper := opN r5_19 2
noncomputable def o5_19_3 : Oper := opN r5_19 3
noncomputable def o5_19_4 : Oper := opN r5_19 4
noncomputable def o5_19_5 : Oper := opN r5_19 5
noncomputable def o5_19_6 : Oper := opN r5_19 6
noncomputable def o5_19_7 : Oper := opN r5_19 7
noncomputable def o5_19_8 : Oper := opN r5_19 8
noncomputable def o5_19_9 : Oper := opN r5_19 9
noncomputable def o5_19_10 : Oper := opN r5_19 10
noncomputable def o5_19_11 : Oper := opN r5_19 11
noncomputable def o5_19_12 : Oper := opN r5_19 12
noncomputable def o5_19_13 : Oper := opN r5_19 13
noncomputable def o5_19_14 : Oper := opN r5_19 14
noncomputable def o5_19_15 : Oper := opN r5_19 15
noncomputable def o5_19_16 : Oper := opN r5_19 16
noncomputable def o5_19_17 : Oper := opN r5_19 17
noncomputable def o5_19_18 : Oper := opN r5_19 18
noncomputable def o5_19_19 : Oper := opN r5_19 19
noncomputable def o5_19_20 : Oper := opN r5_19 20
theorem x5_57 : execA E C (fg 5) B 156 E0 N c5_57 s = regX (drawA E C B 156 r5_19 s) (fun s => gcM E0 [9, 10, 106, 107, 108, 109, 110, 111, 112, 113, 114, 115, 116, 117, 118, 119, 120, 121, 122, 123, 124, 125] (forget s.1 [9, 10, 106, 107, 108, 109, 110, 111, 112, 113, 114, 115, 116, 117, 118, 119, 120, 121, 122, 123, 124, 125], s.2)) := x_draw (ops := r5_19) (by rfl) (by rfl) s
theorem r5_19_l : r5_19.toList = [o5_19_0, o5_19_1, o5_19_2, o5_19_3, o5_19_4, o5_19_5, o5_19_6, o5_19_7, o5_19_8, o5_19_9, o5_19_10, o5_19_11, o5_19_12, o5_19_13, o5_19_14, o5_19_15, o5_19_16, o5_19_17, o5_19_18, o5_19_19, o5_19_20] := nrfl rfl
theorem r5_19_st : statOk r5_19 = true := by kernel_rfl
theorem r5_19_dr : drawA E C B 156 r5_19 s = if neat 156 s = true then drX r5_19 (runT E C B 156 r5_19 r5_19.toList 0 s) else none := draw_eq r5_19_st s
theorem r5_19_an (l : List (Nat × Tr)) : dynOk r5_19 l = (!writing l || dynPairs [[], [0], [0, 1], [0, 1], [0, 1], [0, 1, 4], [0, 1, 3, 4, 5], [0, 1, 3, 4, 5, 6], [0, 1, 3, 4, 5, 6, 7], [0, 1], [0, 1], [0, 1, 10], [0, 1, 9, 10, 11], [0, 1, 9, 10, 11, 12], [0, 1, 9, 10, 11, 12, 13], [0, 1, 3, 4, 5, 6, 7, 8, 9, 10, 11, 12, 13, 14], [0, 1, 3, 4, 5, 6, 7, 8, 9, 10, 11, 12, 13, 14, 15], [0, 1, 2, 3, 4, 5, 6, 7, 8, 9, 10, 11, 12, 13, 14, 15, 16], [0, 1, 2, 3, 4, 5, 6, 7, 8, 9, 10, 11, 12, 13, 14, 15, 16, 17], [0, 1, 2, 3, 4, 5, 6, 7, 8, 9, 10, 11, 12, 13, 14, 15, 16, 17, 18], [0, 1, 2, 3, 4, 5, 6, 7, 8, 9, 10, 11, 12, 13, 14, 15, 16, 17, 18, 19]] (touching l)) := dynOk_eq (by kernel_rfl) l
theorem s5_19_0 : stepT E C B 156 r5_19 o5_19_0 (φ, H) = some ((fput φ 106 (fget φ 8), H), ⟨false, [], []⟩) := stT_go rfl (goT_mv rfl rfl)
theorem s5_19_1 : stepT E C B 156 r5_19 o5_19_1 (φ, H) = some ((fput φ 107 (fget φ 106), H), ⟨false, [], []⟩) := stT_go rfl (goT_mv rfl rfl)
theorem s5_19_2 : stepT E C B 156 r5_19 o5_19_2 (φ, H) = gdT φ 107 true (fun φ => (some (fput φ 108 (.tup []), H)).map fun s => (s, ⟨false, [], []⟩)) (fun φ => stpT (some 108) φ H (just (aLoad E.T 27 (fget φ 10)))) := stT_gd (j := 1) (oj := o5_19_1) rfl rfl rfl (fun _ => rfl) (fun _ => goT_R rfl rfl)
theorem s5_19_3 : stepT E C B 156 r5_19 o5_19_3 (φ, H) = gdT φ 107 true (fun φ => (some (fput φ 109 (.tup []), H)).map fun s => (s, ⟨false, [], []⟩)) (fun φ => stpT (some 109) φ H (just (aLoad E.T 22 (fget φ 5)))) := stT_gd (j := 1) (oj := o5_19_1) rfl rfl rfl (fun _ => rfl) (fun _ => goT_R rfl rfl)
theorem s5_19_4 : stepT E C B 156 r5_19 o5_19_4 (φ, H) = gdT φ 107 true (fun φ => (some (fput φ 110 (.tup []), H)).map fun s => (s, ⟨false, [], []⟩)) (fun φ => stpT (some 110) φ H (just (aLoad E.T 3 (fget φ 9)))) := stT_gd (j := 1) (oj := o5_19_1) rfl rfl rfl (fun _ => rfl) (fun _ => goT_R rfl rfl)
theorem s5_19_5 : stepT E C B 156 r5_19 o5_19_5 (φ, H) = gdT φ 107 true (fun φ => (some (fput φ 111 (.tup []), H)).map fun s => (s, ⟨false, [], []⟩)) (fun φ => stpT (some 111) φ H (just (aBin E.T .sub 3 (fget φ 110) (.int .i64 1)))) := stT_gd (j := 1) (oj := o5_19_1) rfl rfl rfl (fun _ => rfl) (fun _ => goT_R rfl rfl)
theorem s5_19_6 : stepT E C B 156 r5_19 o5_19_6 (φ, H) = gdT φ 107 true (fun φ => (some (fput φ 112 (.tup []), H)).map fun s => (s, ⟨false, [], []⟩)) (fun φ => stpT (some 112) φ H (just (aIndexAddr E.T 22 (fget φ 109) (fget φ 111)))) := stT_gd (j := 1) (oj := o5_19_1) rfl rfl rfl (fun _ => rfl) (fun _ => goT_R rfl rfl)
theorem s5_19_7 : stepT E C B 156 r5_19 o5_19_7 (φ, H) = gdT φ 107 true (fun φ => (some (fput φ 113 (.tup []), H)).map fun s => (s, ⟨false, [], []⟩)) (fun φ => stpT (some 113) φ H (just (aFieldAddr E.T 45 (fget φ 112) 1))) := stT_gd (j := 1) (oj := o5_19_1) rfl rfl rfl (fun _ => rfl) (fun _ => goT_R rfl rfl)
theorem s5_19_8 : stepT E C B 156 r5_19 o5_19_8 (φ, H) = gdT φ 107 true (fun φ => (some (fput φ 114 (.tup []), H)).map fun s => (s, ⟨false, [], []⟩)) (fun φ => stpT (some 114) φ H (just (aLoad E.T 3 (fget φ 113)))) := stT_gd (j := 1) (oj := o5_19_1) rfl rfl rfl (fun _ => rfl) (fun _ => goT_R rfl rfl)
theorem s5_19_9 : stepT E C B 156 r5_19 o5_19_9 (φ, H) = gdT φ 107 true (fun φ => (some (fput φ 115 (.tup []), H)).map fun s => (s, ⟨false, [], []⟩)) (fun φ => stpT (some 115) φ H (just (aLoad E.T 22 (fget φ 5)))) := stT_gd (j := 1) (oj := o5_19_1) rfl rfl rfl (fun _ => rfl) (fun _ => goT_R rfl rfl)
theorem s5_19_10 : stepT E C B 156 r5_19 o5_19_10 (φ, H) = gdT φ 107 true (fun φ => (some (fput φ 116 (.tup []), H)).map fun s => (s, ⟨false, [], []⟩)) (fun φ => stpT (some 116) φ H (just (aLoad E.T 3 (fget φ 9)))) := stT_gd (j := 1) (oj := o5_19_1) rfl rfl rfl (fun _ => rfl) (fun _ => goT_R rfl rfl)
theorem s5_19_11 : stepT E C B 156 r5_19 o5_19_11 (φ, H) = gdT φ 107 true (fun φ => (some (fput φ 117 (.tup []), H)).map fun s => (s, ⟨false, [], []⟩)) (fun φ => stpT (some 117) φ H (just (aBin E.T .sub 3 (fget φ 116) (.int .i64 1)))) := stT_gd (j := 1) (oj := o5_19_1) rfl rfl rfl (fun _ => rfl) (fun _ => goT_R rfl rfl)
theorem s5_19_12 : stepT E C B 156 r5_19 o5_19_12 (φ, H) = gdT φ 107 true (fun φ => (some (fput φ 118 (.tup []), H)).map fun s => (s, ⟨false, [], []⟩)) (fun φ => stpT (some 118) φ H (just (aIndexAddr E.T 22 (fget φ 115) (fget φ 117)))) := stT_gd (j := 1) (oj := o5_19_1) rfl rfl rfl (fun _ => rfl) (fun _ => goT_R rfl rfl)
theorem s5_19_13 : stepT E C B 156 r5_19 o5_19_13 (φ, H) = gdT φ 107 true (fun φ => (some (fput φ 119 (.tup []), H)).map fun s => (s, ⟨false, [], []⟩)) (fun φ => stpT (some 119) φ H (just (aFieldAddr E.T 45 (fget φ 118) 0))) := stT_gd (j := 1) (oj := o5_19_1) rfl rfl rfl (fun _ => rfl) (fun _ => goT_R rfl rfl)
theorem s5_19_14 : stepT E C B 156 r5_19 o5_19_14 (φ, H) = gdT φ 107 true (fun φ => (some (fput φ 120 (.tup []), H)).map fun s => (s, ⟨false, [], []⟩)) (fun φ => stpT (some 120) φ H (just (aLoad E.T 3 (fget φ 119)))) := stT_gd (j := 1) (oj := o5_19_1) rfl rfl rfl (fun _ => rfl) (fun _ => goT_R rfl rfl)
theorem s5_19_15 : stepT E C B 156 r5_19 o5_19_15 (φ, H) = gdT φ 107 true (fun φ => (some (fput φ 121 (.tup []), H)).map fun s => (s, ⟨false, [], []⟩)) (fun φ => stpT (some 121) φ H (just (aBin E.T .sub 3 (fget φ 114) (fget φ 120)))) := stT_gd (j := 1) (oj := o5_19_1) rfl rfl rfl (fun _ => rfl) (fun _ => goT_R rfl rfl)
theorem s5_19_16 : stepT E C B 156 r5_19 o5_19_16 (φ, H) = gdT φ 107 true (fun φ => (some (fput φ 122 (.tup []), H)).map fun s => (s, ⟨false, [], []⟩)) (fun φ => stpT (some 122) φ H (aCall C (fun j => B + j * 156 + 122) true 40 [(fget φ 121), (.int .i64 1)])) := stT_gd (j := 1) (oj := o5_19_1) rfl rfl rfl (fun _ => rfl) (fun _ => goT_R rfl rfl)
theorem s5_19_17 : stepT E C B 156 r5_19 o5_19_17 (φ, H) = gdT φ 107 true (fun φ => (some (fput φ 123 (.tup []), H)).map fun s => (s, ⟨false, [], []⟩)) (fun φ => stpT (some 123) φ H (aCall C (fun j => B + j * 156 + 123) true 39 [(fget φ 108), (fget φ 122)])) := stT_gd (j := 1) (oj := o5_19_1) rfl rfl rfl (fun _ => rfl) (fun _ => goT_R rfl rfl)
theorem s5_19_18 : stepT E C B 156 r5_19 o5_19_18 (φ, H) = gdT φ 107 true (fun φ => (some (fput φ 124 (.tup []), H)).map fun s => (s, ⟨false, [], []⟩)) (fun φ => stpT (some 124) φ H (justO (aUn .not (fget φ 123)))) := stT_gd (j := 1) (oj := o5_19_1) rfl rfl rfl (fun _ => rfl) (fun _ => goT_R rfl rfl)
theorem s5_19_19 : stepT E C B 156 r5_19 o5_19_19 (φ, H) = stpT (some 125) φ H (opPick (fget φ 107) (fget φ 124) (.bool false)) := stT_go rfl (goT_R rfl rfl)
theorem s5_19_20 : stepT E C B 156 r5_19 o5_19_20 (φ, H) = some ((fput φ 8 (fget φ 125), H), ⟨false, [], []⟩) := stT_go rfl (goT_mv rfl rfl)
theorem x5_55 : execA E C (fg 5) B 156 E0 N c5_55 s = seqX (execA E C (fg 5) B 156 E0 N c5_56 s) (execA E C (fg 5) B 156 E0 N c5_57) := x_seq (by rfl) s
noncomputable def c5_58 : Code := kE c5_54
theorem x5_58 : execA E C (fg 5) B 156 E0 N c5_58 s = some (.normal, s) := x_skip (by rfl) s
theorem x5_54 : execA E C (fg 5) B 156 E0 N c5_54 (φ, H) = condX (fget φ 91) (execA E C (fg 5) B 156 E0 N c5_55 (φ, H)) (execA E C (fg 5) B 156 E0 N c5_58 (φ, H)) := x_cond (by rfl) _
theorem x5_52 : execA E C (fg 5) B 156 E0 N c5_52 s = seqX (execA E C (fg 5) B 156 E0 N c5_53 s) (execA E C (fg 5) B 156 E0 N c5_54) := x_seq (by rfl) s
noncomputable def c5_59 : Code := kR c5_51
noncomputable def r5_20 : Array Oper := kO c5_59
noncomputable def o5_20_0 : Oper := opN r5_20 0
noncomputable def o5_20_1 : Oper := opN r5_20 1
noncomputable def o5_20_2 : Oper := opN r5_20 2
noncomputable def o5_20_3 : Oper := opN r5_20 3
noncomputable def o5_20_4 : Oper := opN r5_20 4
noncomputable def o5_20_5 : Oper := opN r5_20 5
noncomputable def o5_20_6 : Oper := opN r5_20 6
noncomputable def o5_20_7 : Oper := opN r5_20 7
theorem x5_59 : execA E C (fg 5) B 156 E0 N c5_59 s = regX (runA E C B 156 r5_20 r5_20.toList s) (fun s => gcM E0 [9, 10, 11, 17, 91, 126, 127, 128, 129, 130, 131, 132] (forget s.1 [9, 10, 11, 17, 91, 126, 127, 128, 129, 130, 131, 132], s.2)) := x_reg (ops := r5_20) (by rfl) (by rfl) s
theorem r5_20_l : r5_20.toList = [o5_20_0, o5_20_1, o5_20_2, o5_20_3, o5_20_4, o5_20_5, o5_20_6, o5_20_7] := nrfl rfl
theorem s5_20_0 : stepA E C B 156 r5_20 o5_20_0 (φ, H) = some (fput φ 126 (fget φ 8), H) := nrfl rfl
theorem s5_20_1 : stepA E C B 156 r5_20 o5_20_1 (φ, H) = some (fput φ 127 (fget φ 126), H) := nrfl rfl
theorem s5_20_2 : stepA E C B 156 r5_20 o5_20_2 (φ, H) = gd φ 127 true (fun φ => some (fput φ 128 (.tup []), H)) (fun φ => stp (some 128) φ H (just (aLoad E.T 27 (fget φ 17)))) := s_gd (j := 1) (oj := o5_20_1) rfl rfl rfl (fun _ => rfl) (fun _ => rfl)
theorem s5_20_3 : stepA E C B 156 r5_20 o5_20_3 (φ, H) = gd φ 127 true (fun φ => some (fput φ 129 (.tup []), H)) (fun φ => stp (some 129) φ H (just (aLoad E.T 27 (fget φ 11)))) := s_gd (j := 1) (oj := o5_20_1) rfl rfl rfl (fun _ => rfl) (fun _ => rfl)
theorem s5_20_4 : stepA E C B 156 r5_20 o5_20_4 (φ, H) = gd φ 127 true (fun φ => some (fput φ 130 (.tup []), H)) (fun φ => stp (some 130) φ H (aCall C (fun j => B + j * 156 + 130) true 39 [(fget φ 128), (fget φ 129)])) := s_gd (j := 1) (oj := o5_20_1) rfl rfl rfl (fun _ => rfl) (fun _ => rfl)
theorem s5_20_5 : stepA E C B 156 r5_20 o5_20_5 (φ, H) = gd φ 127 true (fun φ => some (fput φ 131 (.tup []), H)) (fun φ => stp (some 131) φ H (justO (aUn .not (fget φ 130)))) := s_gd (j := 1) (oj := o5_20_1) rfl rfl rfl (fun _ => rfl) (fun _ => rfl)
theorem s5_20_6 : stepA E C B 156 r5_20 o5_20_6 (φ, H) = stp (some 132) φ H (opPick (fget φ 127) (fget φ 131) (.bool false)) := nrfl rfl
theorem s5_20_7 : stepA E C B 156 r5_20 o5_20_7 (φ, H) = some (fput φ 8 (fget φ 132), H) := nrfl rfl
theorem x5_51 : execA E C (fg 5) B 156 E0 N c5_51 s = seqX (execA E C (fg 5) B 156 E0 N c5_52 s) (execA E C (fg 5) B 156 E0 N c5_59) := x_seq (by rfl) s
theorem x5_49 : execA E C (fg 5) B 156 E0 N c5_49 s = seqX (execA E C (fg 5) B 156 E0 N c5_50 s) (execA E C (fg 5) B 156 E0 N c5_51) := x_seq (by rfl) s
theorem x5_41 : execA E C (fg 5) B 156 E0 N c5_41 s = seqX (execA E C (fg 5) B 156 E0 N c5_42 s) (execA E C (fg 5) B 156 E0 N c5_49) := x_seq (by rfl) s
theorem x5_39 : execA E C (fg 5) B 156 E0 N c5_39 s = seqX (execA E C (fg 5) B 156 E0 N c5_40 s) (execA E C (fg 5) B 156 E0 N c5_41) := x_seq (by rfl) s
theorem x5_37 : execA E C (fg 5) B 156 E0 N c5_37 s = seqX (execA E C (fg 5) B 156 E0 N c5_38 s) (execA E C (fg 5) B 156 E0 N c5_39) := x_seq (by rfl) s
theorem x5_35 : execA E C (fg 5) B 156 E0 N c5_35 s = seqX (execA E C (fg 5) B 156 E0 N c5_36 s) (execA E C (fg 5) B 156 E0 N c5_37) := x_seq (by rfl) s
theorem x5_33 : execA E C (fg 5) B 156 E0 N c5_33 s = seqX (execA E C (fg 5) B 156 E0 N c5_34 s) (execA E C (fg 5) B 156 E0 N c5_35) := x_seq (by rfl) s
theorem x5_25 : execA E C (fg 5) B 156 E0 N c5_25 s = seqX (execA E C (fg 5) B 156 E0 N c5_26 s) (execA E C (fg 5) B 156 E0 N c5_33) := x_seq (by rfl) s
theorem x5_23 : execA E C (fg 5) B 156 E0 N c5_23 s = seqX (execA E C (fg 5) B 156 E0 N c5_24 s) (execA E C (fg 5) B 156 E0 N c5_25) := x_seq (by rfl) s
theorem x5_21 : execA E C (fg 5) B 156 E0 N c5_21 s = seqX (execA E C (fg 5) B 156 E0 N c5_22 s) (execA E C (fg 5) B 156 E0 N c5_23) := x_seq (by rfl) s
theorem x5_20 : execA E C (fg 5) B 156 E0 N c5_20 s = blockX 1 (fun s => (forget s.1 [], s.2)) (execA E C (fg 5) B 156 E0 N c5_21 s) := x_block (by rfl) (by rfl) s
noncomputable def c5_60 : Code := kR c5_19
noncomputable def r5_21 : Array Oper := kO c5_60
noncomputable def o5_21_0 : Oper := opN r5_21 0
noncomputable def o5_21_1 : Oper := opN r5_21 1
theorem x5_60 : execA E C (fg 5) B 156 E0 N c5_60 s = regX (runA E C B 156 r5_21 r5_21.toList s) (fun s => gcM E0 [133] (forget s.1 [133], s.2)) := x_reg (ops := r5_21) (by rfl) (by rfl) s
theorem r5_21_l : r5_21.toList = [o5_21_0, o5_21_1] := nrfl rfl
theorem s5_21_0 : stepA E C B 156 r5_21 o5_21_0 (φ, H) = stp (some 133) φ H (just (aBin E.T .add 3 (fget φ 30) (.int .i64 1))) := nrfl rfl
theorem s5_21_1 : stepA E C B 156 r5_21 o5_21_1 (φ, H) = some (fput φ 30 (fget φ 133), H) := nrfl rfl
theorem x5_19 : execA E C (fg 5) B 156 E0 N c5_19 s = seqX (execA E C (fg 5) B 156 E0 N c5_20 s) (execA E C (fg 5) B 156 E0 N c5_60) := x_seq (by rfl) s
theorem x5_15 : execA E C (fg 5) B 156 E0 N c5_15 s = seqX (execA E C (fg 5) B 156 E0 N c5_16 s) (execA E C (fg 5) B 156 E0 N c5_19) := x_seq (by rfl) s
theorem x5_13 : execA E C (fg 5) B 156 E0 N c5_13 s = seqX (execA E C (fg 5) B 156 E0 N c5_14 s) (execA E C (fg 5) B 156 E0 N c5_15) := x_seq (by rfl) s
theorem x5_12 : execA E C (fg 5) B 156 E0 N c5_12 s = iterA (execA E C (fg 5) B 156 E0 N c5_13) (headA E0) N s := x_loop (by rfl) s
theorem x5_11 : execA E C (fg 5) B 156 E0 N c5_11 s = blockX 0 (fun s => (forget s.1 [3, 29, 30, 31], s.2)) (execA E C (fg 5) B 156 E0 N c5_12 s) := x_block (by rfl) (by rfl) s
theorem x5_9 : execA E C (fg 5) B 156 E0 N c5_9 s = seqX (execA E C (fg 5) B 156 E0 N c5_10 s) (execA E C (fg 5) B 156 E0 N c5_11) := x_seq (by rfl) s
noncomputable def c5_61 : Code := kR c5_8
noncomputable def c5_62 : Code := kL c5_61
noncomputable def r5_22 : Array Oper := kO c5_62
noncomputable def o5_22_0 : Oper := opN r5_22 0
noncomputable def o5_22_1 : Oper := opN r5_22 1
noncomputable def o5_22_2 : Oper := opN r5_22 2
noncomputable def o5_22_3 : Oper := opN r5_22 3
noncomputable def o5_22_4 : Oper := opN r5_22 4
noncomputable def o5_22_5 : Oper := opN r5_22 5
noncomputable def o5_22_6 : Oper := opN r5_22 6
noncomputable def o5_22_7 : Oper := opN r5_22 7
noncomputable def o5_22_8 : Oper := opN r5_22 8
noncomputable def o5_22_9 : Oper := opN r5_22 9
noncomputable def o5_22_10 : Oper := opN r5_22 10
noncomputable def o5_22_11 : Oper := opN r5_22 11
noncomputable def o5_22_12 : Oper := opN r5_22 12
theorem x5_62 : execA E C (fg 5) B 156 E0 N c5_62 s = regX (runA E C B 156 r5_22 r5_22.toList s) (fun s => gcM E0 [5, 18, 19, 134, 135, 136, 137, 138, 139, 140, 141] (forget s.1 [5, 18, 19, 134, 135, 136, 137, 138, 139, 140, 141], s.2)) := x_reg (ops := r5_22) (by rfl) (by rfl) s
theorem r5_22_l : r5_22.toList = [o5_22_0, o5_22_1, o5_22_2, o5_22_3, o5_22_4, o5_22_5, o5_22_6, o5_22_7, o5_22_8, o5_22_9, o5_22_10, o5_22_11, o5_22_12] := nrfl rfl
theorem s5_22_0 : stepA E C B 156 r5_22 o5_22_0 (φ, H) = stp (some 135) φ H (just (aLoad E.T 22 (fget φ 5))) := nrfl rfl
theorem s5_22_1 : stepA E C B 156 r5_22 o5_22_1 (φ, H) = stp (some 136) φ H (just (aLoad E.T 22 (fget φ 5))) := nrfl rfl
theorem s5_22_2 : stepA E C B 156 r5_22 o5_22_2 (φ, H) = stp (some 137) φ H (aBuiltin E.T (B + 137) .len #[22] [(fget φ 136)]) := nrfl rfl
theorem s5_22_3 : stepA E C B 156 r5_22 o5_22_3 (φ, H) = stp (some 138) φ H (aCall C (fun j => B + j * 156 + 138) true 12 [(fget φ 135), (fget φ 137)]) := nrfl rfl
theorem s5_22_4 : stepA E C B 156 r5_22 o5_22_4 (φ, H) = some (fput φ 134 (fget φ 138), H) := nrfl rfl
theorem s5_22_5 : stepA E C B 156 r5_22 o5_22_5 (φ, H) = stp (some 139) φ H (opExtract (fget φ 134) 0) := nrfl rfl
theorem s5_22_6 : stepA E C B 156 r5_22 o5_22_6 (φ, H) = stp (some 140) φ H (opExtract (fget φ 134) 1) := nrfl rfl
theorem s5_22_7 : stepA E C B 156 r5_22 o5_22_7 (φ, H) = stp (some 141) φ H (opExtract (fget φ 134) 2) := nrfl rfl
theorem s5_22_8 : stepA E C B 156 r5_22 o5_22_8 (φ, H) = stp (some 18) φ H (opBox (B + 18) (zeroCells E.T 27)) := nrfl rfl
theorem s5_22_9 : stepA E C B 156 r5_22 o5_22_9 (φ, H) = stp (some 19) φ H (opBox (B + 19) (zeroCells E.T 27)) := nrfl rfl
theorem s5_22_10 : stepA E C B 156 r5_22 o5_22_10 (φ, H) = stp none φ H (opStore E.T 27 (fget φ 18) (fget φ 139)) := nrfl rfl
theorem s5_22_11 : stepA E C B 156 r5_22 o5_22_11 (φ, H) = stp none φ H (opStore E.T 27 (fget φ 19) (fget φ 140)) := nrfl rfl
theorem s5_22_12 : stepA E C B 156 r5_22 o5_22_12 (φ, H) = some (fput φ 20 (fget φ 141), H) := nrfl rfl
noncomputable def c5_63 : Code := kR c5_61
noncomputable def c5_64 : Code := kL c5_63
noncomputable def r5_23 : Array Oper := kO c5_64
noncomputable def o5_23_0 : Oper := opN r5_23 0
noncomputable def o5_23_1 : Oper := opN r5_23 1
noncomputable def o5_23_2 : Oper := opN r5_23 2
noncomputable def o5_23_3 : Oper := opN r5_23 3
noncomputable def o5_23_4 : Oper := opN r5_23 4
noncomputable def o5_23_5 : Oper := opN r5_23 5
noncomputable def o5_23_6 : Oper := opN r5_23 6
noncomputable def o5_23_7 : Oper := opN r5_23 7
noncomputable def o5_23_8 : Oper := opN r5_23 8
noncomputable def o5_23_9 : Oper := opN r5_23 9
noncomputable def o5_23_10 : Oper := opN r5_23 10
noncomputable def o5_23_11 : Oper := opN r5_23 11
noncomputable def o5_23_12 : Oper := opN r5_23 12
noncomputable def o5_23_13 : Oper := opN r5_23 13
noncomputable def o5_23_14 : Oper := opN r5_23 14
theorem x5_64 : execA E C (fg 5) B 156 E0 N c5_64 s = regX (runA E C B 156 r5_23 r5_23.toList s) (fun s => gcM E0 [6, 7, 8, 20, 142, 143, 144, 145, 146, 147, 148, 149, 150, 151, 152, 153, 154, 155] (forget s.1 [6, 7, 8, 20, 142, 143, 144, 145, 146, 147, 148, 149, 150, 151, 152, 153, 154, 155], s.2)) := x_reg (ops := r5_23) (by rfl) (by rfl) s
theorem r5_23_l : r5_23.toList = [o5_23_0, o5_23_1, o5_23_2, o5_23_3, o5_23_4, o5_23_5, o5_23_6, o5_23_7, o5_23_8, o5_23_9, o5_23_10, o5_23_11, o5_23_12, o5_23_13, o5_23_14] := nrfl rfl
theorem s5_23_0 : stepA E C B 156 r5_23 o5_23_0 (φ, H) = some (fput φ 142 (fget φ 7), H) := nrfl rfl
theorem s5_23_1 : stepA E C B 156 r5_23 o5_23_1 (φ, H) = stp (some 143) φ H (just (aBin E.T .eql 28 (fget φ 142) (.int .i64 0))) := nrfl rfl
theorem s5_23_2 : stepA E C B 156 r5_23 o5_23_2 (φ, H) = some (fput φ 144 (fget φ 143), H) := nrfl rfl
theorem s5_23_3 : stepA E C B 156 r5_23 o5_23_3 (φ, H) = gd φ 144 true (fun φ => some (fput φ 145 (.tup []), H)) (fun φ => some (fput φ 145 (fget φ 6), H)) := s_gd (j := 2) (oj := o5_23_2) rfl rfl rfl (fun _ => rfl) (fun _ => rfl)
theorem s5_23_4 : stepA E C B 156 r5_23 o5_23_4 (φ, H) = gd φ 144 true (fun φ => some (fput φ 146 (.tup []), H)) (fun φ => some (fput φ 146 (fget φ 8), H)) := s_gd (j := 2) (oj := o5_23_2) rfl rfl rfl (fun _ => rfl) (fun _ => rfl)
theorem s5_23_5 : stepA E C B 156 r5_23 o5_23_5 (φ, H) = gd φ 144 true (fun φ => some (fput φ 147 (.tup []), H)) (fun φ => stp (some 147) φ H (just (aBin E.T .eql 4 (fget φ 145) (fget φ 146)))) := s_gd (j := 2) (oj := o5_23_2) rfl rfl rfl (fun _ => rfl) (fun _ => rfl)
theorem s5_23_6 : stepA E C B 156 r5_23 o5_23_6 (φ, H) = stp (some 148) φ H (opPick (fget φ 144) (fget φ 147) (.bool false)) := nrfl rfl
theorem s5_23_7 : stepA E C B 156 r5_23 o5_23_7 (φ, H) = some (fput φ 149 (fget φ 148), H) := nrfl rfl
theorem s5_23_8 : stepA E C B 156 r5_23 o5_23_8 (φ, H) = gd φ 149 true (fun φ => some (fput φ 150 (.tup []), H)) (fun φ => some (fput φ 150 (fget φ 20), H)) := s_gd (j := 7) (oj := o5_23_7) rfl rfl rfl (fun _ => rfl) (fun _ => rfl)
theorem s5_23_9 : stepA E C B 156 r5_23 o5_23_9 (φ, H) = gd φ 149 true (fun φ => some (fput φ 151 (.tup []), H)) (fun φ => stp (some 151) φ H (just (aBin E.T .eql 28 (fget φ 150) (.int .i64 2)))) := s_gd (j := 7) (oj := o5_23_7) rfl rfl rfl (fun _ => rfl) (fun _ => rfl)
theorem s5_23_10 : stepA E C B 156 r5_23 o5_23_10 (φ, H) = stp (some 152) φ H (opPick (fget φ 149) (fget φ 151) (.bool false)) := nrfl rfl
theorem s5_23_11 : stepA E C B 156 r5_23 o5_23_11 (φ, H) = some (fput φ 153 (fget φ 152), H) := nrfl rfl
theorem s5_23_12 : stepA E C B 156 r5_23 o5_23_12 (φ, H) = gd φ 153 true (fun φ => some (fput φ 154 (.tup []), H)) (fun φ => stp (some 154) φ H (aCall C (fun j => B + j * 156 + 154) true 10 [])) := s_gd (j := 11) (oj := o5_23_11) rfl rfl rfl (fun _ => rfl) (fun _ => rfl)
theorem s5_23_13 : stepA E C B 156 r5_23 o5_23_13 (φ, H) = stp (some 155) φ H (opPick (fget φ 153) (fget φ 154) (.bool false)) := nrfl rfl
theorem s5_23_14 : stepA E C B 156 r5_23 o5_23_14 (φ, H) = some (fput φ 4 (fget φ 155), H) := nrfl rfl
noncomputable def c5_65 : Code := kR c5_63
theorem x5_65 : execA E C (fg 5) B 156 E0 N c5_65 s = some (.ret, s) := x_ret (by rfl) s
theorem x5_63 : execA E C (fg 5) B 156 E0 N c5_63 s = seqX (execA E C (fg 5) B 156 E0 N c5_64 s) (execA E C (fg 5) B 156 E0 N c5_65) := x_seq (by rfl) s
theorem x5_61 : execA E C (fg 5) B 156 E0 N c5_61 s = seqX (execA E C (fg 5) B 156 E0 N c5_62 s) (execA E C (fg 5) B 156 E0 N c5_63) := x_seq (by rfl) s
theorem x5_8 : execA E C (fg 5) B 156 E0 N c5_8 s = seqX (execA E C (fg 5) B 156 E0 N c5_9 s) (execA E C (fg 5) B 156 E0 N c5_61) := x_seq (by rfl) s
theorem x5_6 : execA E C (fg 5) B 156 E0 N c5_6 s = seqX (execA E C (fg 5) B 156 E0 N c5_7 s) (execA E C (fg 5) B 156 E0 N c5_8) := x_seq (by rfl) s
theorem x5_4 : execA E C (fg 5) B 156 E0 N c5_4 s = seqX (execA E C (fg 5) B 156 E0 N c5_5 s) (execA E C (fg 5) B 156 E0 N c5_6) := x_seq (by rfl) s
theorem x5_2 : execA E C (fg 5) B 156 E0 N c5_2 s = seqX (execA E C (fg 5) B 156 E0 N c5_3 s) (execA E C (fg 5) B 156 E0 N c5_4) := x_seq (by rfl) s
theorem x5_0 : execA E C (fg 5) B 156 E0 N c5_0 s = seqX (execA E C (fg 5) B 156 E0 N c5_1 s) (execA E C (fg 5) B 156 E0 N c5_2) := x_seq (by rfl) s
theorem fi_5 : fInfo E 5 = some ⟨156, #[.tmp 4], c5_0⟩ := nrfl rfl
theorem b_5 (args : List AV) : bodyA E C fg N 5 args H B = bodyX E [.tmp 4] (execA E C (fg 5) B 156 H N c5_0 (frame0 args 0 [], H)) := bodyA_eq fi_5 args H
noncomputable def c34_0 : Code := kBody Proofs.Try.f34
noncomputable def c34_1 : Code := kL c34_0
noncomputable def r34_0 : Array Oper := kO c34_1
noncomputable def o34_0_0 : Oper := opN r34_0 0
theorem x34_1 : execA E C (fg 34) B 36 E0 N c34_1 s = regX (runA E C B 36 r34_0 r34_0.toList s) (fun s => gcM E0 [] (forget s.1 [], s.2)) := x_reg (ops := r34_0) (by rfl) (by rfl) s
theorem r34_0_l : r34_0.toList = [o34_0_0] := nrfl rfl
theorem s34_0_0 : stepA E C B 36 r34_0 o34_0_0 (φ, H) = stp (some 4) φ H (opBox (B + 4) (zeroCells E.T 27)) := nrfl rfl
noncomputable def c34_2 : Code := kR c34_0
noncomputable def c34_3 : Code := kL c34_2
noncomputable def r34_1 : Array Oper := kO c34_3
noncomputable def o34_1_0 : Oper := opN r34_1 0
noncomputable def o34_1_1 : Oper := opN r34_1 1
theorem x34_3 : execA E C (fg 34) B 36 E0 N c34_3 s = regX (runA E C B 36 r34_1 r34_1.toList s) (fun s => gcM E0 [] (forget s.1 [], s.2)) := x_reg (ops := r34_1) (by rfl) (by rfl) s
theorem r34_1_l : r34_1.toList = [o34_1_0, o34_1_1] := nrfl rfl
theorem s34_1_0 : stepA E C B 36 r34_1 o34_1_0 (φ, H) = some (fput φ 5 (.int .i64 0), H) := nrfl rfl
theorem s34_1_1 : stepA E C B 36 r34_1 o34_1_1 (φ, H) = some (fput φ 6 (.int .i64 0), H) := nrfl rfl
noncomputable def c34_4 : Code := kR c34_2
noncomputable def c34_5 : Code := kL c34_4
noncomputable def c34_6 : Code := kL c34_5
noncomputable def r34_2 : Array Oper := kO c34_6
noncomputable def o34_2_0 : Oper := opN r34_2 0
noncomputable def o34_2_1 : Oper := opN r34_2 1
theorem x34_6 : execA E C (fg 34) B 36 E0 N c34_6 s = regX (runA E C B 36 r34_2 r34_2.toList s) (fun s => gcM E0 [1, 8] (forget s.1 [1, 8], s.2)) := x_reg (ops := r34_2) (by rfl) (by rfl) s
theorem r34_2_l : r34_2.toList = [o34_2_0, o34_2_1] := nrfl rfl
theorem s34_2_0 : stepA E C B 36 r34_2 o34_2_0 (φ, H) = stp (some 8) φ H (just (aLoad E.T 3 (fget φ 1))) := nrfl rfl
theorem s34_2_1 : stepA E C B 36 r34_2 o34_2_1 (φ, H) = some (fput φ 7 (fget φ 8), H) := nrfl rfl
noncomputable def c34_7 : Code := kR c34_5
noncomputable def c34_8 : Code := kB c34_7
noncomputable def c34_9 : Code := kB c34_8
noncomputable def c34_10 : Code := kL c34_9
noncomputable def c34_11 : Code := kL c34_10
noncomputable def r34_3 : Array Oper := kO c34_11
noncomputable def o34_3_0 : Oper := opN r34_3 0
noncomputable def o34_3_1 : Oper := opN r34_3 1
noncomputable def o34_3_2 : Oper := opN r34_3 2
noncomputable def o34_3_3 : Oper := opN r34_3 3
theorem x34_11 : execA E C (fg 34) B 36 E0 N c34_11 s = regX (runA E C B 36 r34_3 r34_3.toList s) (fun s => gcM E0 [9, 10, 11] (forget s.1 [9, 10, 11], s.2)) := x_reg (ops := r34_3) (by rfl) (by rfl) s
theorem r34_3_l : r34_3.toList = [o34_3_0, o34_3_1, o34_3_2, o34_3_3] := nrfl rfl
theorem s34_3_0 : stepA E C B 36 r34_3 o34_3_0 (φ, H) = some (fput φ 9 (fget φ 7), H) := nrfl rfl
theorem s34_3_1 : stepA E C B 36 r34_3 o34_3_1 (φ, H) = stp (some 10) φ H (just (aLoad E.T 22 (fget φ 2))) := nrfl rfl
theorem s34_3_2 : stepA E C B 36 r34_3 o34_3_2 (φ, H) = stp (some 11) φ H (aBuiltin E.T (B + 11) .len #[22] [(fget φ 10)]) := nrfl rfl
theorem s34_3_3 : stepA E C B 36 r34_3 o34_3_3 (φ, H) = stp (some 12) φ H (just (aBin E.T .lss 3 (fget φ 9) (fget φ 11))) := nrfl rfl
noncomputable def c34_12 : Code := kR c34_10
noncomputable def c34_13 : Code := kT c34_12
theorem x34_13 : execA E C (fg 34) B 36 E0 N c34_13 s = some (.normal, s) := x_skip (by rfl) s
noncomputable def c34_14 : Code := kE c34_12
theorem x34_14 : execA E C (fg 34) B 36 E0 N c34_14 s = some (.exit 0, s) := x_exit (by rfl) s
theorem x34_12 : execA E C (fg 34) B 36 E0 N c34_12 (φ, H) = condX (fget φ 12) (execA E C (fg 34) B 36 E0 N c34_13 (φ, H)) (execA E C (fg 34) B 36 E0 N c34_14 (φ, H)) := x_cond (by rfl) _
theorem x34_10 : execA E C (fg 34) B 36 E0 N c34_10 s = seqX (execA E C (fg 34) B 36 E0 N c34_11 s) (execA E C (fg 34) B 36 E0 N c34_12) := x_seq (by rfl) s
noncomputable def c34_15 : Code := kR c34_9
noncomputable def c34_16 : Code := kL c34_15
noncomputable def c34_17 : Code := kB c34_16
noncomputable def c34_18 : Code := kL c34_17
noncomputable def r34_5 : Array Oper := kO c34_18
noncomputable def o34_5_0 : Oper := opN r34_5 0
noncomputable def o34_5_1 : Oper := opN r34_5 1
noncomputable def o34_5_2 : Oper := opN r34_5 2
noncomputable def o34_5_3 : Oper := opN r34_5 3
noncomputable def o34_5_4 : Oper := opN r34_5 4
noncomputable def o34_5_5 : Oper := opN r34_5 5
noncomputable def o34_5_6 : Oper := opN r34_5 6
noncomputable def o34_5_7 : Oper := opN r34_5 7
noncomputable def o34_5_8 : Oper := opN r34_5 8
noncomputable def o34_5_9 : Oper := opN r34_5 9
noncomputable def o34_5_10 : Oper := opN r34_5 10
noncomputable def o34_5_11 : Oper := opN r34_5 11
noncomputable def o34_5_12 : Oper := opN r34_5 12
theorem x34_18 : execA E C (fg 34) B 36 E0 N c34_18 s = regX (drawA E C B 36 r34_5 s) (fun s => gcM E0 [12, 15, 16, 17, 18, 19, 20, 21, 22, 23, 24, 25, 26] (forget s.1 [12, 15, 16, 17, 18, 19, 20, 21, 22, 23, 24, 25, 26], s.2)) := x_draw (ops := r34_5) (by rfl) (by rfl) s
theorem r34_5_l : r34_5.toList = [o34_5_0, o34_5_1, o34_5_2, o34_5_3, o34_5_4, o34_5_5, o34_5_6, o34_5_7, o34_5_8, o34_5_9, o34_5_10, o34_5_11, o34_5_12] := nrfl rfl
theorem r34_5_st : statOk r34_5 = true := by kernel_rfl
theorem r34_5_dr : drawA E C B 36 r34_5 s = if neat 36 s = true then drX r34_5 (runT E C B 36 r34_5 r34_5.toList 0 s) else none := draw_eq r34_5_st s
theorem r34_5_an (l : List (Nat × Tr)) : dynOk r34_5 l = (!writing l || dynPairs [[], [], [], [1, 2], [1, 2, 3], [], [], [5, 6], [5, 6, 7], [5, 6, 7, 8], [1, 2, 3, 4, 5, 6, 7, 8, 9], [0, 1, 2, 3, 4, 5, 6, 7, 8, 9, 10], [0, 1, 2, 3, 4, 5, 6, 7, 8, 9, 10, 11]] (touching l)) := dynOk_eq (by kernel_rfl) l
theorem s34_5_0 : stepT E C B 36 r34_5 o34_5_0 (φ, H) = some ((fput φ 15 (fget φ 5), H), ⟨false, [], []⟩) := stT_go rfl (goT_mv rfl rfl)
theorem s34_5_1 : stepT E C B 36 r34_5 o34_5_1 (φ, H) = some ((fput φ 16 (fget φ 0), H), ⟨false, [], []⟩) := stT_go rfl (goT_mv rfl rfl)
theorem s34_5_2 : stepT E C B 36 r34_5 o34_5_2 (φ, H) = some ((fput φ 17 (fget φ 7), H), ⟨false, [], []⟩) := stT_go rfl (goT_mv rfl rfl)
theorem s34_5_3 : stepT E C B 36 r34_5 o34_5_3 (φ, H) = stpT (some 18) φ H (just (aIndexAddr E.T 47 (fget φ 16) (fget φ 17))) := stT_go rfl (goT_R rfl rfl)
theorem s34_5_4 : stepT E C B 36 r34_5 o34_5_4 (φ, H) = stpT (some 19) φ H (just (aLoad E.T 3 (fget φ 18))) := stT_go rfl (goT_R rfl rfl)
theorem s34_5_5 : stepT E C B 36 r34_5 o34_5_5 (φ, H) = stpT (some 20) φ H (just (aLoad E.T 22 (fget φ 2))) := stT_go rfl (goT_R rfl rfl)
theorem s34_5_6 : stepT E C B 36 r34_5 o34_5_6 (φ, H) = some ((fput φ 21 (fget φ 7), H), ⟨false, [], []⟩) := stT_go rfl (goT_mv rfl rfl)
theorem s34_5_7 : stepT E C B 36 r34_5 o34_5_7 (φ, H) = stpT (some 22) φ H (just (aIndexAddr E.T 22 (fget φ 20) (fget φ 21))) := stT_go rfl (goT_R rfl rfl)
theorem s34_5_8 : stepT E C B 36 r34_5 o34_5_8 (φ, H) = stpT (some 23) φ H (just (aFieldAddr E.T 45 (fget φ 22) 1)) := stT_go rfl (goT_R rfl rfl)
theorem s34_5_9 : stepT E C B 36 r34_5 o34_5_9 (φ, H) = stpT (some 24) φ H (just (aLoad E.T 3 (fget φ 23))) := stT_go rfl (goT_R rfl rfl)
theorem s34_5_10 : stepT E C B 36 r34_5 o34_5_10 (φ, H) = stpT (some 25) φ H (just (aBin E.T .mul 3 (fget φ 19) (fget φ 24))) := stT_go rfl (goT_R rfl rfl)
theorem s34_5_11 : stepT E C B 36 r34_5 o34_5_11 (φ, H) = stpT (some 26) φ H (just (aBin E.T .add 3 (fget φ 15) (fget φ 25))) := stT_go rfl (goT_R rfl rfl)
theorem s34_5_12 : stepT E C B 36 r34_5 o34_5_12 (φ, H) = some ((fput φ 5 (fget φ 26), H), ⟨false, [], []⟩) := stT_go rfl (goT_mv rfl rfl)
noncomputable def c34_19 : Code := kR c34_17
noncomputable def r34_6 : Array Oper := kO c34_19
noncomputable def o34_6_0 : Oper := opN r34_6 0
noncomputable def o34_6_1 : Oper := opN r34_6 1
noncomputable def o34_6_2 : Oper := opN r34_6 2
noncomputable def o34_6_3 : Oper := opN r34_6 3
noncomputable def o34_6_4 : Oper := opN r34_6 4
noncomputable def o34_6_5 : Oper := opN r34_6 5
noncomputable def o34_6_6 : Oper := opN r34_6 6
theorem x34_19 : execA E C (fg 34) B 36 E0 N c34_19 s = regX (runA E C B 36 r34_6 r34_6.toList s) (fun s => gcM E0 [27, 28, 29, 30, 31, 32] (forget s.1 [27, 28, 29, 30, 31, 32], s.2)) := x_reg (ops := r34_6) (by rfl) (by rfl) s
theorem r34_6_l : r34_6.toList = [o34_6_0, o34_6_1, o34_6_2, o34_6_3, o34_6_4, o34_6_5, o34_6_6] := nrfl rfl
theorem s34_6_0 : stepA E C B 36 r34_6 o34_6_0 (φ, H) = some (fput φ 27 (fget φ 6), H) := nrfl rfl
theorem s34_6_1 : stepA E C B 36 r34_6 o34_6_1 (φ, H) = some (fput φ 28 (fget φ 0), H) := nrfl rfl
theorem s34_6_2 : stepA E C B 36 r34_6 o34_6_2 (φ, H) = some (fput φ 29 (fget φ 7), H) := nrfl rfl
theorem s34_6_3 : stepA E C B 36 r34_6 o34_6_3 (φ, H) = stp (some 30) φ H (just (aIndexAddr E.T 47 (fget φ 28) (fget φ 29))) := nrfl rfl
theorem s34_6_4 : stepA E C B 36 r34_6 o34_6_4 (φ, H) = stp (some 31) φ H (just (aLoad E.T 3 (fget φ 30))) := nrfl rfl
theorem s34_6_5 : stepA E C B 36 r34_6 o34_6_5 (φ, H) = stp (some 32) φ H (just (aBin E.T .add 3 (fget φ 27) (fget φ 31))) := nrfl rfl
theorem s34_6_6 : stepA E C B 36 r34_6 o34_6_6 (φ, H) = some (fput φ 6 (fget φ 32), H) := nrfl rfl
theorem x34_17 : execA E C (fg 34) B 36 E0 N c34_17 s = seqX (execA E C (fg 34) B 36 E0 N c34_18 s) (execA E C (fg 34) B 36 E0 N c34_19) := x_seq (by rfl) s
theorem x34_16 : execA E C (fg 34) B 36 E0 N c34_16 s = blockX 1 (fun s => (forget s.1 [], s.2)) (execA E C (fg 34) B 36 E0 N c34_17 s) := x_block (by rfl) (by rfl) s
noncomputable def c34_20 : Code := kR c34_15
noncomputable def r34_4 : Array Oper := kO c34_20
noncomputable def o34_4_0 : Oper := opN r34_4 0
noncomputable def o34_4_1 : Oper := opN r34_4 1
noncomputable def o34_4_2 : Oper := opN r34_4 2
theorem x34_20 : execA E C (fg 34) B 36 E0 N c34_20 s = regX (runA E C B 36 r34_4 r34_4.toList s) (fun s => gcM E0 [13, 14] (forget s.1 [13, 14], s.2)) := x_reg (ops := r34_4) (by rfl) (by rfl) s
theorem r34_4_l : r34_4.toList = [o34_4_0, o34_4_1, o34_4_2] := nrfl rfl
theorem s34_4_0 : stepA E C B 36 r34_4 o34_4_0 (φ, H) = some (fput φ 13 (fget φ 7), H) := nrfl rfl
theorem s34_4_1 : stepA E C B 36 r34_4 o34_4_1 (φ, H) = stp (some 14) φ H (just (aBin E.T .add 3 (fget φ 13) (.int .i64 1))) := nrfl rfl
theorem s34_4_2 : stepA E C B 36 r34_4 o34_4_2 (φ, H) = some (fput φ 7 (fget φ 14), H) := nrfl rfl
theorem x34_15 : execA E C (fg 34) B 36 E0 N c34_15 s = seqX (execA E C (fg 34) B 36 E0 N c34_16 s) (execA E C (fg 34) B 36 E0 N c34_20) := x_seq (by rfl) s
theorem x34_9 : execA E C (fg 34) B 36 E0 N c34_9 s = seqX (execA E C (fg 34) B 36 E0 N c34_10 s) (execA E C (fg 34) B 36 E0 N c34_15) := x_seq (by rfl) s
theorem x34_8 : execA E C (fg 34) B 36 E0 N c34_8 s = iterA (execA E C (fg 34) B 36 E0 N c34_9) (headA E0) N s := x_loop (by rfl) s
theorem x34_7 : execA E C (fg 34) B 36 E0 N c34_7 s = blockX 0 (fun s => (forget s.1 [0, 2, 7, 12], s.2)) (execA E C (fg 34) B 36 E0 N c34_8 s) := x_block (by rfl) (by rfl) s
theorem x34_5 : execA E C (fg 34) B 36 E0 N c34_5 s = seqX (execA E C (fg 34) B 36 E0 N c34_6 s) (execA E C (fg 34) B 36 E0 N c34_7) := x_seq (by rfl) s
noncomputable def c34_21 : Code := kR c34_4
noncomputable def c34_22 : Code := kL c34_21
noncomputable def r34_7 : Array Oper := kO c34_22
noncomputable def o34_7_0 : Oper := opN r34_7 0
noncomputable def o34_7_1 : Oper := opN r34_7 1
noncomputable def o34_7_2 : Oper := opN r34_7 2
noncomputable def o34_7_3 : Oper := opN r34_7 3
theorem x34_22 : execA E C (fg 34) B 36 E0 N c34_22 s = regX (runA E C B 36 r34_7 r34_7.toList s) (fun s => gcM E0 [5, 6, 33, 34, 35] (forget s.1 [5, 6, 33, 34, 35], s.2)) := x_reg (ops := r34_7) (by rfl) (by rfl) s
theorem r34_7_l : r34_7.toList = [o34_7_0, o34_7_1, o34_7_2, o34_7_3] := nrfl rfl
theorem s34_7_0 : stepA E C B 36 r34_7 o34_7_0 (φ, H) = some (fput φ 33 (fget φ 5), H) := nrfl rfl
theorem s34_7_1 : stepA E C B 36 r34_7 o34_7_1 (φ, H) = some (fput φ 34 (fget φ 6), H) := nrfl rfl
theorem s34_7_2 : stepA E C B 36 r34_7 o34_7_2 (φ, H) = stp (some 35) φ H (aCall C (fun j => B + j * 36 + 35) true 35 [(fget φ 33), (fget φ 34)]) := nrfl rfl
theorem s34_7_3 : stepA E C B 36 r34_7 o34_7_3 (φ, H) = stp none φ H (opStore E.T 27 (fget φ 4) (fget φ 35)) := nrfl rfl
noncomputable def c34_23 : Code := kR c34_21
theorem x34_23 : execA E C (fg 34) B 36 E0 N c34_23 s = some (.ret, s) := x_ret (by rfl) s
theorem x34_21 : execA E C (fg 34) B 36 E0 N c34_21 s = seqX (execA E C (fg 34) B 36 E0 N c34_22 s) (execA E C (fg 34) B 36 E0 N c34_23) := x_seq (by rfl) s
theorem x34_4 : execA E C (fg 34) B 36 E0 N c34_4 s = seqX (execA E C (fg 34) B 36 E0 N c34_5 s) (execA E C (fg 34) B 36 E0 N c34_21) := x_seq (by rfl) s
theorem x34_2 : execA E C (fg 34) B 36 E0 N c34_2 s = seqX (execA E C (fg 34) B 36 E0 N c34_3 s) (execA E C (fg 34) B 36 E0 N c34_4) := x_seq (by rfl) s
theorem x34_0 : execA E C (fg 34) B 36 E0 N c34_0 s = seqX (execA E C (fg 34) B 36 E0 N c34_1 s) (execA E C (fg 34) B 36 E0 N c34_2) := x_seq (by rfl) s
theorem fi_34 : fInfo E 34 = some ⟨36, #[.cell 4 27], c34_0⟩ := nrfl rfl
theorem b_34 (args : List AV) : bodyA E C fg N 34 args H B = bodyX E [.cell 4 27] (execA E C (fg 34) B 36 H N c34_0 (frame0 args 0 [], H)) := bodyA_eq fi_34 args H
noncomputable def c38_0 : Code := kBody Proofs.Try.f38
noncomputable def c38_1 : Code := kL c38_0
noncomputable def r38_0 : Array Oper := kO c38_1
noncomputable def o38_0_0 : Oper := opN r38_0 0
noncomputable def o38_0_1 : Oper := opN r38_0 1
noncomputable def o38_0_2 : Oper := opN r38_0 2
noncomputable def o38_0_3 : Oper := opN r38_0 3
noncomputable def o38_0_4 : Oper := opN r38_0 4
theorem x38_1 : execA E C (fg 38) B 17 E0 N c38_1 s = regX (runA E C B 17 r38_0 r38_0.toList s) (fun s => gcM E0 [0, 1, 6, 7, 8] (forget s.1 [0, 1, 6, 7, 8], s.2)) := x_reg (ops := r38_0) (by rfl) (by rfl) s
theorem r38_0_l : r38_0.toList = [o38_0_0, o38_0_1, o38_0_2, o38_0_3, o38_0_4] := nrfl rfl
theorem s38_0_0 : stepA E C B 17 r38_0 o38_0_0 (φ, H) = stp (some 6) φ H (just (aLoad E.T 77 (fget φ 1))) := nrfl rfl
theorem s38_0_1 : stepA E C B 17 r38_0 o38_0_1 (φ, H) = some (fput φ 7 (fget φ 0), H) := nrfl rfl
theorem s38_0_2 : stepA E C B 17 r38_0 o38_0_2 (φ, H) = callV E C (B + 17 * 8) (some 8) (fun j => B + j * 17 + 8) φ H (fget φ 6) [(fget φ 7)] true := nrfl rfl
theorem s38_0_3 : stepA E C B 17 r38_0 o38_0_3 (φ, H) = stp (some 5) φ H (opBox (B + 5) (zeroCells E.T 27)) := nrfl rfl
theorem s38_0_4 : stepA E C B 17 r38_0 o38_0_4 (φ, H) = stp none φ H (opStore E.T 27 (fget φ 5) (fget φ 8)) := nrfl rfl
noncomputable def c38_2 : Code := kR c38_0
noncomputable def c38_3 : Code := kL c38_2
noncomputable def c38_4 : Code := kL c38_3
noncomputable def r38_1 : Array Oper := kO c38_4
noncomputable def o38_1_0 : Oper := opN r38_1 0
noncomputable def o38_1_1 : Oper := opN r38_1 1
noncomputable def o38_1_2 : Oper := opN r38_1 2
theorem x38_4 : execA E C (fg 38) B 17 E0 N c38_4 s = regX (runA E C B 17 r38_1 r38_1.toList s) (fun s => gcM E0 [9, 10] (forget s.1 [9, 10], s.2)) := x_reg (ops := r38_1) (by rfl) (by rfl) s
theorem r38_1_l : r38_1.toList = [o38_1_0, o38_1_1, o38_1_2] := nrfl rfl
theorem s38_1_0 : stepA E C B 17 r38_1 o38_1_0 (φ, H) = stp (some 9) φ H (just (aLoad E.T 27 (fget φ 5))) := nrfl rfl
theorem s38_1_1 : stepA E C B 17 r38_1 o38_1_1 (φ, H) = stp (some 10) φ H (just (aLoad E.T 27 (fget φ 2))) := nrfl rfl
theorem s38_1_2 : stepA E C B 17 r38_1 o38_1_2 (φ, H) = stp (some 11) φ H (aCall C (fun j => B + j * 17 + 11) true 39 [(fget φ 9), (fget φ 10)]) := nrfl rfl
noncomputable def c38_5 : Code := kR c38_3
noncomputable def c38_6 : Code := kT c38_5
noncomputable def r38_2 : Array Oper := kO c38_6
noncomputable def o38_2_0 : Oper := opN r38_2 0
noncomputable def o38_2_1 : Oper := opN r38_2 1
theorem x38_6 : execA E C (fg 38) B 17 E0 N c38_6 s = regX (runA E C B 17 r38_2 r38_2.toList s) (fun s => gcM E0 [2, 11, 12] (forget s.1 [2, 11, 12], s.2)) := x_reg (ops := r38_2) (by rfl) (by rfl) s
theorem r38_2_l : r38_2.toList = [o38_2_0, o38_2_1] := nrfl rfl
theorem s38_2_0 : stepA E C B 17 r38_2 o38_2_0 (φ, H) = stp (some 12) φ H (just (aLoad E.T 27 (fget φ 5))) := nrfl rfl
theorem s38_2_1 : stepA E C B 17 r38_2 o38_2_1 (φ, H) = stp none φ H (opStore E.T 27 (fget φ 2) (fget φ 12)) := nrfl rfl
noncomputable def c38_7 : Code := kE c38_5
theorem x38_7 : execA E C (fg 38) B 17 E0 N c38_7 s = some (.normal, s) := x_skip (by rfl) s
theorem x38_5 : execA E C (fg 38) B 17 E0 N c38_5 (φ, H) = condX (fget φ 11) (execA E C (fg 38) B 17 E0 N c38_6 (φ, H)) (execA E C (fg 38) B 17 E0 N c38_7 (φ, H)) := x_cond (by rfl) _
theorem x38_3 : execA E C (fg 38) B 17 E0 N c38_3 s = seqX (execA E C (fg 38) B 17 E0 N c38_4 s) (execA E C (fg 38) B 17 E0 N c38_5) := x_seq (by rfl) s
noncomputable def c38_8 : Code := kR c38_2
noncomputable def c38_9 : Code := kL c38_8
noncomputable def r38_3 : Array Oper := kO c38_9
noncomputable def o38_3_0 : Oper := opN r38_3 0
noncomputable def o38_3_1 : Oper := opN r38_3 1
noncomputable def o38_3_2 : Oper := opN r38_3 2
theorem x38_9 : execA E C (fg 38) B 17 E0 N c38_9 s = regX (runA E C B 17 r38_3 r38_3.toList s) (fun s => gcM E0 [2, 11, 13, 14] (forget s.1 [2, 11, 13, 14], s.2)) := x_reg (ops := r38_3) (by rfl) (by rfl) s
theorem r38_3_l : r38_3.toList = [o38_3_0, o38_3_1, o38_3_2] := nrfl rfl
theorem s38_3_0 : stepA E C B 17 r38_3 o38_3_0 (φ, H) = stp (some 13) φ H (just (aLoad E.T 27 (fget φ 3))) := nrfl rfl
theorem s38_3_1 : stepA E C B 17 r38_3 o38_3_1 (φ, H) = stp (some 14) φ H (just (aLoad E.T 27 (fget φ 5))) := nrfl rfl
theorem s38_3_2 : stepA E C B 17 r38_3 o38_3_2 (φ, H) = stp (some 15) φ H (aCall C (fun j => B + j * 17 + 15) true 39 [(fget φ 13), (fget φ 14)]) := nrfl rfl
noncomputable def c38_10 : Code := kR c38_8
noncomputable def c38_11 : Code := kT c38_10
noncomputable def r38_4 : Array Oper := kO c38_11
noncomputable def o38_4_0 : Oper := opN r38_4 0
noncomputable def o38_4_1 : Oper := opN r38_4 1
theorem x38_11 : execA E C (fg 38) B 17 E0 N c38_11 s = regX (runA E C B 17 r38_4 r38_4.toList s) (fun s => gcM E0 [3, 5, 15, 16] (forget s.1 [3, 5, 15, 16], s.2)) := x_reg (ops := r38_4) (by rfl) (by rfl) s
theorem r38_4_l : r38_4.toList = [o38_4_0, o38_4_1] := nrfl rfl
theorem s38_4_0 : stepA E C B 17 r38_4 o38_4_0 (φ, H) = stp (some 16) φ H (just (aLoad E.T 27 (fget φ 5))) := nrfl rfl
theorem s38_4_1 : stepA E C B 17 r38_4 o38_4_1 (φ, H) = stp none φ H (opStore E.T 27 (fget φ 3) (fget φ 16)) := nrfl rfl
noncomputable def c38_12 : Code := kE c38_10
theorem x38_12 : execA E C (fg 38) B 17 E0 N c38_12 s = some (.normal, s) := x_skip (by rfl) s
theorem x38_10 : execA E C (fg 38) B 17 E0 N c38_10 (φ, H) = condX (fget φ 15) (execA E C (fg 38) B 17 E0 N c38_11 (φ, H)) (execA E C (fg 38) B 17 E0 N c38_12 (φ, H)) := x_cond (by rfl) _
theorem x38_8 : execA E C (fg 38) B 17 E0 N c38_8 s = seqX (execA E C (fg 38) B 17 E0 N c38_9 s) (execA E C (fg 38) B 17 E0 N c38_10) := x_seq (by rfl) s
theorem x38_2 : execA E C (fg 38) B 17 E0 N c38_2 s = seqX (execA E C (fg 38) B 17 E0 N c38_3 s) (execA E C (fg 38) B 17 E0 N c38_8) := x_seq (by rfl) s
theorem x38_0 : execA E C (fg 38) B 17 E0 N c38_0 s = seqX (execA E C (fg 38) B 17 E0 N c38_1 s) (execA E C (fg 38) B 17 E0 N c38_2) := x_seq (by rfl) s
theorem fi_38 : fInfo E 38 = some ⟨17, #[], c38_0⟩ := nrfl rfl
theorem b_38 (args : List AV) : bodyA E C fg N 38 args H B = bodyX E [] (execA E C (fg 38) B 17 H N c38_0 (frame0 args 0 [], H)) := bodyA_eq fi_38 args H
end Go.AM.Ytmhbnflnlglljaa
end

section
namespace Go.AM.Ytmhbnflnlglljaa
open Go Go.AM
set_option maxRecDepth 100000
set_option maxHeartbeats 8000000
def ctrS (l : List Stone) (i : Nat) (ws : List Int) (m : Nat) : Int := sumF (fun k => ws.getD k 0 * (l.getD k default).pos) i m
def ctrW (i : Nat) (ws : List Int) (m : Nat) : Int := sumF (fun k => ws.getD k 0) i m
/-- The law's centre. -/
def ctrF (l : List Stone) (i : Nat) (ws : List Int) : Fr := rd (ctrS l i ws (l.length - i)) (ctrW i ws (l.length - i))
theorem ctr_b {l : List Stone} {ws : List Int} (ok : OkP l) (hw : weighE l ws = 0) {i : Nat} : ∀ m, i + m ≤ l.length → (m : Int) ≤ ctrW i ws m ∧ ctrW i ws m ≤ 9 * m ∧ -(33554432 * ctrW i ws m) ≤ ctrS l i ws m ∧ ctrS l i ws m ≤ 33554432 * ctrW i ws m
  | 0, _ => by simp [ctrW, ctrS, sumF]
  | m + 1, hm => by
    obtain ⟨h1, h2, h3, h4⟩ := ctr_b ok hw (i := i) m (by omega)
    obtain ⟨s, hs⟩ := at_ex (l := l) (k := i + m) (by omega)
    obtain ⟨w, hwa⟩ := at_ex (l := ws) (k := i + m) (by have := weigh_len hw; omega)
    obtain ⟨a1, a2⟩ := weighE_at hw hs hwa
    obtain ⟨_, _, p1, p2, l1, lm, m9⟩ := ok.fits _ s hs
    have e1 : ctrW i ws (m + 1) = ctrW i ws m + w := by simp only [ctrW, sumF]; simp [hwa]
    have e2 : ctrS l i ws (m + 1) = ctrS l i ws m + w * s.pos := by simp only [ctrS, sumF]; simp [hwa, hs]
    have b1 : w * s.pos ≤ w * 33554432 := Int.mul_le_mul_of_nonneg_left p2 (by omega)
    have b2 : w * -33554432 ≤ w * s.pos := Int.mul_le_mul_of_nonneg_left p1 (by omega)
    rw [e1, e2]
    omega
abbrev ceS (l : List Stone) (ws : List Int) (ex ex' : Bool) (i k : Nat) : St := ([(7, .int .i64 k), (6, .int .i64 (ctrW i ws (k - i))), (5, .int .i64 (ctrS l i ws (k - i))), (4, .ptr 4 0 2), (2, .iptr [.imm (pcells l) l.length ex] 0), (0, .imm (icells ws) l.length ex')], [(4, ⟨.box, [.int .i64 0, .int .i64 0]⟩)])
theorem centre_run {d : Nat} {l : List Stone} {ws : List Int} {ex ex' : Bool} (ok : OkP l) (hw : weighE l ws = 0) {i : Nat} (hi : i < l.length) :
    rsOf (callA E fg 1000 (d + 3) 34 [.imm (icells ws) l.length ex', .iptr [.int .i64 i] 0, .iptr [.imm (pcells l) l.length ex] 0] [] 0) = some (.agg (frc (ctrF l i ws))) := by
  change rsOf (bodyA E (callA E fg 1000 (d + 2)) fg 1000 34 _ _ _) = _
  have h5 := ok.le
  have hlw := weigh_len hw
  have hloop := iter_all (f := execA E (callA E fg 1000 (d + 2)) (fg 34) 0 36 [] 1000 c34_9) (hd := headA []) (ceS l ws ex ex' i) (l.length - i) 1000 i
    (ceS l ws ex ex' i i) (by rfl) (by omega) (fun k h1 h2 => by
      have hk : k < l.length := by omega
      obtain ⟨s, hs⟩ := at_ex hk
      obtain ⟨w, hwa⟩ := at_ex (l := ws) (k := k) (by omega)
      obtain ⟨a1, a2⟩ := weighE_at hw hs hwa
      obtain ⟨b1, b2, b3, b4⟩ := ctr_b ok hw (i := i) (k - i) (by omega)
      obtain ⟨_, _, p1, p2, l1, lm, m9⟩ := ok.fits _ s hs
      have c1 : w * s.pos ≤ w * 33554432 := Int.mul_le_mul_of_nonneg_left p2 (by omega)
      have c2 : w * -33554432 ≤ w * s.pos := Int.mul_le_mul_of_nonneg_left p1 (by omega)
      have ei : i + (k - i) = k := by omega
      have e1 : ctrW i ws (k + 1 - i) = ctrW i ws (k - i) + w := by rw [show k + 1 - i = k - i + 1 by omega]; simp only [ctrW, sumF]; simp [ei, hwa]
      have e2 : ctrS l i ws (k + 1 - i) = ctrS l i ws (k - i) + w * s.pos := by rw [show k + 1 - i = k - i + 1 by omega]; simp only [ctrS, sumF]; simp [ei, hwa, hs]
      have f1 : (pcells l)[k * 4 + 1]? = some (.int .i64 s.pos) := pcells_field l k s 1 hs (by omega)
      have lw : (icells ws).length = l.length := by rw [icells_length, hlw]
      rw [show ceS l ws ex ex' i (k + 1) = ([(7, .int .i64 (k + 1 : Nat)), (6, .int .i64 (ctrW i ws (k - i) + w)), (5, .int .i64 (ctrS l i ws (k - i) + w * s.pos)), (4, .ptr 4 0 2), (2, .iptr [.imm (pcells l) l.length ex] 0), (0, .imm (icells ws) l.length ex')], [(4, ⟨.box, [.int .i64 0, .int .i64 0]⟩)]) by simp only [ceS, e1, e2]]
      simp (disch := omega) only [condX_bool, blockX_normal, Bool.not_true, Bool.not_false, run_nil, run_cons, fget_cons', fput_cons', forget_nil, forget_cons', gcM_c, stp, just, Rd.bind, Rd.run, Rd.opt, upds, tsz, rdCells, fieldOf, aFieldAddr, aLoad, aIndexAddr, aNum, aLen, aBuiltin, aBin, aInt, Nat.reduceAdd, Nat.reduceLT, Nat.reduceBEq, Nat.reduceEqDiff, Nat.reduceLeDiff, ↓reduceIte, reduceCtorEq, Nat.zero_add, List.getElem?_toArray, rtX_some, addT_some, drX_some, runT_nil, runT_cons, neat_eq, descF_nil', descF_cons', ascH_nil', ascH_cons', stpT, Rd.foot, writing, touching, Tr.empty, dynPairs, List.isEmpty_nil, List.map_nil, Bool.not_false, Bool.not_true, Bool.or_true, Bool.or_false, Bool.and_self, decide_true, putD_some, and_true, Int.natCast_nonneg, Int.ofNat_lt, Int.toNat_natCast, List.elem_cons, List.elem_nil, List.getElem?_cons_zero, List.getElem?_cons_succ, seqN, bindN, regN, Nat.le_refl, Nat.mul_one, beq_self_eq_true, Bool.false_eq_true, T_3, T_22, T_45, T_47, x34_11, r34_3_l, s34_3_0, s34_3_1, s34_3_2, s34_3_3, x34_13, x34_14, x34_12, x34_10, x34_18, r34_5_l, r34_5_dr, r34_5_an, s34_5_0, s34_5_1, s34_5_2, s34_5_3, s34_5_4, s34_5_5, s34_5_6, s34_5_7, s34_5_8, s34_5_9, s34_5_10, s34_5_11, s34_5_12, x34_19, r34_6_l, s34_6_0, s34_6_1, s34_6_2, s34_6_3, s34_6_4, s34_6_5, s34_6_6, x34_17, x34_16, x34_20, r34_4_l, s34_4_0, s34_4_1, s34_4_2, x34_15, x34_9, beq_self_eq_true, ceS, hk, f1, pcells_length, lw, icells_at hwa, wrp64, wrp_succ (show k < 1000000 by omega), Nat.zero_add]
      exact ⟨_, rfl, rfl⟩) (e := .exit 0) (se := ((12, .bool false) :: (ceS l ws ex ex' i l.length).1, [(4, ⟨.box, [.int .i64 0, .int .i64 0]⟩)])) (by
      rw [show i + (l.length - i) = l.length by omega]
      simp only [seqX_exit, condX_bool, run_nil, run_cons, fget_cons', fput_cons', forget_nil, forget_cons', gcM_c, stp, just, Rd.bind, Rd.run, Rd.opt, upds, rdCells, aLoad, aLen, aBuiltin, aBin, aInt, Nat.reduceBEq, Nat.reduceEqDiff, Nat.reduceLeDiff, ↓reduceIte, List.getElem?_toArray, decide_false, putD_some, List.elem_cons, List.elem_nil, List.getElem?_cons_zero, seqN, bindN, regN, beq_self_eq_true, Int.lt_irrefl, Bool.false_eq_true, T_22, x34_11, r34_3_l, s34_3_0, s34_3_1, s34_3_2, s34_3_3, x34_13, x34_14, x34_12, x34_10, x34_9, ceS, Int.lt_irrefl, decide_false, Bool.false_eq_true]) (by simp)
  obtain ⟨b1, b2, b3, b4⟩ := ctr_b ok hw (i := i) (l.length - i) (by omega)
  have hr := fun (site : Nat → Nat) seen => ratio_call (d := d) (site := site) (seen := seen) (num := ctrS l i ws (l.length - i)) (den := ctrW i ws (l.length - i)) (by omega) (by omega)
  have z : ∀ F : Nat → Int, sumF F i 0 = 0 := fun F => rfl
  simp only [ceS, Nat.sub_self, ctrS, ctrW, z] at hloop
  simp only [ctrS, ctrW] at hr
  simp only [frc] at hr
  simp (disch := omega) only [blockX_exit, bodyX_ret, run_nil, run_cons, fget_cons', fput_cons', forget_nil, forget_cons', hget_nil', hget_cons', hset_nil', hset_cons', frame0, gcM_n, gcM_c, stp, opBox, just, Rd.bind, Rd.run, Rd.opt, upds, acells, zeroCells, tsz, rdCells, aLoad, aStore, opStore, resA, resL, fresh, putC, Nat.reduceAdd, Nat.reduceBEq, Nat.reduceEqDiff, Nat.reduceLeDiff, ↓reduceIte, liveBlk_eq, Nat.zero_add, List.nil_append, putD_some, putD_none, and_true, aCall, snaps, List.append_nil, Option.map_some, List.elem_cons, List.elem_nil, List.length_cons, List.length_nil, List.getElem?_cons_zero, List.drop_zero, List.take_succ_cons, List.take_nil, List.set_cons_zero, List.set_cons_succ, frz_nil, seqN, bindN, regN, snap_int, Nat.le_refl, List.not_mem_nil, beq_self_eq_true, Bool.false_eq_true, T_3, T_27, x34_1, r34_0_l, s34_0_0, x34_3, r34_1_l, s34_1_0, s34_1_1, x34_6, r34_2_l, s34_2_0, s34_2_1, x34_8, x34_7, x34_5, x34_22, r34_7_l, s34_7_0, s34_7_1, s34_7_2, s34_7_3, x34_23, x34_21, x34_4, x34_2, x34_0, b_34, hloop, hr, frc, ctrF, ctrS, ctrW, putC]
theorem centre_call {d : Nat} {site : Nat → Nat} {seen : List Nat} {l : List Stone} {ws : List Int} {ex ex' : Bool} (ok : OkP l) (hw : weighE l ws = 0) {i : Nat} (hi : i < l.length) :
    aBack site true seen (thaw (callA E fg 1000 (d + 3)) 34 [.imm (icells ws) l.length ex', .iptr [.int .i64 i] 0, .iptr [.imm (pcells l) l.length ex] 0] [] 0) = .pure (.agg (frc (ctrF l i ws)), []) :=
  aBack_frac (rs_ex (centre_run ok hw hi))
theorem centre_pure (caps args : List AV) : mutV E (.clo 34 caps) args = none := rfl
theorem ctr_fair {l : List Stone} {ws : List Int} (ok : OkP l) (hw : weighE l ws = 0) {i : Nat} (hi : i < l.length) : Fair (ctrF l i ws) := by
  have h5 := ok.le
  obtain ⟨b1, b2, b3, b4⟩ := ctr_b ok hw (i := i) (l.length - i) (by omega)
  unfold ctrF
  generalize ctrS l i ws (l.length - i) = S at *
  generalize ctrW i ws (l.length - i) = W at *
  obtain ⟨p1, p2⟩ := rd_den (num := S) (den := W) (by omega)
  have p3 := rdN_b (num := S) (den := W) (by omega)
  have p4 : (rd S W).num = rdN S W := rfl
  exact ⟨p1, by omega, by omega, by omega, rd_coprime (by omega)⟩
abbrev spX (b0 b1 b2 b3 b4 : Int) (l : List Stone) (i : Nat) (f1 f2 lo hi : Fr) (ws0 : List Int) : AHeap := [(3, ⟨.box, [.int .u8 b0, .int .u8 b1, .int .u8 b2, .int .u8 b3, .int .u8 b4]⟩), (5, ⟨.box, [.ref 22 0 l.length l.length (l.length * 4) 4 false]⟩), (9, ⟨.box, [.int .i64 i]⟩), (10, ⟨.box, [.int .i64 f1.num, .int .i64 f1.den]⟩), (11, ⟨.box, [.int .i64 f2.num, .int .i64 f2.den]⟩), (13, ⟨.box, [.clo 34 [.ptr 9 0 1, .ptr 5 0 1]]⟩), (14, ⟨.box, [.int .i64 lo.num, .int .i64 lo.den]⟩), (15, ⟨.box, [.int .i64 hi.num, .int .i64 hi.den]⟩), (22, ⟨.froz, pcells l⟩), (56, ⟨.row, icells ws0⟩), (61, ⟨.row, icells ws0⟩)]
def blw (f g : Fr) : Prop := f.num * g.den < g.num * f.den
instance (f g : Fr) : Decidable (blw f g) := inferInstanceAs (Decidable (_ < _))
theorem visit_run {d : Nat} {b0 b1 b2 b3 b4 : Int} {l : List Stone} {i : Nat} {f1 f2 lo hi : Fr} {ws0 w : List Int} (ok : OkP l) (hw : weighE l w = 0) (hil : i < l.length) (flo : Fair lo) (fhi : Fair hi) {id : Nat} (hid : id = 1278 ∨ id = 1283) :
    callA E fg 1000 (d + 4) 38 [.ref id 0 l.length l.length l.length 1 false, .ptr 13 0 1, .ptr 14 0 2, .ptr 15 0 2] (spX b0 b1 b2 b3 b4 l i f1 f2 lo hi ws0 ++ [(id, ⟨.row, icells w⟩)]) 1576 =
      some (.tup [], spX b0 b1 b2 b3 b4 l i f1 f2 (if blw (ctrF l i w) lo then ctrF l i w else lo) (if blw hi (ctrF l i w) then ctrF l i w else hi) ws0 ++ [(id, ⟨.row, icells w⟩), (1581, ⟨.box, frc (ctrF l i w)⟩)]) := by
  change bodyA E (callA E fg 1000 (d + 3)) fg 1000 38 _ _ _ = _
  have hlw := weigh_len hw
  have hc := fun (site : Nat → Nat) seen => centre_call (d := d) (site := site) (seen := seen) (ex := false) (ex' := false) ok hw hil
  have fc := ctr_fair ok hw hil
  have c1 := fun (site : Nat → Nat) seen => below_call (d := d + 2) (site := site) (seen := seen) fc flo
  have c2 := fun (site : Nat → Nat) seen => below_call (d := d + 2) (site := site) (seen := seen) fhi fc
  have tw : List.take l.length (icells w) = icells w := List.take_of_length_le (by rw [icells_length, hlw]; exact Nat.le_refl _)
  have lw : (icells w).length = l.length := by rw [icells_length, hlw]
  have tp := take_pcs l
  generalize ctrF l i w = c at *
  simp only [frc] at hc
  by_cases h1 : c.num * lo.den < lo.num * c.den <;> by_cases h2 : hi.num * c.den < c.num * hi.den <;> rcases hid with rfl | rfl <;>
  simp (disch := omega) only [condX_bool, bodyX_normal, run_nil, run_cons, fget_cons', fput_cons', forget_nil, forget_cons', hget_nil', hget_cons', hset_nil', hset_cons', frame0, gcM_c, stp, opBox, just, Rd.bind, Rd.run, Rd.opt, upds, acells, zeroCells, tsz, rdCells, aLoad, aStore, opStore, resA, resL, fresh, putC, Nat.reduceAdd, Nat.reduceMul, Nat.reduceBEq, Nat.reduceEqDiff, Nat.reduceLeDiff, ↓reduceIte, reduceCtorEq, liveBlk_eq, Nat.zero_add, List.nil_append, Bool.and_true, decide_true, decide_false, putD_some, putD_none, and_true, aCall, snaps, List.append_nil, Option.map_some, List.elem_cons, List.elem_nil, List.length_cons, List.length_nil, List.getElem?_cons_zero, List.drop_zero, List.take_succ_cons, List.take_nil, List.set_cons_zero, List.set_cons_succ, frz_nil, seqN, bindN, regN, snap_int, snap_ref, snap_ptr', snap_agg, opCallV, List.cons_append, Nat.le_refl, Nat.mul_one, List.not_mem_nil, beq_self_eq_true, Bool.false_eq_true, T_27, T_77, x38_1, r38_0_l, s38_0_0, s38_0_1, s38_0_2, s38_0_3, s38_0_4, x38_4, r38_1_l, s38_1_0, s38_1_1, s38_1_2, x38_6, r38_2_l, s38_2_0, s38_2_1, x38_7, x38_5, x38_3, x38_9, r38_3_l, s38_3_0, s38_3_1, s38_3_2, x38_11, r38_4_l, s38_4_0, s38_4_1, x38_12, x38_10, x38_8, x38_2, x38_0, b_38, spX, blw, h1, h2, hc, c1, c2, tw, lw, tp, pcells_length, frc, callV_eq (centre_pure _ _), fi_34, decide_true, decide_false, beq_self_eq_true, putC, Nat.zero_add, List.drop_zero, List.set_cons_zero, List.set_cons_succ]
end Go.AM.Ytmhbnflnlglljaa
end
