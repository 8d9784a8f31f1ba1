/- A part of the proof of rubRows_holds: RuC, RuD, RuE, RvA, RvB, RvC, SyC, RuF, RxA, WksR, RyA. Own work of this project; texts printed by own programs among it. -/
import Derived.KernelRfl
import Derived.Test.YtfmnoohhhokicaaRaI
section
namespace Go.AM.Ytfmnoohhhokicaa
open Go Go.AM Go.AM.Rub
set_option maxRecDepth 100000
set_option maxHeartbeats 4000000
def moF (r : List Int) (i : Nat) : Int := if i = 0 then 8 else rowF r i - rowF r (i - 1)
def rwE (r : List Int) (i : Nat) : Int := if rowF r (i + 1) < rowF r i ∨ rowF r (i + 1) > rowF r i + 8 then 1 else if rowF r (i + 1) - rowF r i > moF r i then 7 else 0
def rowE (r : List Int) : Int := if r.length < 2 then 4 else if rowF r 0 ≠ 0 then 5 else if r.length > 7 then 3 else fe (rwE r) 0 (r.length - 1)
def rwP (r : List Int) (i : Nat) : List Int := (List.range i).map fun k => rowF r (k + 1) - rowF r k
theorem rwP_len (r : List Int) (i : Nat) : (rwP r i).length = i := by simp [rwP]
theorem rwP_snoc (r : List Int) (i : Nat) : rwP r (i + 1) = rwP r i ++ [rowF r (i + 1) - rowF r i] := by simp [rwP, List.range_succ]
theorem rw_bd {r : List Int} (h0 : rowF r 0 = 0) : ∀ i, (∀ j, j < i → rwE r j = 0) → 0 ≤ rowF r i ∧ rowF r i ≤ 8 * i ∧ -100 ≤ moF r i ∧ moF r i ≤ 100
  | 0, _ => by simp [h0, moF]
  | i + 1, h => by
    have := rw_bd h0 i fun j hj => h j (by omega)
    have he := h i (by omega)
    unfold rwE at he
    split at he
    · exact absurd he (by decide)
    · unfold moF
      rw [if_neg (by omega), show i + 1 - 1 = i by omega]
      omega
abbrev rwS (r : List Int) (ex : Bool) (i : Nat) : St := ([(25, .int .i64 i), (24, .int .i64 ((r.length - 1 : Nat) : Int)), (23, .imm (ics r.tail) (r.length - 1) ex), (6, .int .i64 (moF r i)), (5, .int .i64 (rowF r i)), (4, oV 52 1 i)], oH 52 (ics (rwP r i)))
theorem tail_at {r : List Int} {i : Nat} (h : i < r.length - 1) : (ics r.tail)[i]? = some (.int .i64 (rowF r (i + 1))) := by
  refine ics_at ?_
  rw [List.getElem?_tail]
  exact rowF_at (by omega)
theorem rw_go {C : Callee} {r : List Int} {ex : Bool} (h0 : rowF r 0 = 0) (h7 : r.length ≤ 7) (i : Nat) (hi : i < r.length - 1) (hz : ∀ j, j < i → rwE r j = 0) (he : rwE r i = 0) :
    ∃ s', (execA E C (fg 20) 0 55 [] 1000000 c20_32) (rwS r ex i) = some (.normal, s') ∧ headA [] s' = rwS r ex (i + 1) := by
  obtain ⟨b1, b2, b3, b4⟩ := rw_bd h0 i hz
  have hat := tail_at hi
  have hlen : (ics r.tail).length = r.length - 1 := by rw [ics_length, List.length_tail]
  have g1 : (i : Int) < ((r.length - 1 : Nat) : Int) := by omega
  unfold rwE at he
  split at he
  · exact absurd he (by decide)
  · split at he
    · exact absurd he (by decide)
    · rename_i a b
      have a1 : ¬ rowF r (i + 1) < rowF r i := by omega
      have a2 : ¬ rowF r (i + 1) > rowF r i + 8 := by omega
      have w1 : wrp .i64 (rowF r (i + 1) - rowF r i) = rowF r (i + 1) - rowF r i := wrp64 (by omega)
      have w2 : wrp .i64 (rowF r i + 8) = rowF r i + 8 := wrp64 (by omega)
      have em : moF r (i + 1) = rowF r (i + 1) - rowF r i := by unfold moF; rw [if_neg (by omega)]; rfl
      have hsn := ics_snoc (rwP r i) (rowF r (i + 1) - rowF r i)
      have hrl : (ics (rwP r i)).length = i := by rw [ics_length, rwP_len]
      simp only [rwS]
      rw [ov_pos (show 0 < i + 1 by omega), ohi_pos (l := rwP r (i + 1)) (by rw [rwP_len]; omega), rwP_snoc, ← hsn, em]
      rcases Nat.eq_zero_or_pos i with hp | hp
      · subst hp
        have e0 : ics (rwP r 0) = [] := rfl
        rw [e0, ov_zero]
        have oh0 : oH 52 [] = [] := rfl
        rw [oh0]
        simp (disch := omega) only [ZF, ↓gd, stp, opPick, just, Rd.bind, Rd.run, Rd.opt, upds, acells, zeroCells, tsz, elemT, rdCells, aLoad, fresh, aIndexAddr, aNum, aBuiltin, aBin, aInt, putC, evO, Nat.reduceAdd, Nat.reduceLT, Nat.reduceBEq, Nat.reduceEqDiff, Nat.reduceLeDiff, ↓reduceIte, reduceCtorEq, aBuildSlice, aBuildAt, partsOf, fillA, repC, isSliceT, aAppend, srcOf, window, snaps, Int.reduceLE, Int.reduceToNat, ZT, F_20, hat, hlen, a1, a2, b, w1, w2, cl0, if_pos, room22 (show 1 ≤ 1000000 by omega)]
        exact ⟨_, rfl, rfl⟩
      · rw [ov_pos hp, ohi_pos (by rw [rwP_len]; exact hp)]
        have htk : List.take i (ics (rwP r i)) = ics (rwP r i) := List.take_of_length_le (by omega)
        have hno : ¬ i + 1 ≤ i := by omega
        generalize ics (rwP r i) = L at *
        simp (disch := omega) only [ZF, ↓gd, stp, opPick, just, Rd.bind, Rd.run, Rd.opt, upds, acells, zeroCells, tsz, elemT, rdCells, aLoad, fresh, aIndexAddr, aNum, aBuiltin, aBin, aInt, putC, evO, Nat.reduceAdd, Nat.reduceLT, Nat.reduceBEq, Nat.reduceEqDiff, Nat.reduceLeDiff, ↓reduceIte, reduceCtorEq, aBuildSlice, aBuildAt, partsOf, fillA, repC, isSliceT, aAppend, srcOf, window, snaps, ZT, F_20, g1, hat, hlen, hrl, htk, hno, a1, a2, b, w1, w2, room22 (show i + 1 ≤ 1000000 by omega), wrp_succ (show i < 1000000 by omega)]
        exact ⟨_, rfl, rfl⟩
theorem rw_bad {C : Callee} {r : List Int} {ex : Bool} (h0 : rowF r 0 = 0) (h7 : r.length ≤ 7) (i : Nat) (hi : i < r.length - 1) (hz : ∀ j, j < i → rwE r j = 0) (he : rwE r i ≠ 0) :
    ∃ H, (execA E C (fg 20) 0 55 [] 1000000 c20_32) (rwS r ex i) = some (.ret, ([(3, .int .i64 (rwE r i)), (2, .nilsl)], H)) := by
  obtain ⟨b1, b2, b3, b4⟩ := rw_bd h0 i hz
  have hat := tail_at hi
  have hlen : (ics r.tail).length = r.length - 1 := by rw [ics_length, List.length_tail]
  have g1 : (i : Int) < ((r.length - 1 : Nat) : Int) := by omega
  have w2 : wrp .i64 (rowF r i + 8) = rowF r i + 8 := wrp64 (by omega)
  unfold rwE at he ⊢
  by_cases a : rowF r (i + 1) < rowF r i ∨ rowF r (i + 1) > rowF r i + 8
  · rw [if_pos a]
    by_cases a1 : rowF r (i + 1) < rowF r i
    · simp (disch := omega) only [ZF, ↓gd, stp, opPick, just, Rd.bind, Rd.run, Rd.opt, upds, tsz, rdCells, aLoad, aIndexAddr, aNum, aBin, aInt, Nat.reduceLT, Nat.reduceBEq, Nat.reduceEqDiff, Nat.reduceLeDiff, ↓reduceIte, reduceCtorEq, ZT, F_20, g1, hat, hlen, a1]
      exact ⟨_, rfl⟩
    · have a2 : rowF r (i + 1) > rowF r i + 8 := by omega
      simp (disch := omega) only [ZF, ↓gd, stp, opPick, just, Rd.bind, Rd.run, Rd.opt, upds, tsz, rdCells, aLoad, aIndexAddr, aNum, aBin, aInt, Nat.reduceLT, Nat.reduceBEq, Nat.reduceEqDiff, Nat.reduceLeDiff, ↓reduceIte, ZT, F_20, g1, hat, hlen, a1, a2, w2]
      exact ⟨_, rfl⟩
  · rw [if_neg a] at he ⊢
    have a1 : ¬ rowF r (i + 1) < rowF r i := by omega
    have a2 : ¬ rowF r (i + 1) > rowF r i + 8 := by omega
    have w1 : wrp .i64 (rowF r (i + 1) - rowF r i) = rowF r (i + 1) - rowF r i := wrp64 (by omega)
    by_cases b : rowF r (i + 1) - rowF r i > moF r i
    · rw [if_pos b]
      simp (disch := omega) only [ZF, ↓gd, stp, opPick, just, Rd.bind, Rd.run, Rd.opt, upds, tsz, rdCells, aLoad, aIndexAddr, aNum, aBin, aInt, Nat.reduceLT, Nat.reduceBEq, Nat.reduceEqDiff, Nat.reduceLeDiff, ↓reduceIte, ZT, F_20, g1, hat, hlen, a1, a2, b, w1, w2]
      exact ⟨_, rfl⟩
    · rw [if_neg b] at he; exact absurd rfl he
/-- The row with some rises, or the error. -/
theorem Row_run {C : Callee} {r : List Int} {a : AV} (ha : IV r a) (hl : r.length ≤ 1000) :
    (rowE r ≠ 0 ∧ ∃ H, bodyA E C fg 1000000 20 [a] [] 0 = some (.tup [.nilsl, .int .i64 (rowE r)], H)) ∨
    (rowE r = 0 ∧ ∃ g H, bodyA E C fg 1000000 20 [a] [] 0 = some (.tup [.ref g 0 (r.length - 1) (r.length - 1) (r.length - 1) 1 false, .int .i64 0], H) ∧ hget H g = some ⟨.row, ics (rwP r (r.length - 1))⟩) := by
  unfold rowE
  rcases ha with ⟨rfl, rfl⟩ | ⟨ex, rfl⟩
  · refine .inl ⟨by simp, ?_⟩
    simp (disch := omega) only [ZF, frame0, stp, just, Rd.bind, Rd.run, Rd.opt, upds, resA, resL, aIndexAddr, aNum, aLen, aBuiltin, aBin, aInt, Nat.reduceLT, Nat.reduceBEq, Nat.reduceEqDiff, Nat.reduceLeDiff, ↓reduceIte, reduceCtorEq, Int.reduceLT, ZT, F_20]
    exact ⟨_, rfl⟩
  · have hlen := ics_length r
    by_cases c1 : r.length < 2
    · rw [if_pos c1]
      have g : (r.length : Int) < 2 := by omega
      refine .inl ⟨by simp, ?_⟩
      simp (disch := omega) only [ZF, frame0, stp, just, Rd.bind, Rd.run, Rd.opt, upds, tsz, resA, resL, aIndexAddr, aNum, aLen, aBuiltin, aBin, aInt, Nat.reduceLT, Nat.reduceBEq, Nat.reduceEqDiff, Nat.reduceLeDiff, ↓reduceIte, reduceCtorEq, Int.reduceLE, Int.reduceToNat, ZT, F_20, g]
      exact ⟨_, rfl⟩
    · rw [if_neg c1]
      have g : ¬ (r.length : Int) < 2 := by omega
      have g' : (0 : Int) < r.length := by omega
      have hat0 : (ics r)[0]? = some (.int .i64 (rowF r 0)) := icr_at (by omega)
      by_cases c2 : rowF r 0 ≠ 0
      · rw [if_pos c2]
        refine .inl ⟨by simp, ?_⟩
        have c2' : (rowF r 0 == 0) = false := by rw [beq_eq_false_iff_ne]; exact c2
        simp (disch := omega) only [ZF, frame0, stp, just, Rd.bind, Rd.run, Rd.opt, upds, tsz, rdCells, aLoad, resA, resL, aIndexAddr, aNum, aLen, aBuiltin, aBin, aInt, Nat.reduceLT, Nat.reduceBEq, Nat.reduceEqDiff, Nat.reduceLeDiff, ↓reduceIte, reduceCtorEq, Int.reduceLE, ZT, F_20, g, g', hat0, hlen, c2, Int.toNat_zero]
        exact ⟨_, rfl⟩
      · rw [if_neg c2]
        have c2 : rowF r 0 = 0 := Classical.byContradiction c2
        by_cases c3 : r.length > 7
        · rw [if_pos c3]
          have g3 : (r.length : Int) > 7 := by omega
          refine .inl ⟨by simp, ?_⟩
          simp (disch := omega) only [ZF, frame0, stp, just, Rd.bind, Rd.run, Rd.opt, upds, tsz, rdCells, aLoad, resA, resL, aIndexAddr, aNum, aLen, aBuiltin, aBin, aInt, Nat.reduceLT, Nat.reduceBEq, Nat.reduceEqDiff, Nat.reduceLeDiff, ↓reduceIte, reduceCtorEq, Int.reduceLE, ZT, F_20, g, g', g3, hat0, hlen, c2, Int.toNat_zero]
          exact ⟨_, rfl⟩
        · rw [if_neg c3]
          have g3 : ¬ (r.length : Int) > 7 := by omega
          have hloop := loopE (f := (execA E C (fg 20) 0 55 [] 1000000 c20_32)) (e := rwE r) (R := fun e H => ([(3, .int .i64 e), (2, .nilsl)], H)) (rwS r ex) (r.length - 1) (E0 := []) rfl (by omega) (x := .exit 1) (se := ([(26, .bool false), (25, .int .i64 ((r.length - 1 : Nat) : Int)), (24, .int .i64 ((r.length - 1 : Nat) : Int)), (23, .imm (ics r.tail) (r.length - 1) ex), (6, .int .i64 (moF r (r.length - 1))), (5, .int .i64 (rowF r (r.length - 1))), (4, .ref 52 0 (r.length - 1) (r.length - 1) (r.length - 1) 1 false)], [(52, ⟨.row, ics (rwP r (r.length - 1))⟩)])) (by simp)
            (fun i hi hz he => rw_go c2 (by omega) i hi hz he) (fun i hi hz he => rw_bad c2 (by omega) i hi hz he) (fun _ => by
              simp only [rwS]
              rw [ov_pos (show 0 < r.length - 1 by omega), ohi_pos (by rw [rwP_len]; omega)]
              simp (disch := omega) only [ZF, stp, just, Rd.bind, Rd.run, Rd.opt, upds, aBin, aInt, Nat.reduceEqDiff, Nat.reduceLeDiff, ↓reduceIte, F_20])
          have m0 : moF r 0 = 8 := rfl
          have e0 : oH 52 (ics (rwP r 0)) = [] := rfl
          simp only [rwS, cl0, m0, c2, e0, ov_zero] at hloop
          have wi : List.take (r.length - 1) (List.drop 1 (ics r)) = ics r.tail := by
            rw [ics_drop, ics_take, List.drop_one, List.take_of_length_le (by rw [List.length_tail]; exact Nat.le_refl _)]
          have g4 : (0 : Int) ≤ 1 ∧ (1 : Int) ≤ (r.length : Int) := by omega
          rcases hloop with ⟨hz, hloop⟩ | ⟨hz, H, hloop⟩
          · refine .inr ⟨hz, 52, ?_⟩
            simp (disch := omega) only [ZF, frame0, stp, just, Rd.bind, Rd.run, Rd.opt, upds, tsz, rdCells, aLoad, resA, resL, aIndexAddr, aNum, aLen, aBuiltin, aBin, aInt, Nat.reduceLT, Nat.reduceBEq, Nat.reduceEqDiff, Nat.reduceLeDiff, ↓reduceIte, reduceCtorEq, window, aSlice, aBounds, bMax, bHigh, bLow, Int.reduceLE, ZT, F_20, g, g', g3, g4, hat0, hlen, c2, hloop, wi, Int.toNat_zero, Int.toNat_one]
            exact ⟨_, rfl, rfl⟩
          · refine .inl ⟨hz, ?_⟩
            simp (disch := omega) only [ZF, frame0, stp, just, Rd.bind, Rd.run, Rd.opt, upds, tsz, rdCells, aLoad, resA, resL, aIndexAddr, aNum, aLen, aBuiltin, aBin, aInt, Nat.reduceLT, Nat.reduceBEq, Nat.reduceEqDiff, Nat.reduceLeDiff, ↓reduceIte, reduceCtorEq, window, aSlice, aBounds, bMax, bHigh, bLow, Int.reduceLE, ZT, F_20, g, g', g3, g4, hat0, hlen, c2, hloop, wi, Int.toNat_zero, Int.toNat_one]
            exact ⟨_, rfl⟩
end Go.AM.Ytfmnoohhhokicaa
end

section
namespace Go.AM.Ytfmnoohhhokicaa
open Go Go.AM Go.AM.Rub
set_option maxRecDepth 100000
set_option maxHeartbeats 4000000
theorem read_run {C : Callee} {l : List Int} {a : AV} (ha : IV l a) (h6 : l.length ≤ 6) : ∃ H, bodyA E C fg 1000000 82 [a] [] 0 = some (.agg (ics (pad6 l)), H) := by
  have z6 : [AV.int .i64 0, .int .i64 0, .int .i64 0, .int .i64 0, .int .i64 0, .int .i64 0] = ics (List.replicate 6 0) := rfl
  rcases ha with ⟨rfl, rfl⟩ | ⟨ex, rfl⟩
  · have e : ics (pad6 []) = ics (List.replicate 6 0) := rfl
    rw [e, ← z6]
    simp (disch := omega) only [ZF, frame0, stp, opBox, just, Rd.bind, Rd.run, Rd.opt, upds, acells, zeroCells, tsz, elemT, rdCells, aLoad, aStore, opStore, resA, resL, fresh, aBuiltin, putC, Nat.reduceAdd, Nat.reduceLT, Nat.reduceBEq, Nat.reduceEqDiff, Nat.reduceLeDiff, ↓reduceIte, reduceCtorEq, srcOf, snaps, aSlice, aBounds, bMax, bHigh, bLow, ZT, F_82, aCopy, srcOf]
    exact ⟨_, rfl⟩
  · have hlen := ics_length l
    have hp : putC (ics (List.replicate 6 0)) 0 (ics l) = ics (pad6 l) := by
      rw [putC_ics l _ 0 (by simp; omega)]
      simp only [List.take_zero, List.nil_append, Nat.zero_add, List.drop_replicate, pad6]
    have hp2 : putC (ics (List.replicate 6 0)) 0 (ics (pad6 l)) = ics (pad6 l) := by
      rw [putC_ics _ _ 0 (by rw [pad6_len h6]; simp), pad6_len h6]
      simp only [List.take_zero, List.nil_append, Nat.zero_add, List.drop_replicate, Nat.sub_self, List.replicate_zero, List.append_nil]
    have htk : List.take (min l.length 6) (ics l) = ics l := List.take_of_length_le (by omega)
    rw [← z6] at hp hp2
    have hpl : (ics (pad6 l)).length = 6 := by rw [ics_length, pad6_len h6]
    have ht6 : List.take 6 (ics (pad6 l)) = ics (pad6 l) := List.take_of_length_le (by omega)
    generalize ics (pad6 l) = P at *
    simp (disch := omega) only [ZF, frame0, stp, opBox, just, Rd.bind, Rd.run, Rd.opt, upds, acells, zeroCells, tsz, elemT, rdCells, aLoad, aStore, opStore, resA, resL, fresh, aBuiltin, Nat.reduceAdd, Nat.reduceLT, Nat.reduceBEq, Nat.reduceEqDiff, Nat.reduceLeDiff, ↓reduceIte, reduceCtorEq, srcOf, aSlice, aBounds, bMax, bHigh, bLow, ZT, F_82, aCopy, srcOf, hlen, hp, hp2, htk, hpl, ht6]
    exact ⟨_, rfl⟩
theorem read_call {d : Nat} {site : Nat → Nat} {seen : List Nat} {l : List Int} {a : AV} (ha : IV l a) (h6 : l.length ≤ 6) : aBack site true seen (thaw (kF (d + 1)) 82 [a] [] 0) = .pure (.agg (ics (pad6 l)), []) := by
  obtain ⟨H, h⟩ := read_run (C := kF d) ha h6
  exact aBack_aggics ⟨H, by rw [kF_no rfl]; exact h⟩ (by rw [pad6_len h6]; omega)
abbrev ruH (s : List Int) : AHeap := [(4, ⟨.box, ics s⟩)]
abbrev ruS (s : List Int) (i j : Nat) : St := ([(2, .int .i64 j), (1, .int .i64 i), (0, .ptr 4 0 6)], ruH s)
theorem ru_head {s : List Int} {φ : AFr} : headA (ruH s) (φ, ruH s) = (φ, ruH s) := headA_keep (by simp [ruH, hget_cons'])
theorem ru_l1 {C : Callee} {s : List Int} (hs : s.length = 6) (j : Nat) : ∀ (m i F : Nat), i + m = 5 → m < F →
    iterA (execA E C (fg 114) 176 59 (ruH s) 1000000 c114_3) (headA (ruH s)) F (ruS s i j) = some (.exit 0, ([(22, .bool false), (2, .int .i64 j), (1, .int .i64 (lastEq s i m)), (0, .ptr 4 0 6)], ruH s))
  | m, i, 0, _, hF => by omega
  | 0, i, F + 1, hi, _ => by
    have hi : i = 5 := by omega
    subst hi
    have hlen : (ics s).length = 6 := by rw [ics_length, hs]
    rw [iterA_succ, ru_head]
    simp (disch := omega) only [ZF, opPick, just, Rd.bind, Rd.run, Rd.opt, upds, tsz, opNil, aIndexAddr, aNum, aBin, aInt, Nat.reduceAdd, Nat.reduceBEq, Nat.reduceEqDiff, Nat.reduceLeDiff, ↓reduceIte, reduceCtorEq, stpT, ↓gdT, Rd.foot, writing, touching, Tr.empty, dynPairs, ZT, F_114, hlen, lastEq, cl5]
    try rfl
  | m + 1, i, F + 1, hi, hF => by
    have hlen : (ics s).length = 6 := by rw [ics_length, hs]
    have a1 := icr_at (l := s) (k := i) (by omega)
    have a2 := icr_at (l := s) (k := i + 1) (by omega)
    have g1 : ((i + 1 : Nat) : Int) < 6 := by omega
    have g2 : (i : Int) < 6 := by omega
    rw [iterA_succ, ru_head]
    simp only [lastEq]
    by_cases he : rowF s (i + 1) = rowF s i
    · rw [if_pos ⟨by omega, he⟩, ← ru_l1 (C := C) hs j m (i + 1) F (by omega) (by omega)]
      simp (disch := omega) only [ZF, stp, opPick, just, Rd.bind, Rd.run, Rd.opt, upds, tsz, rdCells, aLoad, opNil, aIndexAddr, aNum, aBin, aInt, Nat.reduceAdd, Nat.reduceBEq, Nat.reduceEqDiff, Nat.reduceLeDiff, ↓reduceIte, reduceCtorEq, stpT, ↓gdT, Rd.foot, writing, touching, Tr.empty, dynPairs, apartT, disj, ZT, F_114, hlen, a1, a2, g1, he, if_pos, wrp_succ (show i < 1000000 by omega)]
      try rfl
    · rw [if_neg fun h => he h.2]
      have he' : (rowF s (i + 1) == rowF s i) = false := by rw [beq_eq_false_iff_ne]; exact he
      simp (disch := omega) only [ZF, opPick, just, Rd.bind, Rd.run, Rd.opt, upds, tsz, rdCells, aLoad, opNil, aIndexAddr, aNum, aBin, aInt, Nat.reduceAdd, Nat.reduceBEq, Nat.reduceEqDiff, Nat.reduceLeDiff, ↓reduceIte, reduceCtorEq, stpT, ↓gdT, Rd.foot, writing, touching, Tr.empty, dynPairs, apartT, disj, ZT, F_114, hlen, a1, a2, g1, he', if_pos, wrp_succ (show i < 1000000 by omega)]
theorem ru_l2 {C : Callee} {s : List Int} (hs : s.length = 6) (i : Nat) : ∀ (j F : Nat), j < 6 → j < F →
    iterA (execA E C (fg 114) 176 59 (ruH s) 1000000 c114_14) (headA (ruH s)) F (ruS s i j) = some (.exit 2, ([(40, .bool false), (2, .int .i64 (firstEq s j)), (1, .int .i64 i), (0, .ptr 4 0 6)], ruH s))
  | j, 0, _, hF => by omega
  | 0, F + 1, hi, _ => by
    have hlen : (ics s).length = 6 := by rw [ics_length, hs]
    rw [iterA_succ, ru_head]
    simp (disch := omega) only [ZF, opPick, just, Rd.bind, Rd.run, Rd.opt, upds, aBin, aInt, Nat.reduceAdd, Nat.reduceBEq, Nat.reduceEqDiff, Nat.reduceLeDiff, ↓reduceIte, stpT, ↓gdT, Rd.foot, writing, touching, Tr.empty, dynPairs, F_114, firstEq, cl0]
    try rfl
  | j + 1, F + 1, hi, hF => by
    have hlen : (ics s).length = 6 := by rw [ics_length, hs]
    have a1 := icr_at (l := s) (k := j) (by omega)
    have a2 := icr_at (l := s) (k := j + 1) (by omega)
    have g1 : ((j + 1 : Nat) : Int) > 0 := by omega
    have g2 : ((j + 1 : Nat) : Int) < 6 := by omega
    have g3 : (j : Int) < 6 := by omega
    have w : wrp .i64 (((j + 1 : Nat) : Int) - 1) = (j : Int) := by rw [wrp64 (by omega)]; omega
    rw [iterA_succ, ru_head]
    simp only [firstEq]
    by_cases he : rowF s j = rowF s (j + 1)
    · rw [if_pos he, ← ru_l2 (C := C) hs i j F (by omega) (by omega)]
      simp (disch := omega) only [ZF, stp, opPick, just, Rd.bind, Rd.run, Rd.opt, upds, tsz, rdCells, aLoad, opNil, aIndexAddr, aNum, aBin, aInt, Nat.reduceAdd, Nat.reduceBEq, Nat.reduceEqDiff, Nat.reduceLeDiff, ↓reduceIte, reduceCtorEq, stpT, ↓gdT, Rd.foot, writing, touching, Tr.empty, dynPairs, apartT, disj, ZT, F_114, hlen, a1, a2, g1, he, w, if_pos]
      try rfl
    · rw [if_neg he]
      have he' : (rowF s j == rowF s (j + 1)) = false := by rw [beq_eq_false_iff_ne]; exact he
      simp (disch := omega) only [ZF, opPick, just, Rd.bind, Rd.run, Rd.opt, upds, tsz, rdCells, aLoad, opNil, aIndexAddr, aNum, aBin, aInt, Nat.reduceAdd, Nat.reduceBEq, Nat.reduceEqDiff, Nat.reduceLeDiff, ↓reduceIte, reduceCtorEq, stpT, ↓gdT, Rd.foot, writing, touching, Tr.empty, dynPairs, apartT, disj, ZT, F_114, hlen, a1, a2, g1, he', w, if_pos]
end Go.AM.Ytfmnoohhhokicaa
end

section
namespace Go.AM.Ytfmnoohhhokicaa
open Go Go.AM Go.AM.Rub
set_option maxRecDepth 100000
set_option maxHeartbeats 4000000
/-- A list of six places is that of a row. -/
theorem pad_last {l : List Int} (h6 : l.length ≤ 6) : ∀ (m i : Nat), i + m = 5 → i < l.length → 0 < rowF l i → lastEq (pad6 l) i m = lastEq l i l.length := by
  have key : ∀ (m i k : Nat), i + m = 5 → l.length ≤ i + k + 1 → i < l.length → 0 < rowF l i → lastEq (pad6 l) i m = lastEq l i k := by
    intro m
    induction m with
    | zero => intro i k h1 h2 h3 h4; cases k with
      | zero => rfl
      | succ k => simp only [lastEq]; rw [if_neg (by omega)]
    | succ m ih =>
      intro i k h1 h2 h3 h4
      have hp := pad6_len h6
      cases k with
      | zero =>
        simp only [lastEq]
        rw [if_neg]
        rintro ⟨_, e⟩
        rw [rowF_pad0 (by omega), rowF_pad h3] at e
        omega
      | succ k =>
        simp only [lastEq]
        by_cases hi : i + 1 < l.length
        · rw [rowF_pad hi, rowF_pad h3]
          by_cases he : rowF l (i + 1) = rowF l i
          · rw [if_pos ⟨by omega, he⟩, if_pos ⟨hi, he⟩, ih (i + 1) k (by omega) (by omega) hi (by omega)]
          · rw [if_neg fun h => he h.2, if_neg fun h => he h.2]
        · rw [if_neg (by rintro ⟨_, e⟩; rw [rowF_pad0 (by omega), rowF_pad h3] at e; omega), if_neg fun h => hi h.1]
  intro m i h1 h2 h3
  exact key m i l.length h1 (by omega) h2 h3
theorem pad_first {l : List Int} : ∀ j, j < l.length → firstEq (pad6 l) j = firstEq l j
  | 0, _ => rfl
  | j + 1, h => by
    simp only [firstEq]
    rw [rowF_pad h, rowF_pad (show j < l.length by omega), pad_first j (by omega)]
theorem pad_mv {l : List Int} {i j : Nat} (hi : i < l.length) (hj : j < l.length) : (mvL (pad6 l) i j).take l.length = mvL l i j := by
  unfold mvL
  rw [rowF_pad hi, rowF_pad hj]
  unfold pad6
  rw [List.set_append_left _ _ hi, List.set_append_left _ _ (by rw [List.length_set]; exact hj), List.take_left' (by simp)]
theorem rubm_run {C : Callee} {s : List Int} (hs : s.length = 6) (hb : ∀ k, k < 6 → 0 ≤ rowF s k ∧ rowF s k ≤ 8) {i j : Nat} (hi : i < 6) (hj : j < 6) (hne : lastEq s i (5 - i) ≠ firstEq s j) (hl : lastEq s i (5 - i) < 6) (hf : firstEq s j < 6) :
    bodyA E C fg 1000000 114 [.ptr 4 0 6, .int .i64 i, .int .i64 j] (ruH s) 176 = some (.tup [], [(4, ⟨.box, ics (mvL s (lastEq s i (5 - i)) (firstEq s j))⟩)]) := by
  have h1 := ru_l1 (C := C) hs j (5 - i) i 1000000 (by omega) (by omega)
  have h2 := ru_l2 (C := C) hs (lastEq s i (5 - i)) j 1000000 hj (by omega)
  simp only [ruS, ruH] at h1 h2
  simp only [ruH]
  generalize lastEq s i (5 - i) = p at *
  generalize firstEq s j = q at *
  have hlen : (ics s).length = 6 := by rw [ics_length, hs]
  have a1 := icr_at (l := s) (k := p) (by omega)
  have b1 := hb p hl
  have b2 := hb q hf
  have w1 : wrp .i64 (rowF s p - 1) = rowF s p - 1 := wrp64 (by omega)
  have w2 : wrp .i64 (rowF s q + 1) = rowF s q + 1 := wrp64 (by omega)
  have e1 := ics_set s p (rowF s p - 1)
  have l1 : (ics (s.set p (rowF s p - 1))).length = 6 := by rw [ics_length, List.length_set, hs]
  have a2 : (ics (s.set p (rowF s p - 1)))[q]? = some (.int .i64 (rowF s q)) := by
    refine ics_at ?_
    rw [List.getElem?_set_ne hne]
    exact rowF_at (by omega)
  have e2 := ics_set (s.set p (rowF s p - 1)) q (rowF s q + 1)
  have e3 : ics ((s.set p (rowF s p - 1)).set q (rowF s q + 1)) = ics (mvL s p q) := rfl
  rw [e3] at e2
  generalize ics (mvL s p q) = R at *
  generalize ics (s.set p (rowF s p - 1)) = M at *
  have g1 : (p : Int) < 6 := by omega
  have g2 : (q : Int) < 6 := by omega
  simp (disch := omega) only [ZF, frame0, just, Rd.bind, Rd.run, Rd.opt, upds, acells, tsz, rdCells, aLoad, aStore, opStore, opNil, resA, resL, aIndexAddr, aNum, aBin, aInt, putC, Nat.reduceAdd, Nat.reduceBEq, Nat.reduceEqDiff, Nat.reduceLeDiff, ↓reduceIte, reduceCtorEq, stpT, Rd.foot, writing, touching, Tr.empty, dynPairs, apartT, disj, snaps, ZT, F_114, h1, h2, hlen, a1, a2, l1, w1, w2, e1, e2, if_pos]
theorem app_run {d : Nat} {s : List Int} (hs : s.length = 6) (hb : ∀ k, k < 6 → 0 ≤ rowF s k ∧ rowF s k ≤ 8) {n i j : Nat} (hn : n ≤ 6) (hi : i < 6) (hj : j < 6) (hne : lastEq s i (5 - i) ≠ firstEq s j) (hl : lastEq s i (5 - i) < 6) (hf : firstEq s j < 6) :
    ∃ H, bodyA E (kF (d + 1)) fg 1000000 83 [.agg (ics s), .int .i64 n, .int .i64 i, .int .i64 j] [] 0 = some (.ref 17 0 n n n 1 false, H) ∧ hget H 17 = some ⟨.row, ics ((mvL s (lastEq s i (5 - i)) (firstEq s j)).take n)⟩ := by
  have hr : kF (d + 1) 114 [.ptr 4 0 6, .int .i64 i, .int .i64 j] [(4, ⟨.box, ics s⟩)] 176 = some (.tup [], [(4, ⟨.box, ics (mvL s (lastEq s i (5 - i)) (firstEq s j))⟩)]) := by
    rw [kF_no rfl]; exact rubm_run hs hb hi hj hne hl hf
  have hm : ∀ vs args, mutV E (.bnd 114 vs) args = some (114, vs ++ args) := fun _ _ => rfl
  have hlen : (ics s).length = 6 := by rw [ics_length, hs]
  have hml : (mvL s (lastEq s i (5 - i)) (firstEq s j)).length = 6 := by rw [mvL_length, hs]
  generalize mvL s (lastEq s i (5 - i)) (firstEq s j) = S at *
  have hsl : (ics S).length = 6 := by rw [ics_length, hml]
  have rep := repC_ics n
  have hflat : [AV.int .i64 0].all AV.flat = true := rfl
  have hfl2 : (ics S).all AV.flat = true := ics_flat S
  have hk : (n : Int) ≤ kHi .i64 := by simp only [kHi]; omega
  have hby : ((8 : Nat) : Int) * (n : Int) ≤ 281474976710656 := by omega
  have hil : (ics (List.replicate n 0)).length = n := by rw [ics_length, List.length_replicate]
  have ht6 : List.take 6 (ics S) = ics S := List.take_of_length_le (by omega)
  have hmin : min 6 n = n := by omega
  have htn := ics_take S n
  have hput : putC (ics (List.replicate n 0)) 0 (ics (S.take n)) = ics (S.take n) := by
    have : (S.take n).length = n := by rw [List.length_take]; omega
    rw [putC_ics _ _ 0 (by rw [this]; simp), this]
    simp
  generalize kF (d + 1) = C at *
  generalize ics (S.take n) = R at *
  simp (disch := omega) only [ZF, frame0, stp, opBox, just, Rd.bind, Rd.run, upds, acells, zeroCells, tsz, elemT, resA, resL, fresh, aNum, aBuiltin, Nat.reduceAdd, Nat.reduceMul, Nat.reduceLT, Nat.reduceBEq, Nat.reduceEqDiff, Nat.reduceLeDiff, ↓reduceIte, reduceCtorEq, srcOf, window, mutX, aSlice, aBounds, bMax, bHigh, bLow, ZT, F_83, aMake, aCopy, srcOf, opFunc, callV, hm, hr, hlen, hsl, rep, hflat, hfl2, hk, hby, hil, ht6, hmin, htn, hput, if_pos]
  exact ⟨_, rfl, rfl⟩
theorem app_call {d : Nat} {site : Nat → Nat} {seen : List Nat} {n : Nat} {l : List Int} (h : Rw n l) (h6 : n ≤ 6) {i j : Nat} (r : Rb n l i j) : aBack site true seen (thaw (kF (d + 2)) 83 [.agg (ics (pad6 l)), .int .i64 n, .int .i64 i, .int .i64 j] [] 0) =
    back1 (site 0) seen (fun k => .ref k 0 n n n 1 false) ⟨.row, ics (rubL l i j)⟩ := by
  obtain ⟨re, _⟩ := rub_ends h r
  have hl := h.len
  have hij := r.lt
  have hj := r.lj
  have hd := r.df
  have bj := rw_b h (k := j) (by omega)
  have e1 := pad_last (l := l) (by omega) (5 - i) i (by omega) (by omega) (by omega)
  have e2 := pad_first (l := l) j (by omega)
  have := re.lt
  have := re.lj
  obtain ⟨H, h1, h2⟩ := app_run (d := d) (s := pad6 l) (pad6_len (by omega)) (fun k hk => by
    rcases Nat.lt_or_ge k l.length with hk | hk
    · rw [rowF_pad hk]; exact rw_b h (by omega)
    · rw [rowF_pad0 hk]; omega) h6 (i := i) (j := j) (by omega) (by omega) (by rw [e1, e2]; omega) (by rw [e1]; omega) (by rw [e2]; omega)
  rw [e1, e2, ← hl, pad_mv (by omega) (by omega)] at h2
  rw [hl] at h2
  have : rubL l i j = mvL l (lastEq l i l.length) (firstEq l j) := rfl
  rw [this, hl]
  refine aBack_refc (by rw [kF_no rfl]; exact h1) h2 ?_
  rw [ics_length, mvL_length, hl]
/-- The error of a rubbing. -/
def rubE (l : List Int) (i j : Int) : Int := if chkR l ≠ 0 then chkR l else if min i j < 0 ∨ max i j ≥ l.length then 2 else if i ≥ j then 7 else if rowF l i.toNat - rowF l j.toNat < 2 then 13 else 0
theorem rubE_zero {l : List Int} {i j : Int} (h : rubE l i j = 0) : 0 < l.length ∧ l.length ≤ 6 ∧ Rw l.length l ∧ ∃ x y : Nat, i = x ∧ j = y ∧ Rb l.length l x y := by
  unfold rubE at h
  by_cases h0 : chkR l = 0
  · rw [if_neg (fun e => e h0)] at h
    split at h
    · exact absurd h (by decide)
    · split at h
      · exact absurd h (by decide)
      · split at h
        · exact absurd h (by decide)
        · obtain ⟨h1, h2, h3⟩ := chkR_zero.1 h0
          refine ⟨h1, h2, h3, i.toNat, j.toNat, by omega, by omega, by omega, by omega, by omega⟩
  · rw [if_pos h0] at h; exact absurd h h0
theorem Rub_run {d : Nat} {l : List Int} {a : AV} {i j : Int} (ha : IV l a) (hl : l.length ≤ 1000) :
    (rubE l i j ≠ 0 ∧ ∃ H, bodyA E (kF (d + 2)) fg 1000000 22 [a, .int .i64 i, .int .i64 j] [] 0 = some (.tup [.nilsl, .int .i64 (rubE l i j)], H)) ∨
    (rubE l i j = 0 ∧ ∃ g H, bodyA E (kF (d + 2)) fg 1000000 22 [a, .int .i64 i, .int .i64 j] [] 0 = some (.tup [.ref g 0 l.length l.length l.length 1 false, .int .i64 0], H) ∧ hget H g = some ⟨.row, ics (rubL l i.toNat j.toNat)⟩) := by
  have hc := fun (site : Nat → Nat) seen => check_call (d := d + 1) (site := site) (seen := seen) ha hl
  have sn := iv_snap ha
  by_cases hE : rubE l i j = 0
  · obtain ⟨h0, h6, hr, x, y, rfl, rfl, rb⟩ := rubE_zero hE
    refine .inr ⟨hE, 49, ?_⟩
    have hch : chkR l = 0 := by rw [chkR_zero]; exact ⟨h0, h6, hr⟩
    rw [hch] at hc
    have hrd := fun (site : Nat → Nat) seen => read_call (d := d + 1) (site := site) (seen := seen) ha h6
    have hap := fun (site : Nat → Nat) seen => app_call (d := d) (site := site) (seen := seen) hr h6 rb
    obtain ⟨ex, rfl⟩ := iv_ne ha h0
    have hlt := rb.lt
    have hlj := rb.lj
    have hdf := rb.df
    have hlen := ics_length l
    have g1 : min (x : Int) y = x := by omega
    have g2 : max (x : Int) y = y := by omega
    have g3 : ¬ (x : Int) < 0 := by omega
    have g4 : ¬ (y : Int) ≥ l.length := by omega
    have g5 : ¬ (x : Int) ≥ y := by omega
    have g6 : (x : Int) < l.length := by omega
    have g7 : (y : Int) < l.length := by omega
    have a1 := icr_at (l := l) (k := x) (by omega)
    have a2 := icr_at (l := l) (k := y) (by omega)
    have b1 := rw_b hr (k := x) (by omega)
    have b2 := rw_b hr (k := y) (by omega)
    have w : wrp .i64 (rowF l x - rowF l y) = rowF l x - rowF l y := wrp64 (by omega)
    have g8 : ¬ rowF l x - rowF l y < 2 := by omega
    have sp := fun d => snaps_ics (pad6 l) (d := d + 8) (by rw [pad6_len h6]; omega)
    simp only [Int.toNat_natCast]
    generalize kF (d + 2) = C at *
    generalize ics (pad6 l) = P at *
    simp (disch := omega) only [ZF, ↓gd, frame0, stp, opPick, justO, just, Rd.bind, Rd.run, Rd.opt, upds, tsz, rdCells, aLoad, resA, resL, aIndexAddr, aNum, aLen, aBuiltin, aMin, aMax, aBin, aInt, Nat.reduceAdd, Nat.reduceLT, Nat.reduceBEq, Nat.reduceEqDiff, Nat.reduceLeDiff, ↓reduceIte, reduceCtorEq, stpT, Rd.foot, writing, touching, Tr.empty, dynPairs, aCall, snaps, ZT, F_22, aMin, aMax, hc, hrd, hap, hlen, g4, g5, g6, g7, g8, a1, a2, w, sp, if_pos]
    exact ⟨_, rfl, rfl⟩
  · refine .inl ⟨hE, ?_⟩
    generalize hk : kF (d + 2) = C at *
    unfold rubE at hE ⊢
    by_cases h0 : chkR l = 0
    · rw [if_neg (fun e => e h0)] at hE ⊢
      rw [h0] at hc
      obtain ⟨h1, h6, hr⟩ := chkR_zero.1 h0
      obtain ⟨ex, rfl⟩ := iv_ne ha h1
      have hlen := ics_length l
      by_cases c1 : min i j < 0 ∨ max i j ≥ l.length
      · rw [if_pos c1]
        by_cases c2 : min i j < 0
        · simp (disch := omega) only [ZF, ↓gd, frame0, stp, opPick, justO, just, Rd.bind, Rd.run, Rd.opt, upds, tsz, resA, resL, aIndexAddr, aNum, aBuiltin, aMin, aBin, aInt, Nat.reduceAdd, Nat.reduceLT, Nat.reduceBEq, Nat.reduceEqDiff, Nat.reduceLeDiff, ↓reduceIte, reduceCtorEq, stpT, aCall, snaps, ZT, F_22, aMin, hc, hlen, if_pos]
          exact ⟨_, rfl⟩
        · have c3 : max i j ≥ l.length := by omega
          simp (disch := omega) only [ZF, ↓gd, frame0, stp, opPick, justO, just, Rd.bind, Rd.run, Rd.opt, upds, tsz, rdCells, aLoad, resA, resL, aIndexAddr, aNum, aLen, aBuiltin, aMin, aMax, aBin, aInt, Nat.reduceAdd, Nat.reduceLT, Nat.reduceBEq, Nat.reduceEqDiff, Nat.reduceLeDiff, ↓reduceIte, reduceCtorEq, stpT, Rd.foot, aCall, snaps, ZT, F_22, aMin, aMax, hc, hlen, if_pos]
          exact ⟨_, rfl⟩
      · rw [if_neg c1] at hE ⊢
        have c2 : ¬ min i j < 0 := by omega
        have c3 : ¬ max i j ≥ l.length := by omega
        by_cases c4 : i ≥ j
        · rw [if_pos c4]
          have c5 : ¬ j > i := by omega
          have c6 : ¬ i ≥ l.length := by omega
          simp (disch := omega) only [ZF, ↓gd, frame0, stp, opPick, justO, just, Rd.bind, Rd.run, Rd.opt, upds, tsz, rdCells, aLoad, resA, resL, aIndexAddr, aNum, aLen, aBuiltin, aMin, aMax, aBin, aInt, Nat.reduceAdd, Nat.reduceLT, Nat.reduceBEq, Nat.reduceEqDiff, Nat.reduceLeDiff, ↓reduceIte, reduceCtorEq, stpT, Rd.foot, aCall, snaps, ZT, F_22, aMin, aMax, hc, hlen, c4, c5, c6, if_pos]
          exact ⟨_, rfl⟩
        · rw [if_neg c4] at hE ⊢
          obtain ⟨x, rfl⟩ : ∃ x : Nat, i = x := ⟨i.toNat, by omega⟩
          obtain ⟨y, rfl⟩ : ∃ y : Nat, j = y := ⟨j.toNat, by omega⟩
          simp only [Int.toNat_natCast] at hE ⊢
          by_cases c5 : rowF l x - rowF l y < 2
          · rw [if_pos c5]
            have g6 : (x : Int) < l.length := by omega
            have g7 : (y : Int) < l.length := by omega
            have a1 := icr_at (l := l) (k := x) (by omega)
            have a2 := icr_at (l := l) (k := y) (by omega)
            have b1 := rw_b hr (k := x) (by omega)
            have b2 := rw_b hr (k := y) (by omega)
            have w : wrp .i64 (rowF l x - rowF l y) = rowF l x - rowF l y := wrp64 (by omega)
            have c7 : ¬ (y : Int) ≥ l.length := by omega
            simp (disch := omega) only [ZF, ↓gd, frame0, stp, opPick, justO, just, Rd.bind, Rd.run, Rd.opt, upds, tsz, rdCells, aLoad, resA, resL, aIndexAddr, aNum, aLen, aBuiltin, aMin, aMax, aBin, aInt, Nat.reduceAdd, Nat.reduceLT, Nat.reduceBEq, Nat.reduceEqDiff, Nat.reduceLeDiff, ↓reduceIte, reduceCtorEq, stpT, Rd.foot, writing, touching, Tr.empty, dynPairs, aCall, snaps, ZT, F_22, aMin, aMax, hc, hlen, c4, c5, c7, g6, g7, a1, a2, w, if_pos]
            exact ⟨_, rfl⟩
          · rw [if_neg c5] at hE; exact absurd rfl hE
    · rw [if_pos h0]
      generalize chkR l = z at *
      have h0' : (z == 0) = false := by rw [beq_eq_false_iff_ne]; exact h0
      simp (disch := omega) only [ZF, ↓gd, frame0, stp, opPick, justO, just, Rd.bind, Rd.run, Rd.opt, upds, tsz, resA, resL, aIndexAddr, aNum, aLen, aBuiltin, aMin, aMax, aBin, aInt, Nat.reduceAdd, Nat.reduceBEq, Nat.reduceEqDiff, Nat.reduceLeDiff, ↓reduceIte, reduceCtorEq, stpT, aCall, snaps, ZT, F_22, hc, h0, sn 198, if_pos]
      exact ⟨_, rfl⟩
end Go.AM.Ytfmnoohhhokicaa
end

section
namespace Go.AM.Ytfmnoohhhokicaa
open Go Go.AM Go.AM.Rub
set_option maxRecDepth 100000
set_option maxHeartbeats 4000000
theorem rin_run {C : Callee} {x lo hi : Int} : rsOf (bodyA E C fg 1000000 81 [.int .i64 x, .int .i64 lo, .int .i64 hi] [] 0) = some (.bool (decide (lo ≤ x ∧ x ≤ hi))) := by
  by_cases h1 : x ≥ lo
  · by_cases h2 : x ≤ hi
    · rw [decide_eq_true (show lo ≤ x ∧ x ≤ hi from ⟨h1, h2⟩)]
      simp (disch := omega) only [ZF, ↓gd, frame0, stp, opPick, just, Rd.bind, Rd.run, Rd.opt, upds, resA, resL, aBin, aInt, Nat.reduceAdd, Nat.reduceBEq, Nat.reduceEqDiff, Nat.reduceLeDiff, ↓reduceIte, reduceCtorEq, F_81, h1, h2]
    · rw [decide_eq_false (show ¬ (lo ≤ x ∧ x ≤ hi) from fun h => h2 h.2)]
      simp (disch := omega) only [ZF, ↓gd, frame0, stp, opPick, just, Rd.bind, Rd.run, Rd.opt, upds, resA, resL, aBin, aInt, Nat.reduceAdd, Nat.reduceBEq, Nat.reduceEqDiff, Nat.reduceLeDiff, ↓reduceIte, reduceCtorEq, F_81, h1, h2]
  · rw [decide_eq_false (show ¬ (lo ≤ x ∧ x ≤ hi) from fun h => h1 h.1)]
    simp (disch := omega) only [ZF, ↓gd, frame0, stp, opPick, just, Rd.bind, Rd.run, Rd.opt, upds, resA, resL, aBin, aInt, Nat.reduceAdd, Nat.reduceBEq, Nat.reduceEqDiff, Nat.reduceLeDiff, ↓reduceIte, reduceCtorEq, F_81, h1]
theorem rin_call {d : Nat} {site : Nat → Nat} {seen : List Nat} {x lo hi : Int} : aBack site true seen (thaw (kF (d + 1)) 81 [.int .i64 x, .int .i64 lo, .int .i64 hi] [] 0) = .pure (.bool (decide (lo ≤ x ∧ x ≤ hi)), []) :=
  aBack_bool (kF_ex rfl rin_run)
abbrev rcS (l : List Int) (ex : Bool) (i : Nat) : St := ([(3, .int .i64 i), (0, .imm (ics l) l.length ex)], [])
theorem rc_go {d : Nat} {l : List Int} {ex : Bool} (h6 : l.length ≤ 6) (i : Nat) (hi : i < l.length) (he : chE l i = 0) :
    ∃ s', execA E (kF (d + 1)) (fg 26) 0 36 [] 1000000 c26_23 (rcS l ex i) = some (.normal, s') ∧ headA [] s' = rcS l ex (i + 1) := by
  have hlen := ics_length l
  have hat := icr_at hi
  have hat1 := icr_at (l := l) (k := i - 1) (by omega)
  have g1 : (i : Int) < l.length := by omega
  have hin := fun (site : Nat → Nat) seen => rin_call (d := d) (site := site) (seen := seen) (x := rowF l i) (lo := 0) (hi := 8)
  generalize kF (d + 1) = C at *
  unfold chE at he
  split at he
  · exact absurd he (by decide)
  · split at he
    · exact absurd he (by decide)
    · rename_i a b
      rw [decide_eq_true (show 0 ≤ rowF l i ∧ rowF l i ≤ 8 by omega)] at hin
      rcases Nat.eq_zero_or_pos i with hz | hp
      · subst hz
        simp (disch := omega) only [ZF, stp, opPick, justO, just, Rd.bind, Rd.run, Rd.opt, upds, tsz, rdCells, aLoad, aIndexAddr, aNum, aLen, aBuiltin, aBin, aInt, Nat.reduceAdd, Nat.reduceLT, Nat.reduceBEq, Nat.reduceEqDiff, Nat.reduceLeDiff, ↓reduceIte, reduceCtorEq, stpT, ↓gdT, Rd.foot, writing, touching, Tr.empty, dynPairs, aUn, aCall, snaps, Int.reduceLE, Int.reduceToNat, ZT, F_26, hat, hlen, hin, cl0, if_pos]
        exact ⟨_, rfl, rfl⟩
      · have b1 : ¬ rowF l i > rowF l (i - 1) := fun hh => b ⟨hp, hh⟩
        have g2 : (i : Int) > 0 := by omega
        have w1 : wrp .i64 ((i : Int) - 1) = ((i - 1 : Nat) : Int) := by rw [wrp64 (by omega)]; omega
        have g3 : ((i - 1 : Nat) : Int) < l.length := by omega
        simp (disch := omega) only [ZF, stp, opPick, justO, just, Rd.bind, Rd.run, Rd.opt, upds, tsz, rdCells, aLoad, aIndexAddr, aNum, aLen, aBuiltin, aBin, aInt, Nat.reduceAdd, Nat.reduceLT, Nat.reduceBEq, Nat.reduceEqDiff, Nat.reduceLeDiff, ↓reduceIte, reduceCtorEq, stpT, ↓gdT, Rd.foot, writing, touching, Tr.empty, dynPairs, aUn, aCall, snaps, ZT, F_26, g1, g2, g3, hat, hat1, hlen, hin, b1, w1, wrp_succ (show i < 1000000 by omega)]
        exact ⟨_, rfl, rfl⟩
theorem rc_bad {d : Nat} {l : List Int} {ex : Bool} (h6 : l.length ≤ 6) (i : Nat) (hi : i < l.length) (he : chE l i ≠ 0) :
    ∃ H, execA E (kF (d + 1)) (fg 26) 0 36 [] 1000000 c26_23 (rcS l ex i) = some (.ret, ([(2, .int .i64 (chE l i))], H)) := by
  have hlen := ics_length l
  have hat := icr_at hi
  have hat1 := icr_at (l := l) (k := i - 1) (by omega)
  have g1 : (i : Int) < l.length := by omega
  have hin := fun (site : Nat → Nat) seen => rin_call (d := d) (site := site) (seen := seen) (x := rowF l i) (lo := 0) (hi := 8)
  generalize kF (d + 1) = C at *
  unfold chE at he ⊢
  by_cases a : rowF l i < 0 ∨ rowF l i > 8
  · rw [if_pos a]
    rw [decide_eq_false (show ¬ (0 ≤ rowF l i ∧ rowF l i ≤ 8) by omega)] at hin
    simp (disch := omega) only [ZF, stp, justO, just, Rd.bind, Rd.run, Rd.opt, upds, tsz, rdCells, aLoad, aIndexAddr, aNum, aLen, aBuiltin, aBin, aInt, Nat.reduceLT, Nat.reduceBEq, Nat.reduceEqDiff, Nat.reduceLeDiff, ↓reduceIte, reduceCtorEq, aUn, aCall, snaps, ZT, F_26, g1, hat, hlen, hin]
    exact ⟨_, rfl⟩
  · rw [if_neg a] at he ⊢
    rw [decide_eq_true (show 0 ≤ rowF l i ∧ rowF l i ≤ 8 by omega)] at hin
    by_cases b : 0 < i ∧ rowF l i > rowF l (i - 1)
    · rw [if_pos b]
      obtain ⟨hp, b⟩ := b
      have g2 : (i : Int) > 0 := by omega
      have w1 : wrp .i64 ((i : Int) - 1) = ((i - 1 : Nat) : Int) := by rw [wrp64 (by omega)]; omega
      have g3 : ((i - 1 : Nat) : Int) < l.length := by omega
      simp (disch := omega) only [ZF, stp, opPick, justO, just, Rd.bind, Rd.run, Rd.opt, upds, tsz, rdCells, aLoad, aIndexAddr, aNum, aLen, aBuiltin, aBin, aInt, Nat.reduceAdd, Nat.reduceLT, Nat.reduceBEq, Nat.reduceEqDiff, Nat.reduceLeDiff, ↓reduceIte, reduceCtorEq, stpT, ↓gdT, Rd.foot, writing, touching, Tr.empty, dynPairs, aUn, aCall, snaps, ZT, F_26, g1, g2, g3, hat, hat1, hlen, hin, b, w1]
      exact ⟨_, rfl⟩
    · rw [if_neg b] at he; exact absurd rfl he
theorem rcheck_run {d : Nat} {l : List Int} {a : AV} (ha : IV l a) (hl : l.length ≤ 1000) : rsOf (bodyA E (kF (d + 1)) fg 1000000 26 [a] [] 0) = some (.int .i64 (chkR l)) := by
  rcases ha with ⟨rfl, rfl⟩ | ⟨ex, rfl⟩
  · simp (disch := omega) only [ZF, frame0, stp, just, Rd.bind, Rd.run, Rd.opt, upds, resA, resL, aLen, aBuiltin, aBin, aInt, Nat.reduceBEq, Nat.reduceEqDiff, Nat.reduceLeDiff, ↓reduceIte, reduceCtorEq, ZT, F_26, chkR]
  · unfold chkR
    by_cases h0 : l.length = 0
    · rw [if_pos h0]
      have g0 : (l.length : Int) = 0 := by omega
      simp (disch := omega) only [ZF, frame0, stp, just, Rd.bind, Rd.run, Rd.opt, upds, resA, resL, aLen, aBuiltin, aBin, aInt, Nat.reduceBEq, Nat.reduceEqDiff, Nat.reduceLeDiff, ↓reduceIte, reduceCtorEq, ZT, F_26, g0]
    · rw [if_neg h0]
      have g0 : ¬ (l.length : Int) = 0 := by omega
      have g0' : ((l.length : Int) == 0) = false := by rw [beq_eq_false_iff_ne]; exact g0
      by_cases h6 : l.length > 6
      · rw [if_pos h6]
        have g1 : (l.length : Int) > 6 := by omega
        simp (disch := omega) only [ZF, frame0, stp, just, Rd.bind, Rd.run, Rd.opt, upds, resA, resL, aLen, aBuiltin, aBin, aInt, Nat.reduceBEq, Nat.reduceEqDiff, Nat.reduceLeDiff, ↓reduceIte, reduceCtorEq, ZT, F_26, g0', g1]
      · rw [if_neg h6]
        have g1 : ¬ (l.length : Int) > 6 := by omega
        have hlen := ics_length l
        have hloop := loopE (f := execA E (kF (d + 1)) (fg 26) 0 36 [] 1000000 c26_23) (e := chE l) (R := fun e H => ([(2, .int .i64 e)], H)) (rcS l ex) l.length (E0 := []) rfl (by omega) (x := .exit 0) (se := ([(13, .bool false), (3, .int .i64 l.length), (0, .imm (ics l) l.length ex)], [])) (by simp)
          (fun i hi _ he => rc_go (by omega) i hi he) (fun i hi _ he => rc_bad (by omega) i hi he) (fun _ => by simp (disch := omega) only [ZF, stp, just, Rd.bind, Rd.run, Rd.opt, upds, aLen, aBuiltin, aBin, aInt, Nat.reduceBEq, Nat.reduceEqDiff, Nat.reduceLeDiff, ↓reduceIte, reduceCtorEq, ZT, F_26, rcS])
        simp only [rcS, cl0] at hloop
        generalize kF (d + 1) = C at *
        rcases hloop with ⟨hz, hloop⟩ | ⟨hz, H, hloop⟩
        · rw [hz]
          simp (disch := omega) only [ZF, frame0, stp, just, Rd.bind, Rd.run, Rd.opt, upds, resA, resL, aLen, aBuiltin, aBin, aInt, Nat.reduceBEq, Nat.reduceEqDiff, Nat.reduceLeDiff, ↓reduceIte, reduceCtorEq, ZT, F_26, g0', g1, hloop]
        · simp (disch := omega) only [ZF, frame0, stp, just, Rd.bind, Rd.run, Rd.opt, upds, resA, resL, aLen, aBuiltin, aBin, aInt, Nat.reduceBEq, Nat.reduceEqDiff, Nat.reduceLeDiff, ↓reduceIte, reduceCtorEq, ZT, F_26, g0', g1, hloop]
theorem rcheck_call {d : Nat} {site : Nat → Nat} {seen : List Nat} {l : List Int} {a : AV} (ha : IV l a) (hl : l.length ≤ 1000) : aBack site true seen (thaw (kF (d + 2)) 26 [a] [] 0) = .pure (.int .i64 (chkR l), []) :=
  aBack_int (kF_ex rfl (rcheck_run ha hl))
abbrev suS (l : List Int) (a : AV) (i : Nat) : St := ([(4, .int .i64 i), (3, .int .i64 (ps (rowF l) i)), (0, a)], [])
theorem sum_run {C : Callee} {l : List Int} {a : AV} (ha : IV l a) (hl : l.length ≤ 1000) (hb : ∀ k, k < l.length → 0 ≤ rowF l k ∧ rowF l k ≤ 100000) : rsOf (bodyA E C fg 1000000 80 [a] [] 0) = some (.int .i64 (ps (rowF l) l.length)) := by
  have hps : ∀ k, k ≤ l.length → 0 ≤ ps (rowF l) k ∧ ps (rowF l) k ≤ 100000 * k := by
    intro k
    induction k with
    | zero => intro _; simp [ps]
    | succ k ih =>
      intro hk
      have := ih (by omega)
      have := hb k (by omega)
      simp only [ps]; omega
  rcases ha with ⟨rfl, rfl⟩ | ⟨ex, rfl⟩
  · have hloop := loopM0 (f := (execA E C (fg 80) 0 18 [] 1000000 c80_9)) (E0 := []) (s0 := ([(4, .int .i64 0), (3, .int .i64 0), (0, .nilsl)], [])) rfl (e := .exit 0) (se := ([(8, .bool false), (4, .int .i64 0), (3, .int .i64 0), (0, .nilsl)], []))
      (by simp (disch := omega) only [ZF, stp, just, Rd.bind, Rd.run, Rd.opt, upds, aLen, aBuiltin, aBin, aInt, Nat.reduceBEq, Nat.reduceEqDiff, Nat.reduceLeDiff, ↓reduceIte, reduceCtorEq, ZT, F_80]) (by simp)
    simp (disch := omega) only [ZF, frame0, resA, resL, Nat.reduceBEq, Nat.reduceEqDiff, Nat.reduceLeDiff, ↓reduceIte, reduceCtorEq, F_80, hloop, ps]
  · have hlen := ics_length l
    have hloop := loopM (f := (execA E C (fg 80) 0 18 [] 1000000 c80_9)) (E0 := []) (suS l (.imm (ics l) l.length ex)) l.length (fun i hi => by
        have hat := icr_at hi
        have g1 : (i : Int) < l.length := by omega
        have := hps i (by omega)
        have := hb i hi
        have w : wrp .i64 (ps (rowF l) i + rowF l i) = ps (rowF l) i + rowF l i := wrp64 (by omega)
        simp (disch := omega) only [ZF, stp, just, Rd.bind, Rd.run, Rd.opt, upds, tsz, rdCells, aLoad, aIndexAddr, aNum, aLen, aBuiltin, aBin, aInt, Nat.reduceLT, Nat.reduceBEq, Nat.reduceEqDiff, Nat.reduceLeDiff, ↓reduceIte, reduceCtorEq, ZT, F_80, suS, ps, g1, hat, hlen, w, wrp_succ (show i < 1000000 by omega)]
        exact ⟨_, rfl, rfl⟩) rfl (by omega) (e := .exit 0) (se := ([(8, .bool false), (4, .int .i64 l.length), (3, .int .i64 (ps (rowF l) l.length)), (0, .imm (ics l) l.length ex)], []))
      (by simp (disch := omega) only [ZF, stp, just, Rd.bind, Rd.run, Rd.opt, upds, aLen, aBuiltin, aBin, aInt, Nat.reduceBEq, Nat.reduceEqDiff, Nat.reduceLeDiff, ↓reduceIte, reduceCtorEq, ZT, F_80, suS]) (by simp)
    simp only [suS, cl0, ps] at hloop
    simp (disch := omega) only [ZF, frame0, resA, resL, Nat.reduceBEq, Nat.reduceEqDiff, Nat.reduceLeDiff, ↓reduceIte, reduceCtorEq, F_80, hloop]
theorem sum_call {d : Nat} {site : Nat → Nat} {seen : List Nat} {l : List Int} {a : AV} (ha : IV l a) (hl : l.length ≤ 1000) (hb : ∀ k, k < l.length → 0 ≤ rowF l k ∧ rowF l k ≤ 100000) : aBack site true seen (thaw (kF (d + 1)) 80 [a] [] 0) = .pure (.int .i64 (ps (rowF l) l.length), []) :=
  aBack_int (kF_ex rfl (sum_run ha hl hb))
theorem rowF_take {l : List Int} {k i : Nat} (h : i < k) : rowF (l.take k) i = rowF l i := by
  simp only [rowF, List.getD_eq_getElem?_getD, List.getElem?_take, if_pos h]
/-- The sum of the first k numbers of a row. -/
theorem sumk_call {d : Nat} {site : Nat → Nat} {seen : List Nat} {n : Nat} {l : List Int} (h : Rw n l) (hn : n ≤ 8) {k : Nat} (hk : k ≤ n) {ex : Bool} : aBack site true seen (thaw (kF (d + 1)) 80 [.imm (ics (l.take k)) k ex] [] 0) = .pure (.int .i64 (ps (rowF l) k), []) := by
  have hl : (l.take k).length = k := by rw [List.length_take, h.len]; omega
  have ha : IV (l.take k) (.imm (ics (l.take k)) k ex) := .inr ⟨ex, by rw [hl]⟩
  have := sum_call (d := d) (site := site) (seen := seen) ha (by omega) (fun i hi => by rw [rowF_take (by omega)]; have := rw_b h (k := i) (by omega); omega)
  rw [hl, ps_congr k fun i hi => rowF_take hi] at this
  exact this
abbrev rrS (l : List Int) (ex : Bool) (i : Nat) : St := ([(6, .int .i64 i), (5, oV 24 1 i), (0, .imm (ics l) l.length ex)], oH 24 (ics ((List.range i).map (ps (rowF l)))))
theorem rr_go {d : Nat} {n : Nat} {l : List Int} {ex : Bool} (h : Rw n l) (hn : n ≤ 8) (i : Nat) (hi : i < l.length + 1) :
    ∃ s', execA E (kF (d + 1)) (fg 19) 0 26 [] 1000000 c19_19 (rrS l ex i) = some (.normal, s') ∧ headA [] s' = rrS l ex (i + 1) := by
  have hln := h.len
  have hlen := ics_length l
  have hsu := fun (site : Nat → Nat) seen ex => sumk_call (d := d) (site := site) (seen := seen) h hn (k := i) (by omega) (ex := ex)
  generalize kF (d + 1) = C at *
  have g1 : (i : Int) ≤ l.length := by omega
  have htk : List.take i (ics l) = ics (l.take i) := ics_take l i
  have hrs : (List.range (i + 1)).map (ps (rowF l)) = (List.range i).map (ps (rowF l)) ++ [ps (rowF l) i] := by simp [List.range_succ]
  have hrl : (ics ((List.range i).map (ps (rowF l)))).length = i := by simp [ics]
  have hsn := ics_snoc ((List.range i).map (ps (rowF l))) (ps (rowF l) i)
  simp only [rrS]
  rw [ov_pos (show 0 < i + 1 by omega), ohi_pos (l := (List.range (i + 1)).map (ps (rowF l))) (by simp), hrs, ← hsn]
  generalize ics (l.take i) = K at *
  rcases Nat.eq_zero_or_pos i with hp | hp
  · subst hp
    have e0 : ics ((List.range 0).map (ps (rowF l))) = [] := rfl
    rw [e0, ov_zero]
    have oh0 : oH 24 [] = [] := rfl
    rw [oh0]
    simp (disch := omega) only [ZF, stp, just, Rd.bind, Rd.run, Rd.opt, upds, acells, zeroCells, tsz, elemT, fresh, aNum, aLen, aBuiltin, aBin, aInt, putC, evO, Nat.reduceAdd, Nat.reduceLT, Nat.reduceBEq, Nat.reduceEqDiff, Nat.reduceLeDiff, ↓reduceIte, reduceCtorEq, aBuildSlice, aBuildAt, partsOf, fillA, repC, isSliceT, aAppend, srcOf, window, aCall, snaps, aSlice, aBounds, bMax, bHigh, bLow, Int.reduceLE, Int.reduceToNat, ZT, F_19, hlen, htk, hsu, cl0, room22 (show 1 ≤ 1000000 by omega)]
    exact ⟨_, rfl, rfl⟩
  · rw [ov_pos hp, ohi_pos (by simp; exact hp)]
    have htl : List.take i (ics ((List.range i).map (ps (rowF l)))) = ics ((List.range i).map (ps (rowF l))) := List.take_of_length_le (by omega)
    have hno : ¬ i + 1 ≤ i := by omega
    generalize ics ((List.range i).map (ps (rowF l))) = L at *
    simp (disch := omega) only [ZF, stp, just, Rd.bind, Rd.run, Rd.opt, upds, acells, zeroCells, tsz, elemT, fresh, aNum, aLen, aBuiltin, aBin, aInt, putC, evO, Nat.reduceAdd, Nat.reduceLT, Nat.reduceBEq, Nat.reduceEqDiff, Nat.reduceLeDiff, ↓reduceIte, reduceCtorEq, aBuildSlice, aBuildAt, partsOf, fillA, repC, isSliceT, aAppend, srcOf, window, aCall, snaps, aSlice, aBounds, bMax, bHigh, bLow, ZT, F_19, g1, hlen, htk, hsu, hrl, htl, hno, room22 (show i + 1 ≤ 1000000 by omega), wrp_succ (show i < 1000000 by omega)]
    exact ⟨_, rfl, rfl⟩
end Go.AM.Ytfmnoohhhokicaa
end

section
namespace Go.AM.Ytfmnoohhhokicaa
open Go Go.AM Go.AM.Rub
set_option maxRecDepth 100000
set_option maxHeartbeats 4000000
theorem rRises_run {d : Nat} {l : List Int} {a : AV} (ha : IV l a) (hl : l.length ≤ 1000) :
    (chkR l ≠ 0 ∧ ∃ H, bodyA E (kF (d + 2)) fg 1000000 19 [a] [] 0 = some (.tup [.nilsl, .int .i64 (chkR l)], H)) ∨
    (chkR l = 0 ∧ ∃ g H, bodyA E (kF (d + 2)) fg 1000000 19 [a] [] 0 = some (.tup [.ref g 0 (l.length + 1) (l.length + 1) (l.length + 1) 1 false, .int .i64 0], H) ∧ hget H g = some ⟨.row, ics (riL l)⟩) := by
  have hc := fun (site : Nat → Nat) seen => rcheck_call (d := d) (site := site) (seen := seen) ha hl
  have sn := iv_snap ha
  by_cases h0 : chkR l = 0
  · obtain ⟨h1, h6, hr⟩ := chkR_zero.1 h0
    refine .inr ⟨h0, 24, ?_⟩
    rw [h0] at hc
    obtain ⟨ex, rfl⟩ := iv_ne ha h1
    have hlen := ics_length l
    have hloop := loopM (f := execA E (kF (d + 2)) (fg 19) 0 26 [] 1000000 c19_19) (E0 := []) (rrS l ex) (l.length + 1) (fun i hi => rr_go hr (by omega) i hi) rfl (by omega)
      (e := .exit 0) (se := ([(15, .bool false), (6, .int .i64 ((l.length + 1 : Nat) : Int)), (5, .ref 24 0 (l.length + 1) (l.length + 1) (l.length + 1) 1 false), (0, .imm (ics l) l.length ex)], [(24, ⟨.row, ics (riL l)⟩)]))
      (by
        have g1 : ¬ ((l.length + 1 : Nat) : Int) ≤ l.length := by omega
        have er : (List.range (l.length + 1)).map (ps (rowF l)) = riL l := rfl
        simp only [rrS]
        rw [ov_pos (show 0 < l.length + 1 by omega), er, ohi_pos (by show 0 < (riP l l.length).length; rw [riP_len]; omega)]
        simp (disch := omega) only [ZF, stp, just, Rd.bind, Rd.run, Rd.opt, upds, aLen, aBuiltin, aBin, aInt, Nat.reduceBEq, Nat.reduceEqDiff, Nat.reduceLeDiff, ↓reduceIte, reduceCtorEq, ZT, F_19, g1]) (by simp)
    have e0 : oH 24 (ics ((List.range 0).map (ps (rowF l)))) = [] := rfl
    simp only [rrS, cl0, ov_zero, e0] at hloop
    generalize kF (d + 2) = C at *
    simp (disch := omega) only [ZF, frame0, stp, just, Rd.bind, Rd.run, Rd.opt, upds, resA, resL, aBin, aInt, Nat.reduceBEq, Nat.reduceEqDiff, Nat.reduceLeDiff, ↓reduceIte, reduceCtorEq, aCall, snaps, F_19, hc, hloop]
    exact ⟨_, rfl, rfl⟩
  · refine .inl ⟨h0, ?_⟩
    generalize kF (d + 2) = C at *
    generalize chkR l = z at *
    have h0' : (z == 0) = false := by rw [beq_eq_false_iff_ne]; exact h0
    simp (disch := omega) only [ZF, frame0, stp, just, Rd.bind, Rd.run, Rd.opt, upds, resA, resL, aBin, aInt, Nat.reduceBEq, Nat.reduceEqDiff, Nat.reduceLeDiff, ↓reduceIte, reduceCtorEq, aCall, snaps, F_19, hc, h0, sn 198]
    exact ⟨_, rfl⟩
theorem rwP_at {r : List Int} {i k : Nat} (h : k < i) : (rwP r i)[k]? = some (rowF r (k + 1) - rowF r k) := by
  simp only [rwP, List.getElem?_map]
  rw [List.getElem?_range h]; rfl
abbrev qwS (r : List Int) (ex : Bool) (i : Nat) : St := ([(5, .int .i64 ((i + 1 : Nat) : Int)), (4, oV 51 1 i), (0, .imm (ics r) r.length ex)], oH 51 (ics (rwP r i)))
theorem qw_go {d : Nat} {r : List Int} {ex : Bool} (h0 : rowF r 0 = 0) (h7 : r.length ≤ 7) (i : Nat) (hi : i < r.length - 1) (hz : ∀ j, j < i → rwE r j = 0) :
    (rwE r i = 0 ∧ ∃ s', execA E (kF (d + 1)) (fg 21) 0 68 [] 1000000 c21_33 (qwS r ex i) = some (.normal, s') ∧ headA [] s' = qwS r ex (i + 1)) ∨
    (rwE r i ≠ 0 ∧ ∃ H, execA E (kF (d + 1)) (fg 21) 0 68 [] 1000000 c21_33 (qwS r ex i) = some (.ret, ([(3, .int .i64 (rwE r i)), (2, .nilsl)], H))) := by
  obtain ⟨b1, b2, b3, b4⟩ := rw_bd h0 i hz
  have hlen := ics_length r
  have hat := icr_at (l := r) (k := i + 1) (by omega)
  have hat1 := icr_at (l := r) (k := i) (by omega)
  have g1 : ((i + 1 : Nat) : Int) < r.length := by omega
  have g0 : ((i : Nat) : Int) < r.length := by omega
  have w0 : wrp .i64 (((i + 1 : Nat) : Int) - 1) = (i : Int) := by rw [wrp64 (by omega)]; omega
  have w2 : wrp .i64 (rowF r i + 8) = rowF r i + 8 := wrp64 (by omega)
  have hin := fun (site : Nat → Nat) seen => rin_call (d := d) (site := site) (seen := seen) (x := rowF r (i + 1)) (lo := rowF r i) (hi := rowF r i + 8)
  generalize kF (d + 1) = C at *
  by_cases a : rowF r (i + 1) < rowF r i ∨ rowF r (i + 1) > rowF r i + 8
  · have e : rwE r i = 1 := if_pos a
    rw [e]
    refine .inr ⟨by decide, ?_⟩
    rw [decide_eq_false (by omega)] at hin
    simp (disch := omega) only [ZF, stp, justO, just, Rd.bind, Rd.run, Rd.opt, upds, tsz, rdCells, aLoad, aIndexAddr, aNum, aLen, aBuiltin, aBin, aInt, Nat.reduceAdd, Nat.reduceLT, Nat.reduceBEq, Nat.reduceEqDiff, Nat.reduceLeDiff, ↓reduceIte, reduceCtorEq, stpT, Rd.foot, writing, touching, Tr.empty, dynPairs, aUn, aCall, snaps, ZT, F_21, g0, g1, hat, hat1, hlen, w0, w2, hin, asc_oH]
    exact ⟨_, rfl⟩
  · rw [decide_eq_true (show rowF r i ≤ rowF r (i + 1) ∧ rowF r (i + 1) ≤ rowF r i + 8 by omega)] at hin
    have w1 : wrp .i64 (rowF r (i + 1) - rowF r i) = rowF r (i + 1) - rowF r i := wrp64 (by omega)
    have hsn := ics_snoc (rwP r i) (rowF r (i + 1) - rowF r i)
    have hrl : (ics (rwP r i)).length = i := by rw [ics_length, rwP_len]
    have hrl1 : (ics (rwP r (i + 1))).length = i + 1 := by rw [ics_length, rwP_len]
    have at1 : (ics (rwP r (i + 1)))[i]? = some (.int .i64 (rowF r (i + 1) - rowF r i)) := ics_at (rwP_at (by omega))
    rcases Nat.eq_zero_or_pos i with hp | hp
    · subst hp
      have e : rwE r 0 = 0 := by unfold rwE moF; rw [if_neg a, if_pos rfl, if_neg (by omega)]
      refine .inl ⟨e, ?_⟩
      simp only [qwS]
      rw [ov_pos (show 0 < 0 + 1 by omega), ohi_pos (l := rwP r (0 + 1)) (by rw [rwP_len]; omega), rwP_snoc, ← hsn]
      have e0 : ics (rwP r 0) = [] := rfl
      rw [e0, ov_zero]
      have oh0 : oH 51 [] = [] := rfl
      rw [oh0]
      have z1 : ((0 + 1 : Nat) : Int) = 1 := rfl
      simp only [z1, cl0] at *
      simp (disch := omega) only [ZF, stp, opPick, justO, just, Rd.bind, Rd.run, Rd.opt, upds, acells, zeroCells, tsz, elemT, rdCells, aLoad, fresh, aIndexAddr, aNum, aLen, aBuiltin, aBin, aInt, putC, evO, Nat.reduceAdd, Nat.reduceLT, Nat.reduceBEq, Nat.reduceEqDiff, Nat.reduceLeDiff, ↓reduceIte, reduceCtorEq, stpT, ↓gdT, Rd.foot, writing, touching, Tr.empty, dynPairs, apartT, disj, aBuildSlice, aBuildAt, partsOf, fillA, repC, isSliceT, aAppend, srcOf, window, aUn, aCall, snaps, Int.reduceLE, ZT, F_21, g0, g1, hat, hat1, hlen, w0, w1, w2, hin, room22 (show 1 ≤ 1000000 by omega), Int.toNat_zero, Int.toNat_one]
      exact ⟨_, rfl, rfl⟩
    · obtain ⟨m, rfl⟩ : ∃ m, i = m + 1 := ⟨i - 1, by omega⟩
      have em : moF r (m + 1) = rowF r (m + 1) - rowF r m := by unfold moF; rw [if_neg (by omega)]; rfl
      have at2 : (ics (rwP r (m + 1 + 1)))[m]? = some (.int .i64 (rowF r (m + 1) - rowF r m)) := ics_at (rwP_at (by omega))
      have w3 : wrp .i64 (((m + 1 + 1 : Nat) : Int) - 2) = (m : Int) := by rw [wrp64 (by omega)]; omega
      have g2 : ((m + 1 + 1 : Nat) : Int) > 1 := by omega
      have g3 : ((m + 1 : Nat) : Int) < ((m + 1 + 1 : Nat) : Int) := by omega
      have g4 : ((m : Nat) : Int) < ((m + 1 + 1 : Nat) : Int) := by omega
      have htk : List.take (m + 1) (ics (rwP r (m + 1))) = ics (rwP r (m + 1)) := List.take_of_length_le (by omega)
      have hno : ¬ m + 1 + 1 ≤ m + 1 := by omega
      rw [← rwP_snoc] at hsn
      by_cases b : rowF r (m + 1 + 1) - rowF r (m + 1) > rowF r (m + 1) - rowF r m
      · have e : rwE r (m + 1) = 7 := by unfold rwE; rw [if_neg a, em, if_pos b]
        rw [e]
        refine .inr ⟨by decide, ?_⟩
        simp only [qwS]
        rw [ov_pos (show 0 < m + 1 by omega), ohi_pos (by rw [rwP_len]; omega)]
        generalize ics (rwP r (m + 1)) = L at *
        generalize ics (rwP r (m + 1 + 1)) = L1 at *
        simp (disch := omega) only [ZF, stp, opPick, justO, just, Rd.bind, Rd.run, Rd.opt, upds, acells, zeroCells, tsz, elemT, rdCells, aLoad, fresh, aIndexAddr, aNum, aLen, aBuiltin, aBin, aInt, putC, evO, Nat.reduceAdd, Nat.reduceLT, Nat.reduceBEq, Nat.reduceEqDiff, Nat.reduceLeDiff, ↓reduceIte, reduceCtorEq, stpT, ↓gdT, Rd.foot, writing, touching, Tr.empty, dynPairs, apartT, disj, aBuildSlice, aBuildAt, partsOf, fillA, repC, isSliceT, aAppend, srcOf, window, aUn, aCall, snaps, ZT, F_21, g0, g1, g2, g3, g4, hat, hat1, hlen, hrl, hrl1, htk, hno, hsn, at1, at2, w0, w1, w2, w3, b, hin, room22 (show m + 1 + 1 ≤ 1000000 by omega)]
        exact ⟨_, rfl⟩
      · have e : rwE r (m + 1) = 0 := by unfold rwE; rw [if_neg a, em, if_neg b]
        refine .inl ⟨e, ?_⟩
        simp only [qwS]
        rw [ov_pos (show 0 < m + 1 by omega), ov_pos (show 0 < m + 1 + 1 by omega), ohi_pos (l := rwP r (m + 1)) (by rw [rwP_len]; omega), ohi_pos (l := rwP r (m + 1 + 1)) (by rw [rwP_len]; omega)]
        generalize ics (rwP r (m + 1)) = L at *
        generalize ics (rwP r (m + 1 + 1)) = L1 at *
        simp (disch := omega) only [ZF, stp, opPick, justO, just, Rd.bind, Rd.run, Rd.opt, upds, acells, zeroCells, tsz, elemT, rdCells, aLoad, fresh, aIndexAddr, aNum, aLen, aBuiltin, aBin, aInt, putC, evO, Nat.reduceAdd, Nat.reduceLT, Nat.reduceBEq, Nat.reduceEqDiff, Nat.reduceLeDiff, ↓reduceIte, reduceCtorEq, stpT, ↓gdT, Rd.foot, writing, touching, Tr.empty, dynPairs, apartT, disj, aBuildSlice, aBuildAt, partsOf, fillA, repC, isSliceT, aAppend, srcOf, window, aUn, aCall, snaps, ZT, F_21, g0, g1, g2, g3, g4, hat, hat1, hlen, hrl, hrl1, htk, hno, hsn, at1, at2, w0, w1, w2, w3, b, hin, room22 (show m + 1 + 1 ≤ 1000000 by omega), wrp_succ (show m + 1 + 1 < 1000000 by omega)]
        exact ⟨_, rfl, rfl⟩
theorem rRow_run {d : Nat} {r : List Int} {a : AV} (ha : IV r a) (hl : r.length ≤ 1000) :
    (rowE r ≠ 0 ∧ ∃ H, bodyA E (kF (d + 1)) fg 1000000 21 [a] [] 0 = some (.tup [.nilsl, .int .i64 (rowE r)], H)) ∨
    (rowE r = 0 ∧ ∃ g H, bodyA E (kF (d + 1)) fg 1000000 21 [a] [] 0 = some (.tup [.ref g 0 (r.length - 1) (r.length - 1) (r.length - 1) 1 false, .int .i64 0], H) ∧ hget H g = some ⟨.row, ics (rwP r (r.length - 1))⟩) := by
  unfold rowE
  rcases ha with ⟨rfl, rfl⟩ | ⟨ex, rfl⟩
  · refine .inl ⟨by simp, ?_⟩
    simp (disch := omega) only [ZF, frame0, stp, just, Rd.bind, Rd.run, Rd.opt, upds, resA, resL, aLen, aBuiltin, aBin, aInt, Nat.reduceLT, Nat.reduceBEq, Nat.reduceEqDiff, Nat.reduceLeDiff, ↓reduceIte, reduceCtorEq, Int.reduceLT, ZT, F_21]
    exact ⟨_, rfl⟩
  · have hlen := ics_length r
    by_cases c1 : r.length < 2
    · rw [if_pos c1]
      have g : (r.length : Int) < 2 := by omega
      refine .inl ⟨by simp, ?_⟩
      simp (disch := omega) only [ZF, frame0, stp, just, Rd.bind, Rd.run, Rd.opt, upds, resA, resL, aLen, aBuiltin, aBin, aInt, Nat.reduceBEq, Nat.reduceEqDiff, Nat.reduceLeDiff, ↓reduceIte, reduceCtorEq, ZT, F_21, g]
      exact ⟨_, rfl⟩
    · rw [if_neg c1]
      have g : ¬ (r.length : Int) < 2 := by omega
      have g' : (0 : Int) < r.length := by omega
      have hat0 : (ics r)[0]? = some (.int .i64 (rowF r 0)) := icr_at (by omega)
      by_cases c2 : rowF r 0 ≠ 0
      · rw [if_pos c2]
        refine .inl ⟨by simp, ?_⟩
        have c2' : (rowF r 0 == 0) = false := by rw [beq_eq_false_iff_ne]; exact c2
        simp (disch := omega) only [ZF, frame0, stp, just, Rd.bind, Rd.run, Rd.opt, upds, tsz, rdCells, aLoad, resA, resL, aIndexAddr, aNum, aLen, aBuiltin, aBin, aInt, Nat.reduceLT, Nat.reduceBEq, Nat.reduceEqDiff, Nat.reduceLeDiff, ↓reduceIte, reduceCtorEq, Int.reduceLE, ZT, F_21, g, g', hat0, hlen, c2, Int.toNat_zero]
        exact ⟨_, rfl⟩
      · rw [if_neg c2]
        have c2 : rowF r 0 = 0 := Classical.byContradiction c2
        by_cases c3 : r.length > 7
        · rw [if_pos c3]
          have g3 : (r.length : Int) > 7 := by omega
          refine .inl ⟨by simp, ?_⟩
          simp (disch := omega) only [ZF, frame0, stp, just, Rd.bind, Rd.run, Rd.opt, upds, tsz, rdCells, aLoad, resA, resL, aIndexAddr, aNum, aLen, aBuiltin, aBin, aInt, Nat.reduceLT, Nat.reduceBEq, Nat.reduceEqDiff, Nat.reduceLeDiff, ↓reduceIte, reduceCtorEq, Int.reduceLE, ZT, F_21, g, g', g3, hat0, hlen, c2, Int.toNat_zero]
          exact ⟨_, rfl⟩
        · rw [if_neg c3]
          have g3 : ¬ (r.length : Int) > 7 := by omega
          have hloop := loopE (f := execA E (kF (d + 1)) (fg 21) 0 68 [] 1000000 c21_33) (e := rwE r) (R := fun e H => ([(3, .int .i64 e), (2, .nilsl)], H)) (qwS r ex) (r.length - 1) (E0 := []) rfl (by omega) (x := .exit 0) (se := ([(19, .bool false), (5, .int .i64 ((r.length - 1 + 1 : Nat) : Int)), (4, .ref 51 0 (r.length - 1) (r.length - 1) (r.length - 1) 1 false), (0, .imm (ics r) r.length ex)], [(51, ⟨.row, ics (rwP r (r.length - 1))⟩)])) (by simp)
            (fun i hi hz he => (qw_go c2 (by omega) i hi hz).elim (·.2) fun h => absurd he h.1) (fun i hi hz he => (qw_go c2 (by omega) i hi hz).elim (fun h => absurd h.1 he) (·.2)) (fun _ => by
              have g4 : ¬ ((r.length - 1 + 1 : Nat) : Int) < r.length := by omega
              simp only [qwS]
              rw [ov_pos (show 0 < r.length - 1 by omega), ohi_pos (by rw [rwP_len]; omega)]
              simp (disch := omega) only [ZF, stp, just, Rd.bind, Rd.run, Rd.opt, upds, aLen, aBuiltin, aBin, aInt, Nat.reduceBEq, Nat.reduceEqDiff, Nat.reduceLeDiff, ↓reduceIte, reduceCtorEq, ZT, F_21, g4])
          have e0 : oH 51 (ics (rwP r 0)) = [] := rfl
          have z1 : ((0 + 1 : Nat) : Int) = 1 := rfl
          simp only [qwS, z1, e0, ov_zero] at hloop
          generalize kF (d + 1) = C at *
          rcases hloop with ⟨hz, hloop⟩ | ⟨hz, H, hloop⟩
          · refine .inr ⟨hz, 51, ?_⟩
            simp (disch := omega) only [ZF, frame0, stp, just, Rd.bind, Rd.run, Rd.opt, upds, tsz, rdCells, aLoad, resA, resL, aIndexAddr, aNum, aLen, aBuiltin, aBin, aInt, Nat.reduceLT, Nat.reduceBEq, Nat.reduceEqDiff, Nat.reduceLeDiff, ↓reduceIte, reduceCtorEq, Int.reduceLE, ZT, F_21, g, g', g3, hat0, hlen, c2, hloop, Int.toNat_zero]
            exact ⟨_, rfl, rfl⟩
          · refine .inl ⟨hz, ?_⟩
            simp (disch := omega) only [ZF, frame0, stp, just, Rd.bind, Rd.run, Rd.opt, upds, tsz, rdCells, aLoad, resA, resL, aIndexAddr, aNum, aLen, aBuiltin, aBin, aInt, Nat.reduceLT, Nat.reduceBEq, Nat.reduceEqDiff, Nat.reduceLeDiff, ↓reduceIte, reduceCtorEq, Int.reduceLE, ZT, F_21, g, g', g3, hat0, hlen, c2, hloop, Int.toNat_zero]
            exact ⟨_, rfl⟩
end Go.AM.Ytfmnoohhhokicaa
end

section
namespace Go.AM.Ytfmnoohhhokicaa
open Go Go.AM Go.AM.Rub
set_option maxRecDepth 100000
set_option maxHeartbeats 4000000
abbrev qrS (l : List Int) (n : Nat) (ex : Bool) (i j : Nat) : St := ([(7, .ref 8 0 n n n 1 false), (2, .int .i64 j), (1, .int .i64 i), (0, .imm (ics l) n ex)], [(8, ⟨.row, ics l⟩)])
theorem qr_l1 {C : Callee} {l : List Int} {n : Nat} {ex : Bool} (hl : l.length = n) (h8 : n ≤ 8) (j : Nat) : ∀ (m i F : Nat), n ≤ i + m + 1 → i < n → m < F →
    iterA (execA E C (fg 84) 0 55 [] 1000000 c84_7) (headA []) F (qrS l n ex i j) = some (.exit 0, ([(27, .bool false), (7, .ref 8 0 n n n 1 false), (2, .int .i64 j), (1, .int .i64 (lastEq l i m)), (0, .imm (ics l) n ex)], [(8, ⟨.row, ics l⟩)]))
  | m, i, 0, _, _, hF => by omega
  | 0, i, F + 1, h1, h2, _ => by
    have hlen : (ics l).length = n := by rw [ics_length, hl]
    have hi : n = i + 1 := by omega
    have g1 : ¬ ((i + 1 : Nat) : Int) < n := by omega
    rw [iterA_succ, show headA [] (qrS l n ex i j) = qrS l n ex i j from rfl]
    simp (disch := omega) only [ZF, opPick, just, Rd.bind, Rd.run, Rd.opt, upds, aLen, aBuiltin, aBin, aInt, Nat.reduceAdd, Nat.reduceBEq, Nat.reduceEqDiff, Nat.reduceLeDiff, ↓reduceIte, reduceCtorEq, stpT, ↓gdT, Rd.foot, writing, touching, Tr.empty, dynPairs, ZT, F_84, g1, lastEq, wrp_succ (show i < 1000000 by omega)]
  | m + 1, i, F + 1, h1, h2, hF => by
    have hlen : (ics l).length = n := by rw [ics_length, hl]
    rw [iterA_succ, show headA [] (qrS l n ex i j) = qrS l n ex i j from rfl]
    simp only [lastEq]
    by_cases hi : i + 1 < n
    · have a1 := icr_at (l := l) (k := i) (by omega)
      have a2 := icr_at (l := l) (k := i + 1) (by omega)
      have g1 : ((i + 1 : Nat) : Int) < n := by omega
      have g2 : (i : Int) < n := by omega
      by_cases he : rowF l (i + 1) = rowF l i
      · rw [if_pos ⟨by omega, he⟩, ← qr_l1 (C := C) (ex := ex) hl h8 j m (i + 1) F (by omega) (by omega) (by omega)]
        simp (disch := omega) only [ZF, stp, opPick, just, Rd.bind, Rd.run, Rd.opt, upds, tsz, rdCells, aLoad, aIndexAddr, aNum, aLen, aBuiltin, aBin, aInt, Nat.reduceAdd, Nat.reduceLT, Nat.reduceBEq, Nat.reduceEqDiff, Nat.reduceLeDiff, ↓reduceIte, reduceCtorEq, stpT, ↓gdT, Rd.foot, writing, touching, Tr.empty, dynPairs, ZT, F_84, hlen, a1, a2, g1, g2, he, wrp_succ (show i < 1000000 by omega)]
      · rw [if_neg fun h => he h.2]
        have he' : (rowF l (i + 1) == rowF l i) = false := by rw [beq_eq_false_iff_ne]; exact he
        simp (disch := omega) only [ZF, opPick, just, Rd.bind, Rd.run, Rd.opt, upds, tsz, rdCells, aLoad, aIndexAddr, aNum, aLen, aBuiltin, aBin, aInt, Nat.reduceAdd, Nat.reduceLT, Nat.reduceBEq, Nat.reduceEqDiff, Nat.reduceLeDiff, ↓reduceIte, reduceCtorEq, stpT, ↓gdT, Rd.foot, writing, touching, Tr.empty, dynPairs, ZT, F_84, hlen, a1, a2, g1, g2, he', wrp_succ (show i < 1000000 by omega)]
    · rw [if_neg fun h => hi (by omega)]
      have g1 : ¬ ((i + 1 : Nat) : Int) < n := by omega
      simp (disch := omega) only [ZF, opPick, just, Rd.bind, Rd.run, Rd.opt, upds, aLen, aBuiltin, aBin, aInt, Nat.reduceAdd, Nat.reduceBEq, Nat.reduceEqDiff, Nat.reduceLeDiff, ↓reduceIte, reduceCtorEq, stpT, ↓gdT, Rd.foot, writing, touching, Tr.empty, dynPairs, ZT, F_84, g1, wrp_succ (show i < 1000000 by omega)]
theorem qr_l2 {C : Callee} {l : List Int} {n : Nat} {ex : Bool} (hl : l.length = n) (h8 : n ≤ 8) (i : Nat) : ∀ (j F : Nat), j < n → 0 < firstEq l j → j < F →
    iterA (execA E C (fg 84) 0 55 [] 1000000 c84_18) (headA []) F (qrS l n ex i j) = some (.exit 2, ([(39, .bool false), (7, .ref 8 0 n n n 1 false), (2, .int .i64 (firstEq l j)), (1, .int .i64 i), (0, .imm (ics l) n ex)], [(8, ⟨.row, ics l⟩)]))
  | j, 0, _, _, hF => by omega
  | 0, F + 1, _, h, _ => by simp [firstEq] at h
  | j + 1, F + 1, h1, h2, hF => by
    have hlen : (ics l).length = n := by rw [ics_length, hl]
    have a1 := icr_at (l := l) (k := j) (by omega)
    have a2 := icr_at (l := l) (k := j + 1) (by omega)
    have g2 : ((j + 1 : Nat) : Int) < n := by omega
    have g3 : (j : Int) < n := by omega
    have w : wrp .i64 (((j + 1 : Nat) : Int) - 1) = (j : Int) := by rw [wrp64 (by omega)]; omega
    rw [iterA_succ, show headA [] (qrS l n ex i (j + 1)) = qrS l n ex i (j + 1) from rfl]
    simp only [firstEq] at h2 ⊢
    by_cases he : rowF l j = rowF l (j + 1)
    · rw [if_pos he] at h2 ⊢
      rw [← qr_l2 (C := C) (ex := ex) hl h8 i j F (by omega) h2 (by omega)]
      simp (disch := omega) only [ZF, stp, just, Rd.bind, Rd.run, Rd.opt, upds, tsz, rdCells, aLoad, aIndexAddr, aNum, aBin, aInt, Nat.reduceAdd, Nat.reduceLT, Nat.reduceBEq, Nat.reduceEqDiff, Nat.reduceLeDiff, ↓reduceIte, reduceCtorEq, stpT, Rd.foot, writing, touching, Tr.empty, dynPairs, ZT, F_84, hlen, a1, a2, g2, g3, he, w]
    · rw [if_neg he]
      have he' : (rowF l j == rowF l (j + 1)) = false := by rw [beq_eq_false_iff_ne]; exact he
      simp (disch := omega) only [ZF, just, Rd.bind, Rd.run, Rd.opt, upds, tsz, rdCells, aLoad, aIndexAddr, aNum, aBin, aInt, Nat.reduceAdd, Nat.reduceLT, Nat.reduceBEq, Nat.reduceEqDiff, Nat.reduceLeDiff, ↓reduceIte, reduceCtorEq, stpT, Rd.foot, writing, touching, Tr.empty, dynPairs, ZT, F_84, hlen, a1, a2, g2, g3, he', w]
theorem rubbed_run {C : Callee} {n : Nat} {l : List Int} {ex : Bool} (h : Rw n l) (h6 : n ≤ 6) {i j : Nat} (r : Rb n l i j) :
    ∃ H, bodyA E C fg 1000000 84 [.imm (ics l) n ex, .int .i64 i, .int .i64 j] [] 0 = some (.ref 8 0 n n n 1 false, H) ∧ hget H 8 = some ⟨.row, ics (rubL l i j)⟩ := by
  obtain ⟨re, _⟩ := rub_ends h r
  have hl := h.len
  have hij := r.lt
  have hj := r.lj
  have := re.lt
  have := re.lj
  have h1 := qr_l1 (C := C) (ex := ex) hl (by omega) j l.length i 1000000 (by omega) (by omega) (by omega)
  have h2 := qr_l2 (C := C) (ex := ex) hl (by omega) (lastEq l i l.length) j 1000000 (by omega) (by omega) (by omega)
  simp only [qrS] at h1 h2
  have eR : rubL l i j = mvL l (lastEq l i l.length) (firstEq l j) := rfl
  rw [eR]
  generalize lastEq l i l.length = p at *
  generalize firstEq l j = q at *
  have hlen : (ics l).length = n := by rw [ics_length, hl]
  have a1 := icr_at (l := l) (k := p) (by omega)
  have b1 := rw_b h (k := p) (by omega)
  have b2 := rw_b h (k := q) (by omega)
  have w1 : wrp .i64 (rowF l p - 1) = rowF l p - 1 := wrp64 (by omega)
  have w2 : wrp .i64 (rowF l q + 1) = rowF l q + 1 := wrp64 (by omega)
  have e1 := ics_set l p (rowF l p - 1)
  have l1 : (ics (l.set p (rowF l p - 1))).length = n := by rw [ics_length, List.length_set, hl]
  have a2 : (ics (l.set p (rowF l p - 1)))[q]? = some (.int .i64 (rowF l q)) := by
    refine ics_at ?_
    rw [List.getElem?_set_ne (by omega)]
    exact rowF_at (by omega)
  have e2 := ics_set (l.set p (rowF l p - 1)) q (rowF l q + 1)
  have e3 : ics ((l.set p (rowF l p - 1)).set q (rowF l q + 1)) = ics (mvL l p q) := rfl
  rw [e3] at e2
  have htk : List.take n (ics l) = ics l := List.take_of_length_le (by omega)
  generalize ics (mvL l p q) = R at *
  generalize ics (l.set p (rowF l p - 1)) = M at *
  have g1 : (p : Int) < n := by omega
  have g2 : (q : Int) < n := by omega
  have hn0 : ¬ n = 0 := by omega
  have hn1 : ¬ n ≤ 0 := by omega
  simp (disch := omega) only [ZF, frame0, stp, just, Rd.bind, Rd.run, Rd.opt, upds, acells, zeroCells, tsz, elemT, rdCells, aLoad, aStore, opStore, resA, resL, fresh, aIndexAddr, aNum, aBuiltin, aBin, aInt, putC, Nat.reduceAdd, Nat.reduceLT, Nat.reduceBEq, Nat.reduceEqDiff, Nat.reduceLeDiff, ↓reduceIte, reduceCtorEq, aBuildSlice, aBuildAt, partsOf, fillA, repC, isSliceT, aAppend, srcOf, window, snaps, ZT, F_84, srcOf, h1, h2, hlen, a1, a2, l1, w1, w2, e1, e2, hn0, hn1, g1, g2, if_pos, room22 (show n ≤ 1000000 by omega)]
  exact ⟨_, rfl, rfl⟩
theorem rubbed_call {d : Nat} {site : Nat → Nat} {seen : List Nat} {n : Nat} {l : List Int} {ex : Bool} (h : Rw n l) (h6 : n ≤ 6) {i j : Nat} (r : Rb n l i j) : aBack site true seen (thaw (kF (d + 1)) 84 [.imm (ics l) n ex, .int .i64 i, .int .i64 j] [] 0) =
    back1 (site 0) seen (fun k => .ref k 0 n n n 1 false) ⟨.row, ics (rubL l i j)⟩ := by
  obtain ⟨H, h1, h2⟩ := rubbed_run (C := kF d) (ex := ex) h h6 r
  refine aBack_refc (by rw [kF_no rfl]; exact h1) h2 ?_
  rw [ics_length]; show (mvL l _ _).length = n; rw [mvL_length, h.len]
theorem rRub_run {d : Nat} {l : List Int} {a : AV} {i j : Int} (ha : IV l a) (hl : l.length ≤ 1000) :
    (rubE l i j ≠ 0 ∧ ∃ H, bodyA E (kF (d + 2)) fg 1000000 23 [a, .int .i64 i, .int .i64 j] [] 0 = some (.tup [.nilsl, .int .i64 (rubE l i j)], H)) ∨
    (rubE l i j = 0 ∧ ∃ g H, bodyA E (kF (d + 2)) fg 1000000 23 [a, .int .i64 i, .int .i64 j] [] 0 = some (.tup [.ref g 0 l.length l.length l.length 1 false, .int .i64 0], H) ∧ hget H g = some ⟨.row, ics (rubL l i.toNat j.toNat)⟩) := by
  have hc := fun (site : Nat → Nat) seen => rcheck_call (d := d) (site := site) (seen := seen) ha hl
  have hin := fun (site : Nat → Nat) seen x hi => rin_call (d := d + 1) (site := site) (seen := seen) (x := x) (lo := 0) (hi := hi)
  have sn := iv_snap ha
  have w : wrp .i64 ((l.length : Int) - 1) = (l.length : Int) - 1 := wrp64 (by omega)
  by_cases hE : rubE l i j = 0
  · obtain ⟨h0, h6, hr, x, y, rfl, rfl, rb⟩ := rubE_zero hE
    refine .inr ⟨hE, 56, ?_⟩
    have hch : chkR l = 0 := by rw [chkR_zero]; exact ⟨h0, h6, hr⟩
    rw [hch] at hc
    obtain ⟨ex, rfl⟩ := iv_ne ha h0
    have hap := fun (site : Nat → Nat) seen ex => rubbed_call (d := d + 1) (site := site) (seen := seen) (ex := ex) hr h6 rb
    have hlt := rb.lt
    have hlj := rb.lj
    have hdf := rb.df
    have hlen := ics_length l
    have d1 : decide ((0 : Int) ≤ (x : Int) ∧ (x : Int) ≤ (l.length : Int) - 1) = true := decide_eq_true (by omega)
    have d2 : decide ((0 : Int) ≤ (y : Int) ∧ (y : Int) ≤ (l.length : Int) - 1) = true := decide_eq_true (by omega)
    have g5 : ¬ (x : Int) ≥ y := by omega
    have g6 : (x : Int) < l.length := by omega
    have g7 : (y : Int) < l.length := by omega
    have a1 := icr_at (l := l) (k := x) (by omega)
    have a2 := icr_at (l := l) (k := y) (by omega)
    have b1 := rw_b hr (k := x) (by omega)
    have b2 := rw_b hr (k := y) (by omega)
    have w3 : wrp .i64 (rowF l x - rowF l y) = rowF l x - rowF l y := wrp64 (by omega)
    have g8 : ¬ rowF l x - rowF l y < 2 := by omega
    have h1 := fun (site : Nat → Nat) seen => hin site seen (x : Int) ((l.length : Int) - 1)
    have h2 := fun (site : Nat → Nat) seen => hin site seen (y : Int) ((l.length : Int) - 1)
    rw [d1] at h1
    rw [d2] at h2
    simp only [Int.toNat_natCast]
    generalize kF (d + 2) = C at *
    simp (disch := omega) only [ZF, ↓gd, frame0, stp, opPick, justO, just, Rd.bind, Rd.run, Rd.opt, upds, tsz, rdCells, aLoad, resA, resL, aIndexAddr, aNum, aLen, aBuiltin, aBin, aInt, Nat.reduceAdd, Nat.reduceLT, Nat.reduceBEq, Nat.reduceEqDiff, Nat.reduceLeDiff, ↓reduceIte, reduceCtorEq, stpT, ↓gdT, Rd.foot, writing, touching, Tr.empty, dynPairs, aUn, aCall, snaps, ZT, F_23, hc, h1, h2, hap, hlen, g5, g6, g7, g8, a1, a2, w, w3]
    exact ⟨_, rfl, rfl⟩
  · refine .inl ⟨hE, ?_⟩
    generalize hk : kF (d + 2) = C at *
    unfold rubE at hE ⊢
    by_cases h0 : chkR l = 0
    · rw [if_neg (fun e => e h0)] at hE ⊢
      rw [h0] at hc
      obtain ⟨h1, h6, hr⟩ := chkR_zero.1 h0
      obtain ⟨ex, rfl⟩ := iv_ne ha h1
      have hlen := ics_length l
      have h1 := fun (site : Nat → Nat) seen => hin site seen i ((l.length : Int) - 1)
      have h2 := fun (site : Nat → Nat) seen => hin site seen j ((l.length : Int) - 1)
      by_cases c1 : min i j < 0 ∨ max i j ≥ l.length
      · rw [if_pos c1]
        by_cases d1 : (0 : Int) ≤ i ∧ i ≤ (l.length : Int) - 1
        · have d2 : ¬ ((0 : Int) ≤ j ∧ j ≤ (l.length : Int) - 1) := by omega
          rw [decide_eq_true d1] at h1
          rw [decide_eq_false d2] at h2
          simp (disch := omega) only [ZF, ↓gd, frame0, stp, opPick, justO, just, Rd.bind, Rd.run, Rd.opt, upds, resA, resL, aLen, aBuiltin, aBin, aInt, Nat.reduceAdd, Nat.reduceBEq, Nat.reduceEqDiff, Nat.reduceLeDiff, ↓reduceIte, reduceCtorEq, stpT, ↓gdT, Rd.foot, writing, touching, Tr.empty, dynPairs, aUn, aCall, snaps, Int.reduceEq, ZT, F_23, hc, h1, h2, w]
          exact ⟨_, rfl⟩
        · rw [decide_eq_false d1] at h1
          simp (disch := omega) only [ZF, ↓gd, frame0, stp, opPick, justO, just, Rd.bind, Rd.run, Rd.opt, upds, resA, resL, aLen, aBuiltin, aBin, aInt, Nat.reduceAdd, Nat.reduceBEq, Nat.reduceEqDiff, Nat.reduceLeDiff, ↓reduceIte, reduceCtorEq, stpT, ↓gdT, Rd.foot, writing, touching, Tr.empty, dynPairs, aUn, aCall, snaps, Int.reduceEq, ZT, F_23, hc, h1, w]
          exact ⟨_, rfl⟩
      · rw [if_neg c1] at hE ⊢
        rw [decide_eq_true (show (0 : Int) ≤ i ∧ i ≤ (l.length : Int) - 1 by omega)] at h1
        rw [decide_eq_true (show (0 : Int) ≤ j ∧ j ≤ (l.length : Int) - 1 by omega)] at h2
        by_cases c4 : i ≥ j
        · rw [if_pos c4]
          simp (disch := omega) only [ZF, ↓gd, frame0, stp, opPick, justO, just, Rd.bind, Rd.run, Rd.opt, upds, resA, resL, aLen, aBuiltin, aBin, aInt, Nat.reduceAdd, Nat.reduceBEq, Nat.reduceEqDiff, Nat.reduceLeDiff, ↓reduceIte, reduceCtorEq, stpT, ↓gdT, Rd.foot, writing, touching, Tr.empty, dynPairs, aUn, aCall, snaps, Int.reduceEq, ZT, F_23, hc, h1, h2, c4, w]
          exact ⟨_, rfl⟩
        · rw [if_neg c4] at hE ⊢
          obtain ⟨x, rfl⟩ : ∃ x : Nat, i = x := ⟨i.toNat, by omega⟩
          obtain ⟨y, rfl⟩ : ∃ y : Nat, j = y := ⟨j.toNat, by omega⟩
          simp only [Int.toNat_natCast] at hE ⊢
          by_cases c5 : rowF l x - rowF l y < 2
          · rw [if_pos c5]
            have g6 : (x : Int) < l.length := by omega
            have g7 : (y : Int) < l.length := by omega
            have a1 := icr_at (l := l) (k := x) (by omega)
            have a2 := icr_at (l := l) (k := y) (by omega)
            have b1 := rw_b hr (k := x) (by omega)
            have b2 := rw_b hr (k := y) (by omega)
            have w3 : wrp .i64 (rowF l x - rowF l y) = rowF l x - rowF l y := wrp64 (by omega)
            simp (disch := omega) only [ZF, ↓gd, frame0, stp, opPick, justO, just, Rd.bind, Rd.run, Rd.opt, upds, tsz, rdCells, aLoad, resA, resL, aIndexAddr, aNum, aLen, aBuiltin, aBin, aInt, Nat.reduceAdd, Nat.reduceLT, Nat.reduceBEq, Nat.reduceEqDiff, Nat.reduceLeDiff, ↓reduceIte, reduceCtorEq, stpT, ↓gdT, Rd.foot, writing, touching, Tr.empty, dynPairs, aUn, aCall, snaps, Int.reduceEq, ZT, F_23, hc, h1, h2, hlen, c4, c5, g6, g7, a1, a2, w, w3]
            exact ⟨_, rfl⟩
          · rw [if_neg c5] at hE; exact absurd rfl hE
    · rw [if_pos h0]
      generalize chkR l = z at *
      have h0' : (z == 0) = false := by rw [beq_eq_false_iff_ne]; exact h0
      simp (disch := omega) only [ZF, ↓gd, frame0, stp, opPick, just, Rd.bind, Rd.run, Rd.opt, upds, resA, resL, aBin, aInt, Nat.reduceAdd, Nat.reduceBEq, Nat.reduceEqDiff, Nat.reduceLeDiff, ↓reduceIte, reduceCtorEq, stpT, ↓gdT, Rd.foot, writing, touching, Tr.empty, dynPairs, aCall, snaps, F_23, hc, h0, h0', sn 198]
      exact ⟨_, rfl⟩
end Go.AM.Ytfmnoohhhokicaa
end

section
namespace Go.AM.Ytfmnoohhhokicaa
open Go Go.AM
set_option maxRecDepth 100000
variable {C : Callee} {B N : Nat} {E0 : AHeap} (φ : AFr) (H : AHeap) (s : St)
noncomputable def c24_0 : Code := kBody Proofs.Try.f24
noncomputable def c24_1 : Code := kL c24_0
noncomputable def r24_0 : Array Oper := kO c24_1
noncomputable def o24_0_0 : Oper := opN r24_0 0
theorem x24_1 : execA E C (fg 24) B 26 E0 N c24_1 s = regX (runA E C B 26 r24_0 r24_0.toList s) (fun s => gcM E0 [4] (forget s.1 [4], s.2)) := x_reg (ops := r24_0) (by rfl) (by rfl) s
theorem r24_0_l : r24_0.toList = [o24_0_0] := nrfl rfl
theorem s24_0_0 : stepA E C B 26 r24_0 o24_0_0 (φ, H) = some (fput φ 4 (.bool false), H) := nrfl rfl
noncomputable def c24_2 : Code := kR c24_0
noncomputable def c24_3 : Code := kL c24_2
noncomputable def c24_4 : Code := kL c24_3
noncomputable def r24_1 : Array Oper := kO c24_4
noncomputable def o24_1_0 : Oper := opN r24_1 0
noncomputable def o24_1_1 : Oper := opN r24_1 1
noncomputable def o24_1_2 : Oper := opN r24_1 2
noncomputable def o24_1_3 : Oper := opN r24_1 3
noncomputable def o24_1_4 : Oper := opN r24_1 4
theorem x24_4 : execA E C (fg 24) B 26 E0 N c24_4 s = regX (runA E C B 26 r24_1 r24_1.toList s) (fun s => gcM E0 [6, 7, 8, 9] (forget s.1 [6, 7, 8, 9], s.2)) := x_reg (ops := r24_1) (by rfl) (by rfl) s
theorem r24_1_l : r24_1.toList = [o24_1_0, o24_1_1, o24_1_2, o24_1_3, o24_1_4] := nrfl rfl
theorem s24_1_0 : stepA E C B 26 r24_1 o24_1_0 (φ, H) = some (fput φ 6 (fget φ 0), H) := nrfl rfl
theorem s24_1_1 : stepA E C B 26 r24_1 o24_1_1 (φ, H) = stp (some 7) φ H (aBuiltin E.T (B + 7) .len #[22] [(fget φ 6)]) := nrfl rfl
theorem s24_1_2 : stepA E C B 26 r24_1 o24_1_2 (φ, H) = some (fput φ 8 (fget φ 1), H) := nrfl rfl
theorem s24_1_3 : stepA E C B 26 r24_1 o24_1_3 (φ, H) = stp (some 9) φ H (aBuiltin E.T (B + 9) .len #[22] [(fget φ 8)]) := nrfl rfl
theorem s24_1_4 : stepA E C B 26 r24_1 o24_1_4 (φ, H) = stp (some 10) φ H (just (aBin E.T .neq 3 (fget φ 7) (fget φ 9))) := nrfl rfl
noncomputable def c24_5 : Code := kR c24_3
noncomputable def c24_6 : Code := kT c24_5
noncomputable def c24_7 : Code := kL c24_6
noncomputable def r24_2 : Array Oper := kO c24_7
noncomputable def o24_2_0 : Oper := opN r24_2 0
theorem x24_7 : execA E C (fg 24) B 26 E0 N c24_7 s = regX (runA E C B 26 r24_2 r24_2.toList s) (fun s => gcM E0 [0, 1, 10] (forget s.1 [0, 1, 10], s.2)) := x_reg (ops := r24_2) (by rfl) (by rfl) s
theorem r24_2_l : r24_2.toList = [o24_2_0] := nrfl rfl
theorem s24_2_0 : stepA E C B 26 r24_2 o24_2_0 (φ, H) = some (fput φ 4 (.bool false), H) := nrfl rfl
noncomputable def c24_8 : Code := kR c24_6
theorem x24_8 : execA E C (fg 24) B 26 E0 N c24_8 s = some (.ret, s) := x_ret (by rfl) s
theorem x24_6 : execA E C (fg 24) B 26 E0 N c24_6 s = seqX (execA E C (fg 24) B 26 E0 N c24_7 s) (execA E C (fg 24) B 26 E0 N c24_8) := x_seq (by rfl) s
noncomputable def c24_9 : Code := kE c24_5
theorem x24_9 : execA E C (fg 24) B 26 E0 N c24_9 s = some (.normal, s) := x_skip (by rfl) s
theorem x24_5 : execA E C (fg 24) B 26 E0 N c24_5 (φ, H) = condX (fget φ 10) (execA E C (fg 24) B 26 E0 N c24_6 (φ, H)) (execA E C (fg 24) B 26 E0 N c24_9 (φ, H)) := x_cond (by rfl) _
theorem x24_3 : execA E C (fg 24) B 26 E0 N c24_3 s = seqX (execA E C (fg 24) B 26 E0 N c24_4 s) (execA E C (fg 24) B 26 E0 N c24_5) := x_seq (by rfl) s
noncomputable def c24_10 : Code := kR c24_2
noncomputable def c24_11 : Code := kL c24_10
noncomputable def c24_12 : Code := kL c24_11
noncomputable def r24_3 : Array Oper := kO c24_12
noncomputable def o24_3_0 : Oper := opN r24_3 0
theorem x24_12 : execA E C (fg 24) B 26 E0 N c24_12 s = regX (runA E C B 26 r24_3 r24_3.toList s) (fun s => gcM E0 [10] (forget s.1 [10], s.2)) := x_reg (ops := r24_3) (by rfl) (by rfl) s
theorem r24_3_l : r24_3.toList = [o24_3_0] := nrfl rfl
theorem s24_3_0 : stepA E C B 26 r24_3 o24_3_0 (φ, H) = some (fput φ 5 (.int .i64 0), H) := nrfl rfl
noncomputable def c24_13 : Code := kR c24_11
noncomputable def c24_14 : Code := kB c24_13
noncomputable def c24_15 : Code := kB c24_14
noncomputable def c24_16 : Code := kL c24_15
noncomputable def c24_17 : Code := kL c24_16
noncomputable def r24_4 : Array Oper := kO c24_17
noncomputable def o24_4_0 : Oper := opN r24_4 0
noncomputable def o24_4_1 : Oper := opN r24_4 1
noncomputable def o24_4_2 : Oper := opN r24_4 2
noncomputable def o24_4_3 : Oper := opN r24_4 3
theorem x24_17 : execA E C (fg 24) B 26 E0 N c24_17 s = regX (runA E C B 26 r24_4 r24_4.toList s) (fun s => gcM E0 [11, 12, 13] (forget s.1 [11, 12, 13], s.2)) := x_reg (ops := r24_4) (by rfl) (by rfl) s
theorem r24_4_l : r24_4.toList = [o24_4_0, o24_4_1, o24_4_2, o24_4_3] := nrfl rfl
theorem s24_4_0 : stepA E C B 26 r24_4 o24_4_0 (φ, H) = some (fput φ 11 (fget φ 5), H) := nrfl rfl
theorem s24_4_1 : stepA E C B 26 r24_4 o24_4_1 (φ, H) = some (fput φ 12 (fget φ 0), H) := nrfl rfl
theorem s24_4_2 : stepA E C B 26 r24_4 o24_4_2 (φ, H) = stp (some 13) φ H (aBuiltin E.T (B + 13) .len #[22] [(fget φ 12)]) := nrfl rfl
theorem s24_4_3 : stepA E C B 26 r24_4 o24_4_3 (φ, H) = stp (some 14) φ H (just (aBin E.T .lss 3 (fget φ 11) (fget φ 13))) := nrfl rfl
noncomputable def c24_18 : Code := kR c24_16
noncomputable def c24_19 : Code := kT c24_18
theorem x24_19 : execA E C (fg 24) B 26 E0 N c24_19 s = some (.normal, s) := x_skip (by rfl) s
noncomputable def c24_20 : Code := kE c24_18
theorem x24_20 : execA E C (fg 24) B 26 E0 N c24_20 s = some (.exit 0, s) := x_exit (by rfl) s
theorem x24_18 : execA E C (fg 24) B 26 E0 N c24_18 (φ, H) = condX (fget φ 14) (execA E C (fg 24) B 26 E0 N c24_19 (φ, H)) (execA E C (fg 24) B 26 E0 N c24_20 (φ, H)) := x_cond (by rfl) _
theorem x24_16 : execA E C (fg 24) B 26 E0 N c24_16 s = seqX (execA E C (fg 24) B 26 E0 N c24_17 s) (execA E C (fg 24) B 26 E0 N c24_18) := x_seq (by rfl) s
noncomputable def c24_21 : Code := kR c24_15
noncomputable def c24_22 : Code := kL c24_21
noncomputable def c24_23 : Code := kB c24_22
noncomputable def c24_24 : Code := kL c24_23
noncomputable def r24_6 : Array Oper := kO c24_24
noncomputable def o24_6_0 : Oper := opN r24_6 0
noncomputable def o24_6_1 : Oper := opN r24_6 1
noncomputable def o24_6_2 : Oper := opN r24_6 2
noncomputable def o24_6_3 : Oper := opN r24_6 3
noncomputable def o24_6_4 : Oper := opN r24_6 4
noncomputable def o24_6_5 : Oper := opN r24_6 5
noncomputable def o24_6_6 : Oper := opN r24_6 6
noncomputable def o24_6_7 : Oper := opN r24_6 7
noncomputable def o24_6_8 : Oper := opN r24_6 8
theorem x24_24 : execA E C (fg 24) B 26 E0 N c24_24 s = regX (drawA E C B 26 r24_6 s) (fun s => gcM E0 [14, 17, 18, 19, 20, 21, 22, 23, 24] (forget s.1 [14, 17, 18, 19, 20, 21, 22, 23, 24], s.2)) := x_draw (ops := r24_6) (by rfl) (by rfl) s
theorem r24_6_l : r24_6.toList = [o24_6_0, o24_6_1, o24_6_2, o24_6_3, o24_6_4, o24_6_5, o24_6_6, o24_6_7, o24_6_8] := nrfl rfl
theorem r24_6_st : statOk r24_6 = true := by kernel_rfl
theorem r24_6_dr : drawA E C B 26 r24_6 s = if neat 26 s = true then drX r24_6 (runT E C B 26 r24_6 r24_6.toList 0 s) else none := draw_eq r24_6_st s
theorem r24_6_an (l : List (Nat × Tr)) : dynOk r24_6 l = (!writing l || dynPairs [[], [], [0, 1], [0, 1, 2], [], [], [4, 5], [4, 5, 6], [0, 1, 2, 3, 4, 5, 6, 7]] (touching l)) := dynOk_eq (by kernel_rfl) l
theorem s24_6_0 : stepT E C B 26 r24_6 o24_6_0 (φ, H) = some ((fput φ 17 (fget φ 0), H), ⟨false, [], []⟩) := stT_go rfl (goT_mv rfl rfl)
theorem s24_6_1 : stepT E C B 26 r24_6 o24_6_1 (φ, H) = some ((fput φ 18 (fget φ 5), H), ⟨false, [], []⟩) := stT_go rfl (goT_mv rfl rfl)
theorem s24_6_2 : stepT E C B 26 r24_6 o24_6_2 (φ, H) = stpT (some 19) φ H (just (aIndexAddr E.T 22 (fget φ 17) (fget φ 18))) := stT_go rfl (goT_R rfl rfl)
theorem s24_6_3 : stepT E C B 26 r24_6 o24_6_3 (φ, H) = stpT (some 20) φ H (just (aLoad E.T 3 (fget φ 19))) := stT_go rfl (goT_R rfl rfl)
theorem s24_6_4 : stepT E C B 26 r24_6 o24_6_4 (φ, H) = some ((fput φ 21 (fget φ 1), H), ⟨false, [], []⟩) := stT_go rfl (goT_mv rfl rfl)
theorem s24_6_5 : stepT E C B 26 r24_6 o24_6_5 (φ, H) = some ((fput φ 22 (fget φ 5), H), ⟨false, [], []⟩) := stT_go rfl (goT_mv rfl rfl)
theorem s24_6_6 : stepT E C B 26 r24_6 o24_6_6 (φ, H) = stpT (some 23) φ H (just (aIndexAddr E.T 22 (fget φ 21) (fget φ 22))) := stT_go rfl (goT_R rfl rfl)
theorem s24_6_7 : stepT E C B 26 r24_6 o24_6_7 (φ, H) = stpT (some 24) φ H (just (aLoad E.T 3 (fget φ 23))) := stT_go rfl (goT_R rfl rfl)
theorem s24_6_8 : stepT E C B 26 r24_6 o24_6_8 (φ, H) = stpT (some 25) φ H (just (aBin E.T .neq 3 (fget φ 20) (fget φ 24))) := stT_go rfl (goT_R rfl rfl)
noncomputable def c24_25 : Code := kR c24_23
noncomputable def c24_26 : Code := kT c24_25
noncomputable def c24_27 : Code := kL c24_26
noncomputable def r24_7 : Array Oper := kO c24_27
noncomputable def o24_7_0 : Oper := opN r24_7 0
theorem x24_27 : execA E C (fg 24) B 26 E0 N c24_27 s = regX (runA E C B 26 r24_7 r24_7.toList s) (fun s => gcM E0 [0, 1, 5, 25] (forget s.1 [0, 1, 5, 25], s.2)) := x_reg (ops := r24_7) (by rfl) (by rfl) s
theorem r24_7_l : r24_7.toList = [o24_7_0] := nrfl rfl
theorem s24_7_0 : stepA E C B 26 r24_7 o24_7_0 (φ, H) = some (fput φ 4 (.bool false), H) := nrfl rfl
noncomputable def c24_28 : Code := kR c24_26
theorem x24_28 : execA E C (fg 24) B 26 E0 N c24_28 s = some (.ret, s) := x_ret (by rfl) s
theorem x24_26 : execA E C (fg 24) B 26 E0 N c24_26 s = seqX (execA E C (fg 24) B 26 E0 N c24_27 s) (execA E C (fg 24) B 26 E0 N c24_28) := x_seq (by rfl) s
noncomputable def c24_29 : Code := kE c24_25
theorem x24_29 : execA E C (fg 24) B 26 E0 N c24_29 s = some (.normal, s) := x_skip (by rfl) s
theorem x24_25 : execA E C (fg 24) B 26 E0 N c24_25 (φ, H) = condX (fget φ 25) (execA E C (fg 24) B 26 E0 N c24_26 (φ, H)) (execA E C (fg 24) B 26 E0 N c24_29 (φ, H)) := x_cond (by rfl) _
theorem x24_23 : execA E C (fg 24) B 26 E0 N c24_23 s = seqX (execA E C (fg 24) B 26 E0 N c24_24 s) (execA E C (fg 24) B 26 E0 N c24_25) := x_seq (by rfl) s
theorem x24_22 : execA E C (fg 24) B 26 E0 N c24_22 s = blockX 1 (fun s => (forget s.1 [25], s.2)) (execA E C (fg 24) B 26 E0 N c24_23 s) := x_block (by rfl) (by rfl) s
noncomputable def c24_30 : Code := kR c24_21
noncomputable def r24_5 : Array Oper := kO c24_30
noncomputable def o24_5_0 : Oper := opN r24_5 0
noncomputable def o24_5_1 : Oper := opN r24_5 1
noncomputable def o24_5_2 : Oper := opN r24_5 2
theorem x24_30 : execA E C (fg 24) B 26 E0 N c24_30 s = regX (runA E C B 26 r24_5 r24_5.toList s) (fun s => gcM E0 [15, 16] (forget s.1 [15, 16], s.2)) := x_reg (ops := r24_5) (by rfl) (by rfl) s
theorem r24_5_l : r24_5.toList = [o24_5_0, o24_5_1, o24_5_2] := nrfl rfl
theorem s24_5_0 : stepA E C B 26 r24_5 o24_5_0 (φ, H) = some (fput φ 15 (fget φ 5), H) := nrfl rfl
theorem s24_5_1 : stepA E C B 26 r24_5 o24_5_1 (φ, H) = stp (some 16) φ H (just (aBin E.T .add 3 (fget φ 15) (.int .i64 1))) := nrfl rfl
theorem s24_5_2 : stepA E C B 26 r24_5 o24_5_2 (φ, H) = some (fput φ 5 (fget φ 16), H) := nrfl rfl
theorem x24_21 : execA E C (fg 24) B 26 E0 N c24_21 s = seqX (execA E C (fg 24) B 26 E0 N c24_22 s) (execA E C (fg 24) B 26 E0 N c24_30) := x_seq (by rfl) s
theorem x24_15 : execA E C (fg 24) B 26 E0 N c24_15 s = seqX (execA E C (fg 24) B 26 E0 N c24_16 s) (execA E C (fg 24) B 26 E0 N c24_21) := x_seq (by rfl) s
theorem x24_14 : execA E C (fg 24) B 26 E0 N c24_14 s = iterA (execA E C (fg 24) B 26 E0 N c24_15) (headA E0) N s := x_loop (by rfl) s
theorem x24_13 : execA E C (fg 24) B 26 E0 N c24_13 s = blockX 0 (fun s => (forget s.1 [0, 1, 5, 14], s.2)) (execA E C (fg 24) B 26 E0 N c24_14 s) := x_block (by rfl) (by rfl) s
theorem x24_11 : execA E C (fg 24) B 26 E0 N c24_11 s = seqX (execA E C (fg 24) B 26 E0 N c24_12 s) (execA E C (fg 24) B 26 E0 N c24_13) := x_seq (by rfl) s
noncomputable def c24_31 : Code := kR c24_10
noncomputable def c24_32 : Code := kL c24_31
noncomputable def r24_8 : Array Oper := kO c24_32
noncomputable def o24_8_0 : Oper := opN r24_8 0
theorem x24_32 : execA E C (fg 24) B 26 E0 N c24_32 s = regX (runA E C B 26 r24_8 r24_8.toList s) (fun s => gcM E0 [] (forget s.1 [], s.2)) := x_reg (ops := r24_8) (by rfl) (by rfl) s
theorem r24_8_l : r24_8.toList = [o24_8_0] := nrfl rfl
theorem s24_8_0 : stepA E C B 26 r24_8 o24_8_0 (φ, H) = some (fput φ 4 (.bool true), H) := nrfl rfl
noncomputable def c24_33 : Code := kR c24_31
theorem x24_33 : execA E C (fg 24) B 26 E0 N c24_33 s = some (.ret, s) := x_ret (by rfl) s
theorem x24_31 : execA E C (fg 24) B 26 E0 N c24_31 s = seqX (execA E C (fg 24) B 26 E0 N c24_32 s) (execA E C (fg 24) B 26 E0 N c24_33) := x_seq (by rfl) s
theorem x24_10 : execA E C (fg 24) B 26 E0 N c24_10 s = seqX (execA E C (fg 24) B 26 E0 N c24_11 s) (execA E C (fg 24) B 26 E0 N c24_31) := x_seq (by rfl) s
theorem x24_2 : execA E C (fg 24) B 26 E0 N c24_2 s = seqX (execA E C (fg 24) B 26 E0 N c24_3 s) (execA E C (fg 24) B 26 E0 N c24_10) := x_seq (by rfl) s
theorem x24_0 : execA E C (fg 24) B 26 E0 N c24_0 s = seqX (execA E C (fg 24) B 26 E0 N c24_1 s) (execA E C (fg 24) B 26 E0 N c24_2) := x_seq (by rfl) s
theorem fi_24 : fInfo E 24 = some ⟨26, #[.tmp 4], c24_0⟩ := nrfl rfl
theorem b_24 (args : List AV) : bodyA E C fg N 24 args H B = bodyX E [.tmp 4] (execA E C (fg 24) B 26 H N c24_0 (frame0 args 0 [], H)) := bodyA_eq fi_24 args H
abbrev F_24 := And.intro (And.intro (And.intro (And.intro (And.intro (And.intro @x24_1 @r24_0_l) (And.intro @s24_0_0 @x24_4)) (And.intro (And.intro @r24_1_l @s24_1_0) (And.intro @s24_1_1 (And.intro @s24_1_2 @s24_1_3)))) (And.intro (And.intro (And.intro @s24_1_4 @x24_7) (And.intro @r24_2_l @s24_2_0)) (And.intro (And.intro @x24_8 @x24_6) (And.intro @x24_9 (And.intro @x24_5 @x24_3))))) (And.intro (And.intro (And.intro (And.intro @x24_12 @r24_3_l) (And.intro @s24_3_0 @x24_17)) (And.intro (And.intro @r24_4_l @s24_4_0) (And.intro @s24_4_1 (And.intro @s24_4_2 @s24_4_3)))) (And.intro (And.intro (And.intro @x24_19 @x24_20) (And.intro @x24_18 @x24_16)) (And.intro (And.intro @x24_24 @r24_6_l) (And.intro @r24_6_dr (And.intro @r24_6_an @s24_6_0)))))) (And.intro (And.intro (And.intro (And.intro (And.intro @s24_6_1 @s24_6_2) (And.intro @s24_6_3 @s24_6_4)) (And.intro (And.intro @s24_6_5 @s24_6_6) (And.intro @s24_6_7 (And.intro @s24_6_8 @x24_27)))) (And.intro (And.intro (And.intro @r24_7_l @s24_7_0) (And.intro @x24_28 @x24_26)) (And.intro (And.intro @x24_29 @x24_25) (And.intro @x24_23 (And.intro @x24_22 @x24_30))))) (And.intro (And.intro (And.intro (And.intro @r24_5_l @s24_5_0) (And.intro @s24_5_1 @s24_5_2)) (And.intro (And.intro @x24_21 @x24_15) (And.intro @x24_14 (And.intro @x24_13 @x24_11)))) (And.intro (And.intro (And.intro @x24_32 @r24_8_l) (And.intro @s24_8_0 @x24_33)) (And.intro (And.intro @x24_31 @x24_10) (And.intro @x24_2 (And.intro @x24_0 @b_24))))))
end Go.AM.Ytfmnoohhhokicaa
end

section
namespace Go.AM.Ytfmnoohhhokicaa
open Go Go.AM Go.AM.Rub
set_option maxRecDepth 100000
set_option maxHeartbeats 4000000
theorem iv_al {l : List Int} {a : AV} (h : IV l a) : aLen E.T 22 a = .pure (.int .i64 (l.length : Int)) := by
  rcases h with ⟨rfl, rfl⟩ | ⟨ex, rfl⟩ <;> (simp only [aLen, T_22] <;> rfl)
/-- The first place where two lists differ. -/
def dfE (l m : List Int) (i : Nat) : Int := if rowF l i = rowF m i then 0 else 1
theorem list_ext {l m : List Int} (hl : l.length = m.length) : fe (dfE l m) 0 l.length = 0 ↔ l = m := by
  rw [fe_zero]
  constructor
  · intro h
    refine row_ext hl fun i hi => ?_
    have := h i (by omega) (by omega)
    unfold dfE at this
    split at this
    · assumption
    · exact absurd this (by decide)
  · rintro rfl i _ _
    exact if_pos rfl
abbrev saS (a b : AV) (i : Nat) : St := ([(5, .int .i64 i), (1, b), (0, a)], [])
theorem same_run {C : Callee} {l m : List Int} {a b : AV} (ha : IV l a) (hb : IV m b) (hl : l.length ≤ 1000) : rsOf (bodyA E C fg 1000000 24 [a, b] [] 0) = some (.bool (decide (l = m))) := by
  have la := iv_al ha
  have lb := iv_al hb
  by_cases hlm : l.length = m.length
  · have g1 : ¬ (l.length : Int) ≠ m.length := by omega
    have g2 : ((l.length : Int) != m.length) = false := by rw [bne_eq_false_iff_eq]; omega
    have g3 : (l.length : Int) = m.length := by omega
    by_cases h0 : l.length = 0
    · have e1 : l = [] := List.length_eq_zero_iff.1 h0
      have e2 : m = [] := List.length_eq_zero_iff.1 (by omega)
      subst e1 e2
      rw [decide_eq_true rfl]
      have hloop := loopM0 (f := (execA E C (fg 24) 0 26 [] 1000000 c24_15)) (E0 := []) (s0 := saS a b 0) (by rcases ha with ⟨_, rfl⟩ | ⟨_, rfl⟩ <;> rcases hb with ⟨_, rfl⟩ | ⟨_, rfl⟩ <;> rfl) (e := .exit 0) (se := ([(14, .bool false), (5, .int .i64 0), (1, b), (0, a)], []))
        (by simp (disch := omega) only [ZF, stp, just, Rd.bind, Rd.run, Rd.opt, upds, aBuiltin, aBin, aInt, Nat.reduceBEq, Nat.reduceEqDiff, Nat.reduceLeDiff, ↓reduceIte, reduceCtorEq, F_24, la, saS, cl0]) (by simp)
      simp only [saS, cl0] at hloop
      simp (disch := omega) only [ZF, frame0, stp, just, Rd.bind, Rd.run, Rd.opt, upds, resA, resL, aBuiltin, aBin, aInt, Nat.reduceBEq, Nat.reduceEqDiff, Nat.reduceLeDiff, ↓reduceIte, reduceCtorEq, F_24, la, lb, hloop]
    · obtain ⟨ea, rfl⟩ := iv_ne ha (by omega)
      obtain ⟨eb, rfl⟩ := iv_ne hb (by omega)
      have hlen := ics_length l
      have hlen2 := ics_length m
      have hloop := loopE (f := (execA E C (fg 24) 0 26 [] 1000000 c24_15)) (e := dfE l m) (R := fun _ H => ([(4, .bool false)], H)) (saS (.imm (ics l) l.length ea) (.imm (ics m) m.length eb)) l.length (E0 := []) rfl (by omega) (x := .exit 0) (se := ([(14, .bool false), (5, .int .i64 l.length), (1, .imm (ics m) m.length eb), (0, .imm (ics l) l.length ea)], [])) (by simp)
        (fun i hi _ he => by
          have a1 := icr_at (l := l) (k := i) hi
          have a2 := icr_at (l := m) (k := i) (by omega)
          have k1 : (i : Int) < l.length := by omega
          have k2 : (i : Int) < m.length := by omega
          have hq : rowF l i = rowF m i := by
            unfold dfE at he
            split at he
            · assumption
            · exact absurd he (by decide)
          rw [hq] at a1
          simp (disch := omega) only [ZF, stp, just, Rd.bind, Rd.run, Rd.opt, upds, tsz, rdCells, aLoad, aIndexAddr, aNum, aLen, aBuiltin, aBin, aInt, Nat.reduceAdd, Nat.reduceLT, Nat.reduceBEq, Nat.reduceEqDiff, Nat.reduceLeDiff, ↓reduceIte, reduceCtorEq, stpT, Rd.foot, writing, touching, Tr.empty, dynPairs, ZT, F_24, saS, k1, k2, a1, a2, hlen, hlen2, wrp_succ (show i < 1000000 by omega)]
          exact ⟨_, rfl, rfl⟩)
        (fun i hi _ he => by
          have a1 := icr_at (l := l) (k := i) hi
          have a2 := icr_at (l := m) (k := i) (by omega)
          have k1 : (i : Int) < l.length := by omega
          have k2 : (i : Int) < m.length := by omega
          have hq : ¬ rowF l i = rowF m i := fun h => he (if_pos h)
          have hq2 : (rowF l i != rowF m i) = true := by rw [bne_iff_ne]; exact hq
          simp (disch := omega) only [ZF, stp, just, Rd.bind, Rd.run, Rd.opt, upds, tsz, rdCells, aLoad, aIndexAddr, aNum, aLen, aBuiltin, aBin, aInt, Nat.reduceAdd, Nat.reduceLT, Nat.reduceBEq, Nat.reduceEqDiff, Nat.reduceLeDiff, ↓reduceIte, reduceCtorEq, stpT, Rd.foot, writing, touching, Tr.empty, dynPairs, ZT, F_24, saS, k1, k2, a1, a2, hlen, hlen2, hq2]
          exact ⟨_, rfl⟩)
        (fun _ => by simp (disch := omega) only [ZF, stp, just, Rd.bind, Rd.run, Rd.opt, upds, aLen, aBuiltin, aBin, aInt, Nat.reduceBEq, Nat.reduceEqDiff, Nat.reduceLeDiff, ↓reduceIte, reduceCtorEq, ZT, F_24, saS])
      simp only [saS, cl0] at hloop
      rcases hloop with ⟨hz, hloop⟩ | ⟨hz, H, hloop⟩
      · rw [decide_eq_true ((list_ext hlm).1 hz)]
        simp (disch := omega) only [ZF, frame0, stp, just, Rd.bind, Rd.run, Rd.opt, upds, resA, resL, aLen, aBuiltin, aBin, aInt, Nat.reduceBEq, Nat.reduceEqDiff, Nat.reduceLeDiff, ↓reduceIte, reduceCtorEq, ZT, F_24, hloop, g3]
      · rw [decide_eq_false fun e => hz ((list_ext hlm).2 e)]
        simp (disch := omega) only [ZF, frame0, stp, just, Rd.bind, Rd.run, Rd.opt, upds, resA, resL, aLen, aBuiltin, aBin, aInt, Nat.reduceBEq, Nat.reduceEqDiff, Nat.reduceLeDiff, ↓reduceIte, reduceCtorEq, ZT, F_24, hloop, g3]
  · rw [decide_eq_false fun e => hlm (by rw [e])]
    have g1 : (l.length : Int) ≠ m.length := by omega
    have g2 : ((l.length : Int) != m.length) = true := by rw [bne_iff_ne]; omega
    have g3 : ¬ (l.length : Int) = m.length := by omega
    simp (disch := omega) only [ZF, frame0, stp, just, Rd.bind, Rd.run, Rd.opt, upds, resA, resL, aBuiltin, aBin, aInt, Nat.reduceBEq, Nat.reduceEqDiff, Nat.reduceLeDiff, ↓reduceIte, reduceCtorEq, F_24, la, lb, g2]
theorem same_call {d : Nat} {site : Nat → Nat} {seen : List Nat} {l m : List Int} {a b : AV} (ha : IV l a) (hb : IV m b) (hl : l.length ≤ 1000) : aBack site true seen (thaw (kF (d + 1)) 24 [a, b] [] 0) = .pure (.bool (decide (l = m)), []) :=
  aBack_bool (kF_ex rfl (same_run ha hb hl))
end Go.AM.Ytfmnoohhhokicaa
end

section
namespace Go.AM.Ytfmnoohhhokicaa
open Go Go.AM Go.AM.Rub
set_option maxRecDepth 100000
set_option maxHeartbeats 8000000
theorem Rises_rl {d : Nat} {l : List Int} {a : AV} (ha : IV l a) (hl : l.length ≤ 1000) : RL (kF (d + 2)) 18 [a] (chkR l) (riL l) := by
  refine rl_of (n := l.length + 1) ?_ (riP_len _ _)
  rw [kF_no rfl]; exact Rises_run ha hl
theorem rRises_rl {d : Nat} {l : List Int} {a : AV} (ha : IV l a) (hl : l.length ≤ 1000) : RL (kF (d + 3)) 19 [a] (chkR l) (riL l) := by
  refine rl_of (n := l.length + 1) ?_ (riP_len _ _)
  rw [kF_no rfl]; exact rRises_run ha hl
theorem Row_rl {d : Nat} {l : List Int} {a : AV} (ha : IV l a) (hl : l.length ≤ 1000) : RL (kF (d + 1)) 20 [a] (rowE l) (rwP l (l.length - 1)) := by
  refine rl_of (n := l.length - 1) ?_ (rwP_len _ _)
  rw [kF_no rfl]; exact Row_run ha hl
theorem rRow_rl {d : Nat} {l : List Int} {a : AV} (ha : IV l a) (hl : l.length ≤ 1000) : RL (kF (d + 2)) 21 [a] (rowE l) (rwP l (l.length - 1)) := by
  refine rl_of (n := l.length - 1) ?_ (rwP_len _ _)
  rw [kF_no rfl]; exact rRow_run ha hl
theorem Rub_rl {d : Nat} {l : List Int} {a : AV} {i j : Int} (ha : IV l a) (hl : l.length ≤ 1000) : RL (kF (d + 3)) 22 [a, .int .i64 i, .int .i64 j] (rubE l i j) (rubL l i.toNat j.toNat) := by
  refine rl_of (n := l.length) ?_ (mvL_length _ _ _)
  rw [kF_no rfl]; exact Rub_run ha hl
theorem rRub_rl {d : Nat} {l : List Int} {a : AV} {i j : Int} (ha : IV l a) (hl : l.length ≤ 1000) : RL (kF (d + 3)) 23 [a, .int .i64 i, .int .i64 j] (rubE l i j) (rubL l i.toNat j.toNat) := by
  refine rl_of (n := l.length) ?_ (mvL_length _ _ _)
  rw [kF_no rfl]; exact rRub_run ha hl
/-- What 'same' tells of two lists that are one. -/
structure SaC (C : Callee) : Prop where
  nn : ∀ (site : Nat → Nat) seen, aBack site true seen (thaw C 24 [.nilsl, .nilsl] [] 0) = .pure (.bool true, [])
  ll : ∀ (site : Nat → Nat) seen l n x y, l.length = n → n ≤ 1000 → aBack site true seen (thaw C 24 [.imm (ics l) n x, .imm (ics l) n y] [] 0) = .pure (.bool true, [])
theorem saC (d : Nat) : SaC (kF (d + 1)) := by
  refine ⟨fun site seen => ?_, fun site seen l n x y h hl => ?_⟩
  · have := same_call (d := d) (site := site) (seen := seen) (l := []) (m := []) (.inl ⟨rfl, rfl⟩) (.inl ⟨rfl, rfl⟩) (by simp)
    rw [decide_eq_true rfl] at this; exact this
  · subst h
    have := same_call (d := d) (site := site) (seen := seen) (iv_imm l x) (iv_imm l y) hl
    rw [decide_eq_true rfl] at this; exact this
theorem rubRows_law {row rises : List Int} {a b : AV} (ha : IV row a) (hb : IV rises b) (i j : Int) (hw : ∃ H0, kF 40 17 [] [] 0 = some (.bool true, H0)) :
    rsOf (bodyA E (kF 40) fg 1000000 3 [a, b, .int .i64 i, .int .i64 j] [] 0) = some (.bool true) := by
  have hwk := fun (site : Nat → Nat) seen => aBack_bool (site := site) (seen := seen) hw
  have la := iv_al ha
  have lb := iv_al hb
  have sa := iv_snap ha
  have sb := iv_snap hb
  by_cases c1 : row.length > 40
  · have g1 : (row.length : Int) > 40 := by omega
    generalize kF 40 = C at *
    simp (disch := omega) only [ZF, ↓gd, frame0, stp, opPick, just, Rd.bind, Rd.run, Rd.opt, upds, resA, resL, aBuiltin, aBin, aInt, Nat.reduceAdd, Nat.reduceBEq, Nat.reduceEqDiff, Nat.reduceLeDiff, ↓reduceIte, reduceCtorEq, aCall, snaps, F_3, la, hwk, g1]
  · have g1 : ¬ (row.length : Int) > 40 := by omega
    by_cases c2 : rises.length > 40
    · have g2 : (rises.length : Int) > 40 := by omega
      generalize kF 40 = C at *
      simp (disch := omega) only [ZF, ↓gd, frame0, stp, opPick, just, Rd.bind, Rd.run, Rd.opt, upds, resA, resL, aBuiltin, aBin, aInt, Nat.reduceAdd, Nat.reduceBEq, Nat.reduceEqDiff, Nat.reduceLeDiff, ↓reduceIte, reduceCtorEq, aCall, snaps, F_3, la, lb, hwk, g1, g2]
    · have g2 : ¬ (rises.length : Int) > 40 := by omega
      have r1 := Rises_rl (d := 38) ha (by omega)
      have r2 := rRises_rl (d := 37) ha (by omega)
      have r3 := Row_rl (d := 39) hb (by omega)
      have r4 := rRow_rl (d := 38) hb (by omega)
      have r5 := Rub_rl (d := 37) (i := i) (j := j) ha (by omega)
      have r6 := rRub_rl (d := 37) (i := i) (j := j) ha (by omega)
      have k1 := fun (site : Nat → Nat) seen => check_call (d := 39) (site := site) (seen := seen) ha (by omega)
      have k2 := fun (site : Nat → Nat) seen => rcheck_call (d := 38) (site := site) (seen := seen) ha (by omega)
      have hs := saC 39
      have hnn := hs.nn
      have n1 : (riL row).length ≤ 1000 := by show (riP row row.length).length ≤ 1000; rw [riP_len]; omega
      have n2 : (rwP rises (rises.length - 1)).length ≤ 1000 := by rw [rwP_len]; omega
      have n3 : (rubL row i.toNat j.toNat).length ≤ 1000 := by show (mvL row _ _).length ≤ 1000; rw [mvL_length]; omega
      have q1 := fun site seen x y => hs.ll site seen (riL row) _ x y rfl n1
      have q2 := fun site seen x y => hs.ll site seen (rwP rises (rises.length - 1)) _ x y rfl n2
      have q3 := fun site seen x y => hs.ll site seen (rubL row i.toNat j.toNat) _ x y rfl n3
      generalize hk : kF 40 = C at *
      generalize riL row = L1 at *
      generalize rwP rises (rises.length - 1) = L2 at *
      generalize rubL row i.toNat j.toNat = L3 at *
      generalize chkR row = z1 at *
      generalize rowE rises = z2 at *
      generalize rubE row i j = z3 at *
      have l1 := ics_length L1
      have l2 := ics_length L2
      have l3 := ics_length L3
      have t1 := ics_takeA L1
      have t2 := ics_takeA L2
      have t3 := ics_takeA L3
      rcases r1 with ⟨e1, r1⟩ | ⟨e1, r1⟩ <;> rcases r2 with ⟨f1, r2⟩ | ⟨f1, r2⟩ <;> first | exact absurd e1 f1 | exact absurd f1 e1 | skip
      all_goals rcases r3 with ⟨e2, r3⟩ | ⟨e2, r3⟩ <;> rcases r4 with ⟨f2, r4⟩ | ⟨f2, r4⟩ <;> first | exact absurd e2 f2 | exact absurd f2 e2 | skip
      all_goals rcases r5 with ⟨e3, r5⟩ | ⟨e3, r5⟩ <;> rcases r6 with ⟨f3, r6⟩ | ⟨f3, r6⟩ <;> first | exact absurd e3 f3 | exact absurd f3 e3 | skip
      all_goals simp (disch := omega) only [ZF, ↓gd, frame0, stp, opPick, justO, just, Rd.bind, Rd.run, Rd.opt, upds, opExtract, resA, resL, aBuiltin, aBin, aInt, Nat.reduceAdd, Nat.reduceBEq, Nat.reduceEqDiff, Nat.reduceLeDiff, ↓reduceIte, reduceCtorEq, aCall, snaps, F_3, la, lb, sa 198, sb 198, r1, r2, r3, r4, r5, r6, k1, k2, hnn, q1, q2, q3, l1, l2, l3, t1, t2, t3, hwk, g1, g2]
end Go.AM.Ytfmnoohhhokicaa
end

section
namespace Go.AM.Ytfmnoohhhokicaa
open Go Go.AM
set_option maxRecDepth 1000000
theorem works_runF : isTrue (kF 40 17 [] [] 0) = true := by kernel_rfl
theorem soundK (d : Nat) : CS Proofs.Try.prog E (kF d) := frC_ok (callF_sound envOk mixed fr fg 1000000 d)
theorem soundB : CS Proofs.Try.prog E (bodyA E (kF 40) fg 1000000) := body_ok envOk mixed fg 1000000 (soundK 40)
end Go.AM.Ytfmnoohhhokicaa
end

section
namespace Go.AM.Ytfmnoohhhokicaa
open Go Go.AM Go.RowKit Go.Proofs Go.Proofs.Ytfmnoohhhokicaa Go.ChangeShapes Go.WideShapes Go.ChangeAt Go.AM.Rub
set_option maxRecDepth 1000000
theorem laidOut : laidOutB Try.prog = true := by kernel_rfl
theorem readable_0 : Try.prog.readableRec 22 = true := by kernel_rfl
theorem types_lt_0 : 22 < Try.prog.types.size := of_decide_eq_true (by kernel_rfl)
theorem readable_1 : Try.prog.readableRec 3 = true := by kernel_rfl
theorem types_lt_1 : 3 < Try.prog.types.size := of_decide_eq_true (by kernel_rfl)
theorem rubRows_walk {W : World} {a0 : AV} {l0 : List Int} {v0 : Value} {a1 : AV} {l1 : List Int} {v1 : Value} {x2 : Int} {x3 : Int} (h0 : IV l0 a0) (r0 : (start (fun k => k < W.heap.size) W).R a0 v0) (h1 : IV l1 a1) (r1 : (start (fun k => k < W.heap.size) W).R a1 v1) :
    Calls Try.prog 3 #[v0, v1, .int .i64 x2, .int .i64 x3] W fun e w' => e = .returned (.bool true) ∧ Below W.heap.size W w' := by
  obtain ⟨H0, hw⟩ := isTrue_ok works_runF
  obtain ⟨H1, hr⟩ := rs_ex (rubRows_law h0 h1 x2 x3 ⟨H0, hw⟩)
  refine law_run soundB hr (fun k h => h) (vs := [v0, v1, .int .i64 x2, .int .i64 x3]) ?_
  simp only [Gh.Rs, VRs]
  exact ⟨v0, _, rfl, r0, v1, _, rfl, r1, _, _, rfl, by simp only [VR], _, _, rfl, by simp only [VR], rfl⟩
theorem rubRows_lifted (os : Os) (started : os.Started) (H : Type) (enc : TypeId × Value → H) :
    ReturnsInHanded {} Try.checked os 3 .any (Rows.rubRowsSpec.pre6 enc Try.prog Try.f3 Rows.rubRowsRow.domain false)
      (Rows.rubRowsSpec.post enc Try.prog Try.f3 false true false false) := by
  refine returnsInHanded_of_change own started (by kernel_rfl) Try.func3 (ChangeSpec.witness6 (enc := enc) (C := Try.checked) false ⟨#[], #[.slice none 0 0, .slice none 0 0, .int .i64 0, .int .i64 0], []⟩ 8 (by kernel_rfl) (by kernel_rfl) (by kernel_rfl) (by kernel_rfl)) ?_
  intro W base args ds gs before hval0 hW _ _
  have hW' := hW
  obtain ⟨p, q, hA0, hV, rfl, hfz, hnd⟩ := hW
  have hA : DataW.TrodAll enc Try.prog W 0 (fun _ => true) true Try.f3.params.toList args.toList ds p := hA0
  rw [Try.params3] at hA
  obtain ⟨w0, vs0, d0, ds0, p0, q0, ha, rfl, rfl, t0, hr0⟩ := trodAll_cons hA
  obtain ⟨w1, vs1, d1, ds1, p1, q1, rfl, rfl, rfl, t1, hr1⟩ := trodAll_cons hr0
  obtain ⟨w2, vs2, d2, ds2, p2, q2, rfl, rfl, rfl, t2, hr2⟩ := trodAll_cons hr1
  obtain ⟨w3, vs3, d3, ds3, p3, q3, rfl, rfl, rfl, t3, hr3⟩ := trodAll_cons hr2
  obtain ⟨rfl, rfl, rfl⟩ := trodAll_nil hr3
  obtain rfl : args = #[w0, w1, w2, w3] := by cases args; simp_all
  obtain ⟨rfl, rfl⟩ := trodVars_none hV
  have hval : ∀ (j : Nat) t v, (#[22, 22, 3, 3] : Array TypeId)[j]? = some t → (#[w0, w1, w2, w3] : Array Value)[j]? = some v → Value.okWide Try.prog W .any base t v := by
    intro j t v; have := hval0 j t v; rw [Try.params3] at this; exact this
  obtain ⟨a0, l0, h0, r0⟩ := hand_is (hval 0 22 w0 rfl rfl) t0
  obtain ⟨a1, l1, h1, r1⟩ := hand_is (hval 1 22 w1 rfl rfl) t1
  obtain ⟨x2, rfl⟩ := hand_int Try.underlying3 (hval 2 3 w2 rfl rfl)
  obtain ⟨x3, rfl⟩ := hand_int Try.underlying3 (hval 3 3 w3 rfl rfl)
  refine (rubRows_walk h0 r0 h1 r1).mono fun e W' ⟨he, bel⟩ => ?_
  subst he
  exact ⟨_, rfl, _, _, _, [], _, [], hW', trodAll_mk1 (shut_bool Try.underlying4 _),
    trodAll_mk4 (bel.trod' laidOut readable_0 types_lt_0 t0) (bel.trod' laidOut readable_0 types_lt_0 t1) (bel.trod' laidOut readable_1 types_lt_1 t2) (bel.trod' laidOut readable_1 types_lt_1 t3), rfl, bel.frame _, fun h => by cases h⟩
theorem rubRows_holds : Rows.RubRowsSaid :=
  OpenClaim.holds_of_wide 3 Try.f3 rfl rfl rfl rfl rfl rfl rfl ⟨rfl, rfl, rfl, rfl, rfl⟩ rfl rfl rfl rfl rfl (by kernel_rfl) Try.func3 (by kernel_rfl)
    (of_decide_eq_true (by kernel_rfl)) (by unfold Func.isWrapper; first | (rw [if_pos (by decide +kernel)]; kernel_rfl) | (rw [if_neg (by decide +kernel)]; exact ⟨rfl, rfl⟩))
    (fun os started H enc _ => rubRows_lifted os started H enc)
end Go.AM.Ytfmnoohhhokicaa
namespace Go.Proofs.Ytfmnoohhhokicaa
/-- RubRows: the law answers true for every input, and the input reads as it did. No condition. -/
theorem rubRows_holds : Rows.RubRowsSaid := Go.AM.Ytfmnoohhhokicaa.rubRows_holds
end Go.Proofs.Ytfmnoohhhokicaa
end
#print axioms Go.Proofs.Ytfmnoohhhokicaa.rubRows_holds
