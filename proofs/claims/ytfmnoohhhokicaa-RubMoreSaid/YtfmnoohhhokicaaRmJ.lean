/- A part of the proof of rubMore_holds: RuB, RtA, CelH, CelG, RtB, RuF, RtC, RubN, RtE, RubQ, RubE, RtL, RtM, RtN, RtO, RtP, RtQ, RubV, RtR, SyX, RtG. Own work of this project; texts printed by own programs among it. -/
import Derived.KernelRfl
import Derived.Test.YtfmnoohhhokicaaRmI
section
namespace Go.AM.Ytfmnoohhhokicaa
open Go Go.AM Go.AM.Rub
set_option maxRecDepth 100000
set_option maxHeartbeats 4000000
/-- Rises. -/
def riP (l : List Int) (i : Nat) : List Int := (List.range (i + 1)).map (ps (rowF l))
def riL (l : List Int) : List Int := riP l l.length
theorem riP_len (l : List Int) (i : Nat) : (riP l i).length = i + 1 := by simp [riP]
theorem riP_snoc (l : List Int) (i : Nat) : riP l (i + 1) = riP l i ++ [ps (rowF l) i + rowF l i] := by simp [riP, List.range_succ, ps]
theorem riP_at {l : List Int} {i k : Nat} (h : k ≤ i) : (riP l i)[k]? = some (ps (rowF l) k) := by
  simp only [riP, List.getElem?_map]
  rw [List.getElem?_range (by omega)]; rfl
theorem rowF_ri {l : List Int} {k : Nat} (h : k ≤ l.length) : rowF (riL l) k = ps (rowF l) k := by
  have := riP_at (l := l) h
  show (riP l l.length).getD k 0 = _
  rw [List.getD_eq_getElem?_getD, this]; rfl
theorem ps_b {n : Nat} {l : List Int} (h : Rw n l) : ∀ k, k ≤ n → 0 ≤ ps (rowF l) k ∧ ps (rowF l) k ≤ 8 * k
  | 0, _ => by simp [ps]
  | k + 1, hk => by
    have := ps_b h k (by omega)
    have := rw_b h (k := k) (by omega)
    simp only [ps]; omega
abbrev riS (l : List Int) (ex : Bool) (i : Nat) : St := ([(9, .int .i64 i), (8, .int .i64 l.length), (7, .imm (ics l) l.length ex), (3, .ref 6 0 (i + 1) (i + 1) (i + 1) 1 false)], [(6, ⟨.row, ics (riP l i)⟩)])
theorem ri_go {C : Callee} {n : Nat} {l : List Int} {ex : Bool} (h : Rw n l) (hn : n ≤ 8) (i : Nat) (hi : i < l.length) :
    ∃ s', (execA E C (fg 79) 0 25 [] 1000000 c79_9) (riS l ex i) = some (.normal, s') ∧ headA [] s' = riS l ex (i + 1) := by
  have hln := h.len
  have hlen := ics_length l
  have hat := icr_at hi
  have hrl : (ics (riP l i)).length = i + 1 := by rw [ics_length, riP_len]
  have hra := ics_at (riP_at (l := l) (i := i) (Nat.le_refl i))
  have hsn := ics_snoc (riP l i) (ps (rowF l) i + rowF l i)
  have htk : List.take (i + 1) (ics (riP l i)) = ics (riP l i) := List.take_of_length_le (by omega)
  have b1 := ps_b h i (by omega)
  have b2 := rw_b h (k := i) (by omega)
  have g1 : (i : Int) < l.length := by omega
  have g2 : (i : Int) < ((i + 1 : Nat) : Int) := by omega
  have w1 : wrp .i64 (ps (rowF l) i + rowF l i) = ps (rowF l) i + rowF l i := wrp64 (by omega)
  have hno : ¬ i + 1 + 1 ≤ i + 1 := by omega
  simp only [riS, riP_snoc]
  rw [← hsn]
  generalize ics (riP l i) = L at *
  generalize ps (rowF l) i = p at *
  simp (disch := omega) only [ZF, stp, just, Rd.bind, Rd.run, Rd.opt, upds, acells, zeroCells, tsz, elemT, rdCells, aLoad, fresh, aIndexAddr, aNum, aBuiltin, aBin, aInt, putC, evO, Nat.reduceAdd, Nat.reduceLT, Nat.reduceBEq, Nat.reduceEqDiff, Nat.reduceLeDiff, ↓reduceIte, reduceCtorEq, aBuildSlice, aBuildAt, partsOf, fillA, repC, isSliceT, aAppend, srcOf, window, snaps, ZT, F_79, g1, g2, hat, hlen, hrl, hra, htk, w1, hno, room22 (show i + 1 + 1 ≤ 1000000 by omega), wrp_succ (show i < 1000000 by omega)]
  exact ⟨_, rfl, rfl⟩
theorem rises_run {C : Callee} {n : Nat} {l : List Int} {a : AV} (ha : IV l a) (h : Rw n l) (hn : n ≤ 8) :
    ∃ H, bodyA E C fg 1000000 79 [a] [] 0 = some (.ref 6 0 (l.length + 1) (l.length + 1) (l.length + 1) 1 false, H) ∧ hget H 6 = some ⟨.row, ics (riL l)⟩ := by
  rcases ha with ⟨rfl, rfl⟩ | ⟨ex, rfl⟩
  · have hloop := loopM0 (f := (execA E C (fg 79) 0 25 [] 1000000 c79_9)) (E0 := []) (s0 := ([(9, .int .i64 0), (8, .int .i64 0), (7, .nilsl), (3, .ref 6 0 1 1 1 1 false)], [(6, ⟨.row, [.int .i64 0]⟩)])) rfl (e := .exit 0) (se := ([(10, .bool false), (9, .int .i64 0), (8, .int .i64 0), (7, .nilsl), (3, .ref 6 0 1 1 1 1 false)], [(6, ⟨.row, [.int .i64 0]⟩)]))
      (by simp (disch := omega) only [ZF, stp, just, Rd.bind, Rd.run, Rd.opt, upds, aBin, aInt, Nat.reduceEqDiff, Nat.reduceLeDiff, ↓reduceIte, F_79]) (by simp)
    simp (disch := omega) only [ZF, frame0, stp, just, Rd.bind, Rd.run, upds, acells, zeroCells, tsz, elemT, resA, resL, fresh, aLen, aBuiltin, putC, evO, ofV, ofV1, Nat.reduceAdd, Nat.reduceLT, Nat.reduceBEq, Nat.reduceEqDiff, Nat.reduceLeDiff, ↓reduceIte, reduceCtorEq, aBuildSlice, aBuildAt, partsOf, fillA, repC, snaps, ZT, F_79, hloop]
    exact ⟨_, rfl, rfl⟩
  · have hln := h.len
    have hlen := ics_length l
    have hloop := loopM (f := (execA E C (fg 79) 0 25 [] 1000000 c79_9)) (E0 := []) (riS l ex) l.length (fun i hi => ri_go h hn i hi) rfl (by omega)
      (e := .exit 0) (se := ([(10, .bool false), (9, .int .i64 l.length), (8, .int .i64 l.length), (7, .imm (ics l) l.length ex), (3, .ref 6 0 (l.length + 1) (l.length + 1) (l.length + 1) 1 false)], [(6, ⟨.row, ics (riL l)⟩)]))
      (by simp (disch := omega) only [ZF, stp, just, Rd.bind, Rd.run, Rd.opt, upds, aBin, aInt, Nat.reduceEqDiff, Nat.reduceLeDiff, ↓reduceIte, F_79, riS, riL]) (by simp)
    have e0 : ics (riP l 0) = [.int .i64 0] := rfl
    simp only [riS, e0, cl0, Nat.zero_add] at hloop
    simp (disch := omega) only [ZF, frame0, stp, just, Rd.bind, Rd.run, upds, acells, zeroCells, tsz, elemT, resA, resL, fresh, aLen, aBuiltin, putC, evO, ofV, ofV1, Nat.reduceAdd, Nat.reduceLT, Nat.reduceBEq, Nat.reduceEqDiff, Nat.reduceLeDiff, ↓reduceIte, reduceCtorEq, aBuildSlice, aBuildAt, partsOf, fillA, repC, snaps, ZT, F_79, hloop]
    exact ⟨_, rfl, rfl⟩
theorem ri_len (l : List Int) : (ics (riL l)).length = l.length + 1 := by rw [ics_length]; exact riP_len _ _
theorem rises_call {d : Nat} {site : Nat → Nat} {seen : List Nat} {n : Nat} {l : List Int} {a : AV} (ha : IV l a) (h : Rw n l) (hn : n ≤ 8) : aBack site true seen (thaw (kF (d + 1)) 79 [a] [] 0) =
    back1 (site 0) seen (fun k => .ref k 0 (l.length + 1) (l.length + 1) (l.length + 1) 1 false) ⟨.row, ics (riL l)⟩ := by
  obtain ⟨H, h1, h2⟩ := rises_run (C := kF d) ha h hn
  exact aBack_refc (by rw [kF_no rfl]; exact h1) h2 (ri_len l)
end Go.AM.Ytfmnoohhhokicaa
end

section
namespace Go.AM.Ytfmnoohhhokicaa
open Go Go.AM Go.AM.Rub
set_option maxRecDepth 100000
set_option maxHeartbeats 4000000
theorem cmp_run {C : Callee} {a b : Int} (h : -1000000 ≤ b - a ∧ b - a ≤ 1000000) : rsOf (bodyA E C fg 1000000 109 [.int .i64 a, .int .i64 b] [] 0) = some (.int .i64 (b - a)) := by
  have w1 : wrp .i64 (b - a) = b - a := wrp64 (by omega)
  simp (disch := omega) only [ZF, frame0, stp, just, Rd.bind, Rd.run, Rd.opt, upds, resA, resL, aBin, aInt, Nat.reduceBEq, Nat.reduceEqDiff, Nat.reduceLeDiff, ↓reduceIte, reduceCtorEq, F_109, w1]
theorem cmp_call {d : Nat} {site : Nat → Nat} {seen : List Nat} {a b : Int} (h : -1000000 ≤ b - a ∧ b - a ≤ 1000000) : aBack site true seen (thaw (kF (d + 1)) 109 [.int .i64 a, .int .i64 b] [] 0) = .pure (.int .i64 (b - a), []) :=
  aBack_int (kF_ex rfl (cmp_run h))
theorem cmp_pure (caps args : List AV) : mutV E (.clo 109 caps) args = none := rfl
abbrev stH (l : List Int) : AHeap := [(0, ⟨.row, ics l⟩)]
theorem st_head {l l0 : List Int} {φ : AFr} : headA (stH l0) (φ, stH l) = (φ, stH l) := headA_keep (by simp [stH, hget_cons'])
/-- All numbers of a list lie within bounds. -/
def BdI (l : List Int) : Prop := ∀ k, k < l.length → -100000 ≤ rowF l k ∧ rowF l k ≤ 100000
theorem rowF_set {l : List Int} {a k : Nat} {x : Int} (hk : k < l.length) : rowF (l.set a x) k = if a = k then x else rowF l k := by
  simp only [rowF, List.getD_eq_getElem?_getD, List.getElem?_set]
  split
  · rename_i h; subst h; rw [if_pos hk]; rfl
  · rfl
theorem swp_bd {l : List Int} (h : BdI l) {j : Nat} (hj : j + 1 < l.length) : BdI (swpI l j) := by
  intro k hk
  rw [swpI_length] at hk
  have a := h j (by omega)
  have b := h (j + 1) hj
  have c := h k hk
  have e : rowF (swpI l j) k = if j = k then rowF l (j + 1) else if j + 1 = k then rowF l j else rowF l k := by
    unfold swpI
    rw [rowF_set (by rw [List.length_set]; exact hk), rowF_set hk]; rfl
  rw [e]
  split
  · exact b
  · split
    · exact a
    · exact c
abbrev inS (n i j : Nat) (l : List Int) : St := ([(9, .int .i64 j), (8, .int .i64 i), (3, .clo 109 []), (2, .int .i64 n), (1, .int .i64 0), (0, .ref 0 0 n n n 1 false)], stH l)
theorem ins_loop {d B : Nat} {l0 : List Int} {i n : Nat} (h9 : n ≤ 12) : ∀ (j F : Nat) (l : List Int), l.length = n → j < n → BdI l → j < F →
    ∃ j', iterA (execA E (kF (d + 1)) (fg 133) B 53 (stH l0) 1000000 c133_16) (headA (stH l0)) F (inS n i j l) = some (.exit 2, ([(34, .bool false), (9, .int .i64 j'), (8, .int .i64 i), (3, .clo 109 []), (2, .int .i64 n), (1, .int .i64 0), (0, .ref 0 0 n n n 1 false)], stH (insI l j)))
  | j, 0, _, _, _, _, hF => by omega
  | 0, F + 1, l, hl, _, _, _ => by
    refine ⟨(0 : Nat), ?_⟩
    rw [iterA_succ, st_head]
    generalize kF (d + 1) = C
    simp (disch := omega) only [ZF, opPick, just, Rd.bind, Rd.run, Rd.opt, upds, aBin, aInt, Nat.reduceAdd, Nat.reduceBEq, Nat.reduceEqDiff, Nat.reduceLeDiff, ↓reduceIte, stpT, ↓gdT, Rd.foot, writing, touching, Tr.empty, dynPairs, F_133, insI, cl0]
  | j + 1, F + 1, l, hl, hj, hb, hF => by
    have hlen : (ics l).length = n := by rw [ics_length, hl]
    have a1 := icr_at (l := l) (k := j) (by omega)
    have a2 := icr_at (l := l) (k := j + 1) (by omega)
    have b1 := hb j (by omega)
    have b2 := hb (j + 1) (by omega)
    have g1 : ((j + 1 : Nat) : Int) > 0 := by omega
    have g2 : ((j + 1 : Nat) : Int) < n := by omega
    have g3 : (j : Int) < n := by omega
    have w : wrp .i64 (((j + 1 : Nat) : Int) - 1) = (j : Int) := by rw [wrp64 (by omega)]; omega
    have cc := fun (site : Nat → Nat) seen => cmp_call (d := d) (site := site) (seen := seen) (a := rowF l (j + 1)) (b := rowF l j) (by omega)
    simp only [insI]
    by_cases hc : l.getD (j + 1) 0 > l.getD j 0
    · rw [if_pos hc]
      obtain ⟨j', hih⟩ := ins_loop (d := d) (B := B) (l0 := l0) (i := i) h9 j F (swpI l j) (by rw [swpI_length]; exact hl) (by omega) (swp_bd hb (by omega)) (by omega)
      refine ⟨j', ?_⟩
      rw [← hih, iterA_succ, st_head]
      simp only [inS, stH]
      have hneg : rowF l j - rowF l (j + 1) < 0 := by unfold rowF; omega
      have e1 := ics_set l (j + 1) (rowF l j)
      have e2 := ics_set (l.set (j + 1) (rowF l j)) j (rowF l (j + 1))
      have e3 : (l.set (j + 1) (rowF l j)).set j (rowF l (j + 1)) = swpI l j := rfl
      rw [e3] at e2
      have l1 : (ics (l.set (j + 1) (rowF l j))).length = n := by rw [ics_length, List.length_set, hl]
      generalize ics (swpI l j) = R at *
      generalize ics (l.set (j + 1) (rowF l j)) = M at *
      generalize kF (d + 1) = C at *
      simp (disch := omega) only [ZF, stp, opPick, just, Rd.bind, Rd.run, Rd.opt, upds, acells, tsz, rdCells, aLoad, aStore, opStore, aIndexAddr, aNum, aBin, aInt, putC, Nat.reduceAdd, Nat.reduceMul, Nat.reduceLT, Nat.reduceBEq, Nat.reduceEqDiff, Nat.reduceLeDiff, ↓reduceIte, reduceCtorEq, stpT, ↓gdT, Rd.foot, writing, touching, Tr.empty, dynPairs, apartT, disj, aCall, snaps, opCallV, ZT, F_133, callVT_eq (cmp_pure _ _), fi_109, hlen, l1, a1, a2, g1, g2, g3, w, cc, hneg, e1, e2, if_pos]
    · rw [if_neg hc]
      refine ⟨((j + 1 : Nat)), ?_⟩
      have hneg : ¬ rowF l j - rowF l (j + 1) < 0 := by unfold rowF; omega
      rw [iterA_succ, st_head]
      generalize kF (d + 1) = C at *
      simp (disch := omega) only [ZF, opPick, just, Rd.bind, Rd.run, Rd.opt, upds, tsz, rdCells, aLoad, aIndexAddr, aNum, aBin, aInt, Nat.reduceAdd, Nat.reduceMul, Nat.reduceLT, Nat.reduceBEq, Nat.reduceEqDiff, Nat.reduceLeDiff, ↓reduceIte, reduceCtorEq, stpT, ↓gdT, Rd.foot, writing, touching, Tr.empty, dynPairs, apartT, disj, aCall, snaps, opCallV, ZT, F_133, callVT_eq (cmp_pure _ _), fi_109, hlen, a1, a2, g1, g2, g3, w, cc, hneg]
theorem ins_bd {l : List Int} (_ : BdI l) : ∀ (j : Nat) (l : List Int), j < l.length → BdI l → BdI (insI l j)
  | 0, l, _, h => h
  | j + 1, l, hj, h => by
    simp only [insI]
    split
    · exact ins_bd h j (swpI l j) (by rw [swpI_length]; omega) (swp_bd h hj)
    · exact h
theorem srt_bd {l : List Int} (h : BdI l) : ∀ i, i < l.length → BdI (srtN l i)
  | 0, _ => h
  | i + 1, hi => ins_bd h (i + 1) _ (by rw [srtN_length]; exact hi) (srt_bd h i (by omega))
abbrev ouS (n i : Nat) (l : List Int) : St := ([(8, .int .i64 i), (3, .clo 109 []), (2, .int .i64 n), (1, .int .i64 0), (0, .ref 0 0 n n n 1 false)], stH l)
theorem ins_run {d B : Nat} {l : List Int} {n : Nat} (hl : l.length = n) (h0 : 0 < n) (h9 : n ≤ 12) (hb : BdI l) :
    kF (d + 2) 133 [.ref 0 0 n n n 1 false, .int .i64 0, .int .i64 n, .clo 109 []] (stH l) B = some (.tup [], stH (srtI l)) := by
  rw [kF_no rfl]
  have hloop := loopM (f := execA E (kF (d + 1)) (fg 133) B 53 (stH l) 1000000 c133_4) (E0 := stH l) (fun k => ouS n (k + 1) (srtN l k)) (n - 1) (fun k hk => by
      obtain ⟨j', hin⟩ := ins_loop (d := d) (B := B) (l0 := l) (i := k + 1) h9 (k + 1) 1000000 (srtN l k) (by rw [srtN_length, hl]) (by omega) (srt_bd hb k (by omega)) (by omega)
      have g1 : ((k + 1 : Nat) : Int) < n := by omega
      simp only [inS] at hin
      have e : srtN l (k + 1) = insI (srtN l k) (k + 1) := rfl
      simp only [ouS, e]
      generalize kF (d + 1) = C at *
      simp (disch := omega) only [ZF, stp, just, Rd.bind, Rd.run, Rd.opt, upds, aBin, aInt, Nat.reduceBEq, Nat.reduceEqDiff, Nat.reduceLeDiff, ↓reduceIte, F_133, g1, hin, wrp_succ (show k + 1 < 1000000 by omega)]
      exact ⟨_, rfl, st_head⟩) st_head (by omega)
    (e := .exit 0) (se := ([(14, .bool false), (8, .int .i64 n), (3, .clo 109 []), (2, .int .i64 n), (1, .int .i64 0), (0, .ref 0 0 n n n 1 false)], stH (srtI l)))
    (by
      have e : srtN l (n - 1) = srtI l := by rw [← hl]; rfl
      simp only [ouS, e, show n - 1 + 1 = n by omega]
      generalize kF (d + 1) = C at *
      simp (disch := omega) only [ZF, stp, just, Rd.bind, Rd.run, Rd.opt, upds, aBin, aInt, Nat.reduceBEq, Nat.reduceEqDiff, Nat.reduceLeDiff, ↓reduceIte, F_133]) (by simp)
  have z1 : ((0 + 1 : Nat) : Int) = 1 := rfl
  have e0 : srtN l 0 = l := rfl
  simp only [ouS, z1, e0] at hloop
  have w : wrp .i64 (0 + 1) = 1 := by decide
  generalize kF (d + 1) = C at *
  simp (disch := omega) only [ZF, frame0, stp, just, Rd.bind, Rd.run, Rd.opt, upds, resA, resL, aBin, aInt, Nat.reduceAdd, Nat.reduceBEq, Nat.reduceEqDiff, Nat.reduceLeDiff, ↓reduceIte, F_133, w, hloop]
theorem pdq_run {d B : Nat} {l : List Int} {n : Nat} {m : Int} (hl : l.length = n) (h0 : 0 < n) (h9 : n ≤ 12) (hb : BdI l) :
    kF (d + 3) 121 [.ref 0 0 n n n 1 false, .int .i64 0, .int .i64 n, .int .i64 m, .clo 109 []] (stH l) B = some (.tup [], stH (srtI l)) := by
  rw [kF_no rfl]
  have hi := fun B => ins_run (d := d) (B := B) hl h0 h9 hb
  have w1 : wrp .i64 ((n : Int) - 0) = n := wrp64 (by omega)
  have g : (n : Int) ≤ 12 := by omega
  simp only [stH] at hi
  generalize kF (d + 2) = C at *
  have hh := st_head (l := l) (l0 := l) (φ := [(11, .bool true), (10, .bool true), (4, .clo 109 []), (3, .int .i64 m), (2, .int .i64 n), (1, .int .i64 0), (0, .ref 0 0 n n n 1 false)])
  simp only [stH] at hh
  simp (disch := omega) only [ZF, frame0, stp, just, Rd.bind, Rd.run, Rd.opt, upds, resA, resL, aBin, aInt, Nat.reduceAdd, Nat.reduceMul, Nat.reduceBEq, Nat.reduceEqDiff, Nat.reduceLeDiff, ↓reduceIte, reduceCtorEq, mutX, F_121, iterA_succ, hh, hi, w1, g]
theorem len_ok (d : Nat) : ([1, 2, 3, 4, 5, 6].all fun n => match kF (d + 4) 111 [.int .u64 n] [] 0 with | some (.int .i64 _, _) => true | _ => false) = true := by kernel_rfl
theorem len_call (d : Nat) {n : Nat} (h0 : 0 < n) (h6 : n ≤ 6) : ∃ m, ∀ (site : Nat → Nat) seen, aBack site true seen (thaw (kF (d + 4)) 111 [.int .u64 (n : Int)] [] 0) = .pure (.int .i64 m, []) := by
  have := List.all_eq_true.1 (len_ok d) (n : Int) (by
    have : n = 1 ∨ n = 2 ∨ n = 3 ∨ n = 4 ∨ n = 5 ∨ n = 6 := by omega
    rcases this with rfl | rfl | rfl | rfl | rfl | rfl <;> simp)
  split at this
  · rename_i m H h
    exact ⟨m, fun site seen => aBack_int ⟨H, h⟩⟩
  · exact absurd this (by simp)
theorem sort_run {d B : Nat} {l : List Int} {n : Nat} (hl : l.length = n) (h0 : 0 < n) (h6 : n ≤ 6) (hb : BdI l) :
    kF (d + 5) 108 [.ref 0 0 n n n 1 false, .clo 109 []] (stH l) B = some (.tup [], stH (srtI l)) := by
  rw [kF_no rfl]
  obtain ⟨m, hL⟩ := len_call d h0 h6
  have hi := fun B => pdq_run (d := d + 1) (B := B) (m := m) hl h0 (by omega) hb
  have w1 : wrp .u64 (n : Int) = n := wrp_id (by simp only [kLo]; omega) (by simp only [kHi]; omega)
  have hlen : (ics l).length = n := by rw [ics_length, hl]
  simp only [stH] at hi
  generalize kF (d + 4) = C at *
  simp (disch := omega) only [ZF, frame0, stp, justO, just, Rd.bind, Rd.run, upds, resA, resL, aLen, aBuiltin, Nat.reduceMul, Nat.reduceBEq, Nat.reduceEqDiff, Nat.reduceLeDiff, ↓reduceIte, reduceCtorEq, mutX, aCall, snaps, aConv, ZT, F_108, w1, hL, hi, hlen]
theorem sorted_run {d : Nat} {l : List Int} {n : Nat} (hl : l.length = n) (h0 : 0 < n) (h6 : n ≤ 6) (hb : BdI l) :
    pF (d + 6) 67 [.ref 0 0 n n n 1 false] (stH l) 64 = some (.tup [], stH (srtI l)) := by
  rw [pF_s]
  have hi := fun B => sort_run (d := d) (B := B) hl h0 h6 hb
  simp only [stH] at hi
  generalize kF (d + 5) = C at *
  simp (disch := omega) only [ZF, frame0, resA, resL, Nat.reduceAdd, Nat.reduceMul, Nat.reduceBEq, Nat.reduceEqDiff, Nat.reduceLeDiff, ↓reduceIte, reduceCtorEq, mutX, F_67, hi]
/-- Sorted, wherever the list lies. -/
theorem sorted_call {d B k : Nat} {l : List Int} {n : Nat} {H : AHeap} (hl : l.length = n) (h0 : 0 < n) (h6 : n ≤ 6) (hb : BdI l) (hH : hget H k = some ⟨.row, ics l⟩) :
    kF (d + 6) 67 [.ref k 0 n n n 1 false] H B = some (.tup [], hset H k ⟨.row, ics (srtI l)⟩) := by
  rw [kF_fr rfl]
  have hr := sorted_run (d := d) hl h0 h6 hb
  have hm : (mark H 1000 (refsL [.ref k 0 n n n 1 false]) []).reverse = [k] := by
    simp only [refsL, refsOf, List.append_nil, mark, hH, List.contains_nil, Bool.false_eq_true, if_false, List.reverse_cons, List.reverse_nil, List.nil_append]
  have hlen : (ics l).length = n := by rw [ics_length, hl]
  have hlen2 : (ics (srtI l)).length = n := by rw [ics_length]; show (srtN l _).length = n; rw [srtN_length, hl]
  rw [hm]
  simp only [stH] at hr
  have h2 : newsF [(0, ⟨.row, ics (srtI l)⟩)] (.tup []) 1 = [] := rfl
  simp only [focus, AM.apart, List.elem_nil, Bool.not_false, Bool.and_self, if_true, renL, ren, posF, foc, hH, renB, hr, backF, List.length_cons, List.length_nil, Nat.zero_add, h2, baseF, freeL, outF, Nat.lt_one_iff, List.getElem?_cons_zero, List.range_one, List.append_nil, unf, hget_c, goodB, BS.open_]
  rfl
end Go.AM.Ytfmnoohhhokicaa
end

section
namespace Go.AM
theorem hg_mem : ∀ {H : AHeap} {k : Nat} {b : Blk}, (k, b) ∈ H → (hget H k).isSome = true
  | (j, c) :: t, k, b, h => by
    rw [hget_c]
    cases hj : Nat.beq j k with
    | true => rfl
    | false =>
      rcases List.mem_cons.1 h with e | h
      · injection e with e1 e2; subst e1; rw [Nat.beq_refl] at hj; exact absurd hj (by simp)
      · exact hg_mem h
/-- A loop of n rounds, whatever was there at the call's begin. -/
theorem loopE {E0 : AHeap} {f : St → XR} (st : Nat → St) (n : Nat) (h : ∀ i, i < n → ∃ s', f (st i) = some (.normal, s') ∧ headA E0 s' = st (i + 1)) (h0 : headA E0 (st 0) = st 0) (hn : n < 1000) {e : Ex} {se : St} (he : f (st n) = some (e, se)) (hne : e ≠ .normal) :
    iterA f (headA E0) 1000 (st 0) = some (e, se) :=
  iter_all st n 1000 0 (st 0) h0 hn (fun i _ hi => h i (by omega)) (by rw [Nat.zero_add]; exact he) hne
end Go.AM
end

section
namespace Go.AM
section
variable {k : Nat} {c : List AV} {T : AHeap}
theorem mark_box (hc : refsL c = []) : ∀ (n : Nat) (todo seen : List Nat), mark ((k, ⟨.box, c⟩) :: T) n todo seen = mark ((k, ⟨.box, []⟩) :: T) n todo seen
  | 0, _, _ => rfl
  | n + 1, [], _ => rfl
  | n + 1, i :: todo, seen => by
    simp only [mark, hget_cons']
    by_cases hs : seen.contains i = true
    · rw [if_pos hs, if_pos hs]; exact mark_box hc n todo seen
    · rw [if_neg hs, if_neg hs]
      by_cases e : k = i
      · rw [if_pos e, if_pos e]
        simp only [hc]
        exact mark_box hc n _ _
      · rw [if_neg e, if_neg e]
        cases hget T i with
        | none => exact mark_box hc n _ _
        | some b =>
          obtain ⟨st, cs⟩ := b
          cases st <;> exact mark_box hc n _ _
theorem held_box (S : AHeap) : ∀ l : List Nat, allHeld ((k, ⟨.box, c⟩) :: S) l = allHeld ((k, ⟨.box, []⟩) :: S) l
  | [] => rfl
  | i :: l => by
    simp only [allHeld, hget_cons', held_box S l]
    by_cases e : k = i
    · rw [if_pos e, if_pos e]; rfl
    · rw [if_neg e, if_neg e]
theorem closed_box (S : AHeap) : ∀ K : AHeap, closedH ((k, ⟨.box, c⟩) :: S) K = closedH ((k, ⟨.box, []⟩) :: S) K
  | [] => rfl
  | (i, ⟨st, cs⟩) :: K => by
    cases st <;> simp only [closedH, held_box, closed_box S K]
theorem headA_box (hc : refsL c = []) {φ : AFr} {T' : AHeap} (hT : hget T k = none) (h : headA [] (φ, (k, ⟨.box, []⟩) :: T) = (φ, (k, ⟨.box, []⟩) :: T')) : headA [] (φ, (k, ⟨.box, c⟩) :: T) = (φ, (k, ⟨.box, c⟩) :: T') := by
  simp only [headA, mark_box hc] at h ⊢
  generalize mark ((k, ⟨.box, []⟩) :: T) 1000 (refsF φ) [] = keep at *
  simp only [keepB] at h ⊢
  have hno : ∀ b, (k, b) ∉ T := by
    intro b hb
    have := hg_mem hb
    rw [hT] at this
    simp at this
  have hsub : ∀ (S : AHeap) (p : Nat × Blk), p ∈ keepB [] keep S → p ∈ S := by
    intro S
    induction S with
    | nil => intro p hp; exact hp
    | cons q S ih =>
      intro p hp
      obtain ⟨i, b⟩ := q
      simp only [keepB] at hp
      cases hcnd : (keep.elem i || (hget [] i).isSome) with
      | true =>
        rw [hcnd, cond_true] at hp
        rcases List.mem_cons.1 hp with e | hp
        · simp [e]
        · exact List.mem_cons_of_mem _ (ih p hp)
      | false =>
        rw [hcnd, cond_false] at hp
        exact List.mem_cons_of_mem _ (ih p hp)
  have hclosed : ∀ S, closedB φ ((k, ⟨.box, c⟩) :: S) = closedB φ ((k, ⟨.box, []⟩) :: S) := by
    intro S
    simp only [closedB, held_box, closedH, hc, closed_box, refsL, allHeld]
  cases hcnd : (keep.elem k || (hget [] k).isSome) with
  | true =>
    rw [hcnd] at h
    simp only [cond_true, gcIf, hclosed] at h ⊢
    cases hcl : closedB φ ((k, ⟨.box, []⟩) :: keepB [] keep T) with
    | true =>
      rw [hcl] at h
      simp only [Prod.mk.injEq, List.cons.injEq, true_and] at h ⊢
      exact h
    | false =>
      rw [hcl] at h
      simp only [Prod.mk.injEq, List.cons.injEq, true_and] at h ⊢
      exact h
  | false =>
    rw [hcnd] at h
    simp only [cond_false, gcIf] at h ⊢
    cases hcl : closedB φ (keepB [] keep T) with
    | true =>
      rw [hcl] at h
      simp only [Prod.mk.injEq, true_and] at h
      exfalso
      exact hno ⟨.box, []⟩ (hsub T _ (by rw [h]; simp))
    | false =>
      rw [hcl] at h
      simp only [Prod.mk.injEq, List.cons.injEq, true_and] at h ⊢
      exact h
end
end Go.AM
end

section
namespace Go.AM.Ytfmnoohhhokicaa
open Go Go.AM Go.AM.Rub
set_option maxRecDepth 100000
set_option maxHeartbeats 4000000
/-- Bytes. -/
def u8s (l : List Int) : List AV := l.map (AV.int .u8)
theorem u8s_len (l : List Int) : (u8s l).length = l.length := by simp [u8s]
theorem u8s_at {l : List Int} {k : Nat} (h : k < l.length) : (u8s l)[k]? = some (.int .u8 (rowF l k)) := by simp [u8s, rowF_at h]
theorem u8s_refs : ∀ l : List Int, refsL (u8s l) = []
  | [] => rfl
  | a :: l => by
    have := u8s_refs l
    unfold u8s at this ⊢
    simp only [List.map_cons, refsL, refsOf, this, List.append_nil]
/-- A pile's numbers. -/
structure Pl (zs : List Int) : Prop where
  len : zs.length = 8
  b : ∀ k, k < 8 → 0 ≤ rowF zs k ∧ rowF zs k ≤ 255
theorem pl_of {zs : List Int} (h : zs.length = 8 ∧ ∀ (i : Nat) (z : Int), zs[i]? = some z → 0 ≤ z ∧ z ≤ 255) : Pl zs := ⟨h.1, fun k hk => h.2 k _ (rowF_at (by rw [h.1]; exact hk))⟩
/-- How many stones, and their thicknesses, unsorted. -/
def mdN (zs : List Int) (m : Int) : Nat := (1 + (rowF zs 0).tmod m).toNat
def mdP (zs : List Int) (t : Int) (i : Nat) : List Int := (List.range i).map fun k => (rowF zs (2 + k)).tmod (1 + (rowF zs 1).tmod t + 1)
theorem mdP_len (zs : List Int) (t : Int) (i : Nat) : (mdP zs t i).length = i := by simp [mdP]
theorem mdP_snoc (zs : List Int) (t : Int) (i : Nat) : mdP zs t (i + 1) = mdP zs t i ++ [(rowF zs (2 + i)).tmod (1 + (rowF zs 1).tmod t + 1)] := by simp [mdP, List.range_succ]
theorem tmod_b {a b : Int} (ha : 0 ≤ a) (hb : 0 < b) : 0 ≤ a.tmod b ∧ a.tmod b < b := ⟨Int.tmod_nonneg _ ha, Int.tmod_lt_of_pos _ hb⟩
theorem mdN_b {zs : List Int} (h : Pl zs) {m : Int} (h0 : 0 < m) (_ : m ≤ 6) : 0 < mdN zs m ∧ (mdN zs m : Int) ≤ m ∧ (mdN zs m : Int) = 1 + (rowF zs 0).tmod m := by
  have := tmod_b (h.b 0 (by omega)).1 h0
  unfold mdN
  omega
theorem mdP_b {zs : List Int} (h : Pl zs) {t : Int} (h0 : 0 < t) {i : Nat} (hi : i ≤ 6) {k : Nat} (hk : k < i) : 0 ≤ rowF (mdP zs t i) k ∧ rowF (mdP zs t i) k ≤ t := by
  have h1 := tmod_b (h.b 1 (by omega)).1 h0
  have h2 := tmod_b (a := rowF zs (2 + k)) (b := 1 + (rowF zs 1).tmod t + 1) (h.b (2 + k) (by omega)).1 (by omega)
  have e : rowF (mdP zs t i) k = (rowF zs (2 + k)).tmod (1 + (rowF zs 1).tmod t + 1) := by
    simp only [rowF, mdP, List.getD_eq_getElem?_getD, List.getElem?_map]
    rw [List.getElem?_range hk]; rfl
  rw [e]; omega
/-- The row of a pile. -/
def mdR (zs : List Int) (m t : Int) : List Int := srtI (mdP zs t (mdN zs m))
theorem mdR_row {zs : List Int} (h : Pl zs) {m t : Int} (hm : 0 < m) (h6 : m ≤ 6) (ht : 0 < t) (h8 : t ≤ 8) : Rw (mdN zs m) (mdR zs m t) ∧ ∀ x ∈ mdR zs m t, x ≤ t := by
  obtain ⟨n0, n1, _⟩ := mdN_b h hm h6
  have hl := mdP_len zs t (mdN zs m)
  obtain ⟨hp, hd⟩ := srtI_spec (l := mdP zs t (mdN zs m)) (by omega)
  have hx : ∀ x ∈ srtI (mdP zs t (mdN zs m)), 0 ≤ x ∧ x ≤ t := by
    intro x hx
    have hx := hp.mem_iff.1 hx
    obtain ⟨k, hk, rfl⟩ := List.getElem_of_mem hx
    have := mdP_b h ht (i := mdN zs m) (by omega) (k := k) (by omega)
    rw [show rowF (mdP zs t (mdN zs m)) k = (mdP zs t (mdN zs m))[k] by simp [rowF, hk]] at this
    exact this
  exact ⟨⟨by show (srtI _).length = _; rw [hp.length_eq, hl], descP_row (fun x h => by have := hx x h; omega) hd⟩, fun x h => (hx x h).2⟩
noncomputable abbrev mdS (zs : List Int) (n : Nat) (t : Int) (i : Nat) : St :=
  ([(19, .int .i64 i), (18, .int .i64 n), (17, .ref 3 2 n 6 8 1 true), (7, oV 35 1 i), (3, .ptr 3 0 8), (2, .int .i64 t)], (3, ⟨.box, u8s zs⟩) :: oH 35 (ics (mdP zs t i)))
theorem md_go {C : Callee} {zs : List Int} {n : Nat} {t : Int} (h : Pl zs) (hn : n ≤ 6) (h0 : 0 < t) (h8 : t ≤ 8) (i : Nat) (hi : i < n) :
    ∃ s', (execA E C (fg 56) 0 40 [] 1000000 c56_9) (mdS zs n t i) = some (.normal, s') ∧ headA [] s' = mdS zs n t (i + 1) := by
  have hlz : (u8s zs).length = 8 := by rw [u8s_len, h.len]
  have hat := u8s_at (l := zs) (k := 2 + i) (by rw [h.len]; omega)
  have hat1 := u8s_at (l := zs) (k := 1) (by rw [h.len]; omega)
  have b1 := h.b 1 (by omega)
  have b2 := h.b (2 + i) (by omega)
  have m1 := tmod_b b1.1 h0
  have m2 := tmod_b (a := rowF zs (2 + i)) (b := 1 + (rowF zs 1).tmod t + 1) b2.1 (by omega)
  have hsn := ics_snoc (mdP zs t i) ((rowF zs (2 + i)).tmod (1 + (rowF zs 1).tmod t + 1))
  have hrl : (ics (mdP zs t i)).length = i := by rw [ics_length, mdP_len]
  have g1 : (i : Int) < n := by omega
  have t0 : ¬ t = 0 := by omega
  have hz := u8s_refs zs
  simp only [mdS]
  rw [ov_pos (show 0 < i + 1 by omega), ohi_pos (l := mdP zs t (i + 1)) (by rw [mdP_len]; omega), mdP_snoc, ← hsn]
  have w1 : wrp .i64 (rowF zs (2 + i)) = rowF zs (2 + i) := wrp64 (by omega)
  have w2 : wrp .i64 (rowF zs 1) = rowF zs 1 := wrp64 (by omega)
  generalize rowF zs (2 + i) = x at *
  generalize rowF zs 1 = y at *
  generalize u8s zs = Z at *
  generalize hq : y.tmod t = q at *
  have w3 : wrp .i64 (1 + q) = 1 + q := wrp64 (by omega)
  have w4 : wrp .i64 (1 + q + 1) = 1 + q + 1 := wrp64 (by omega)
  have q0 : ¬ 1 + q + 1 = 0 := by omega
  rcases Nat.eq_zero_or_pos i with hp | hp
  · subst hp
    have e0 : ics (mdP zs t 0) = [] := rfl
    rw [e0, ov_zero]
    have oh0 : oH 35 [] = [] := rfl
    rw [oh0]
    simp (disch := omega) only [ZF, stp, justO, just, Rd.bind, Rd.run, Rd.opt, upds, acells, zeroCells, tsz, elemT, rdCells, fieldOf, aFieldAddr, aLoad, fresh, aIndexAddr, aNum, aBuiltin, aBin, aInt, putC, evO, Nat.reduceAdd, Nat.reduceLT, Nat.reduceBEq, Nat.reduceEqDiff, Nat.reduceLeDiff, ↓reduceIte, reduceCtorEq, aBuildSlice, aBuildAt, partsOf, fillA, repC, isSliceT, aAppend, srcOf, window, snaps, aConv, Int.reduceLE, Int.reduceToNat, ZT, F_56, hlz, hat, hat1, t0, q0, hq, w1, w2, w3, w4, cl0, if_pos, room22 (show 1 ≤ 1000000 by omega)]
    exact ⟨_, rfl, headA_box hz rfl rfl⟩
  · rw [ov_pos hp, ohi_pos (by rw [mdP_len]; exact hp)]
    have htk : List.take i (ics (mdP zs t i)) = ics (mdP zs t i) := List.take_of_length_le (by omega)
    have hno : ¬ i + 1 ≤ i := by omega
    generalize ics (mdP zs t i) = L at *
    simp (disch := omega) only [ZF, stp, justO, just, Rd.bind, Rd.run, Rd.opt, upds, acells, zeroCells, tsz, elemT, rdCells, fieldOf, aFieldAddr, aLoad, fresh, aIndexAddr, aNum, aBuiltin, aBin, aInt, putC, evO, Nat.reduceAdd, Nat.reduceLT, Nat.reduceBEq, Nat.reduceEqDiff, Nat.reduceLeDiff, ↓reduceIte, reduceCtorEq, aBuildSlice, aBuildAt, partsOf, fillA, repC, isSliceT, aAppend, srcOf, window, snaps, aConv, ZT, F_56, g1, hlz, hat, hat1, t0, q0, hq, w1, w2, w3, w4, hrl, htk, hno, room22 (show i + 1 ≤ 1000000 by omega), wrp_succ (show i < 1000000 by omega)]
    exact ⟨_, rfl, headA_box hz rfl rfl⟩
theorem made_run {d : Nat} {zs : List Int} {m t : Int} (h : Pl zs) (hm : 0 < m) (h6 : m ≤ 6) (h0 : 0 < t) (h8 : t ≤ 8) :
    ∃ H, bodyA E (kF (d + 6)) fg 1000000 56 [.agg (u8s zs), .int .i64 m, .int .i64 t] [] 0 = some (.ref 35 0 (mdN zs m) (mdN zs m) (mdN zs m) 1 false, H) ∧ hget H 35 = some ⟨.row, ics (mdR zs m t)⟩ := by
  obtain ⟨n0, n1, n2⟩ := mdN_b h hm h6
  have hlz : (u8s zs).length = 8 := by rw [u8s_len, h.len]
  have hat0 := u8s_at (l := zs) (k := 0) (by rw [h.len]; omega)
  have b0 := h.b 0 (by omega)
  have hz := u8s_refs zs
  have hpl := mdP_len zs t (mdN zs m)
  have hso := fun B => sorted_call (d := d) (B := B) (k := 35) (l := mdP zs t (mdN zs m)) (n := mdN zs m) (H := [(3, ⟨.box, u8s zs⟩), (35, ⟨.row, ics (mdP zs t (mdN zs m))⟩)]) hpl n0 (by omega) (fun k hk => by
    have := mdP_b h h0 (i := mdN zs m) (by omega) (k := k) (by omega)
    omega) rfl
  have hh : ∀ b : Blk, hset [(3, ⟨.box, u8s zs⟩), (35, ⟨.row, ics (mdP zs t (mdN zs m))⟩)] 35 b = [(3, ⟨.box, u8s zs⟩), (35, b)] := fun _ => rfl
  simp only [hh] at hso
  have er : srtI (mdP zs t (mdN zs m)) = mdR zs m t := rfl
  rw [er] at hso
  have hloop := loopM (f := execA E (kF (d + 6)) (fg 56) 0 40 [] 1000000 c56_9) (E0 := []) (mdS zs (mdN zs m) t) (mdN zs m) (fun i hi => md_go h (by omega) h0 h8 i hi) (headA_box hz rfl rfl) (by omega)
    (e := .exit 0) (se := ([(20, .bool false), (19, .int .i64 (mdN zs m)), (18, .int .i64 (mdN zs m)), (17, .ref 3 2 (mdN zs m) 6 8 1 true), (7, .ref 35 0 (mdN zs m) (mdN zs m) (mdN zs m) 1 false), (3, .ptr 3 0 8), (2, .int .i64 t)], [(3, ⟨.box, u8s zs⟩), (35, ⟨.row, ics (mdP zs t (mdN zs m))⟩)]))
    (by
      simp only [mdS]
      rw [ov_pos n0, ohi_pos (by rw [hpl]; exact n0)]
      simp (disch := omega) only [ZF, stp, just, Rd.bind, Rd.run, Rd.opt, upds, aBin, aInt, Nat.reduceEqDiff, Nat.reduceLeDiff, ↓reduceIte, F_56]) (by simp)
  have e0 : oH 35 (ics (mdP zs t 0)) = [] := rfl
  simp only [mdS, cl0, e0, ov_zero] at hloop
  have w1 : wrp .i64 (rowF zs 0) = rowF zs 0 := wrp64 (by omega)
  have w2 : wrp .i64 (1 + (rowF zs 0).tmod m) = (mdN zs m : Int) := by rw [← n2]; exact wrp64 (by omega)
  have hm0 : ¬ m = 0 := by omega
  have sp := fun d => snaps_flat (u8s zs) (d + 10) (by simp [u8s]) (by rw [hlz]; omega)
  generalize kF (d + 6) = C at *
  generalize mdN zs m = n at *
  generalize mdR zs m t = R at *
  generalize ics (mdP zs t n) = L at *
  generalize rowF zs 0 = x at *
  generalize u8s zs = Z at *
  have g1 : (0 : Int) ≤ n ∧ (n : Int) ≤ 6 := by omega
  simp (disch := omega) only [ZF, frame0, stp, opBox, justO, just, Rd.bind, Rd.run, Rd.opt, upds, acells, tsz, rdCells, fieldOf, aFieldAddr, aLoad, resA, resL, fresh, aNum, aLen, aBuiltin, aBin, aInt, Nat.reduceAdd, Nat.reduceMul, Nat.reduceLT, Nat.reduceBEq, Nat.reduceEqDiff, Nat.reduceLeDiff, ↓reduceIte, reduceCtorEq, mutX, aConv, aSlice, aBounds, bMax, bHigh, bLow, ZT, F_56, hlz, hat0, w1, w2, hm0, g1, hloop, hso, if_pos]
  exact ⟨_, rfl, rfl⟩
theorem made_call {d : Nat} {site : Nat → Nat} {seen : List Nat} {zs : List Int} {m t : Int} (h : Pl zs) (hm : 0 < m) (h6 : m ≤ 6) (h0 : 0 < t) (h8 : t ≤ 8) : aBack site true seen (thaw (kF (d + 7)) 56 [.agg (u8s zs), .int .i64 m, .int .i64 t] [] 0) =
    back1 (site 0) seen (fun k => .ref k 0 (mdN zs m) (mdN zs m) (mdN zs m) 1 false) ⟨.row, ics (mdR zs m t)⟩ := by
  obtain ⟨H, h1, h2⟩ := made_run (d := d) h hm h6 h0 h8
  exact aBack_refc (by rw [kF_no rfl]; exact h1) h2 (by rw [ics_length]; exact (mdR_row h hm h6 h0 h8).1.len)
end Go.AM.Ytfmnoohhhokicaa
end

section
namespace Go.AM.Ytfmnoohhhokicaa
open Go Go.AM Go.AM.Rub
set_option maxRecDepth 100000
set_option maxHeartbeats 4000000
theorem iv_al {l : List Int} {a : AV} (h : IV l a) : aLen E.T 22 a = .pure (.int .i64 (l.length : Int)) := by
  rcases h with ⟨rfl, rfl⟩ | ⟨ex, rfl⟩ <;> (simp only [aLen, T_22] <;> rfl)
/-- The first place where two lists differ. -/
def dfE (l m : List Int) (i : Nat) : Int := if rowF l i = rowF m i then 0 else 1
theorem list_ext {l m : List Int} (hl : l.length = m.length) : fe (dfE l m) 0 l.length = 0 ↔ l = m := by
  rw [fe_zero]
  constructor
  · intro h
    refine row_ext hl fun i hi => ?_
    have := h i (by omega) (by omega)
    unfold dfE at this
    split at this
    · assumption
    · exact absurd this (by decide)
  · rintro rfl i _ _
    exact if_pos rfl
abbrev saS (a b : AV) (i : Nat) : St := ([(5, .int .i64 i), (1, b), (0, a)], [])
theorem same_run {C : Callee} {l m : List Int} {a b : AV} (ha : IV l a) (hb : IV m b) (hl : l.length ≤ 1000) : rsOf (bodyA E C fg 1000000 24 [a, b] [] 0) = some (.bool (decide (l = m))) := by
  have la := iv_al ha
  have lb := iv_al hb
  by_cases hlm : l.length = m.length
  · have g1 : ¬ (l.length : Int) ≠ m.length := by omega
    have g2 : ((l.length : Int) != m.length) = false := by rw [bne_eq_false_iff_eq]; omega
    have g3 : (l.length : Int) = m.length := by omega
    by_cases h0 : l.length = 0
    · have e1 : l = [] := List.length_eq_zero_iff.1 h0
      have e2 : m = [] := List.length_eq_zero_iff.1 (by omega)
      subst e1 e2
      rw [decide_eq_true rfl]
      have hloop := loopM0 (f := (execA E C (fg 24) 0 26 [] 1000000 c24_15)) (E0 := []) (s0 := saS a b 0) (by rcases ha with ⟨_, rfl⟩ | ⟨_, rfl⟩ <;> rcases hb with ⟨_, rfl⟩ | ⟨_, rfl⟩ <;> rfl) (e := .exit 0) (se := ([(14, .bool false), (5, .int .i64 0), (1, b), (0, a)], []))
        (by simp (disch := omega) only [ZF, stp, just, Rd.bind, Rd.run, Rd.opt, upds, aBuiltin, aBin, aInt, Nat.reduceBEq, Nat.reduceEqDiff, Nat.reduceLeDiff, ↓reduceIte, reduceCtorEq, F_24, la, saS, cl0]) (by simp)
      simp only [saS, cl0] at hloop
      simp (disch := omega) only [ZF, frame0, stp, just, Rd.bind, Rd.run, Rd.opt, upds, resA, resL, aBuiltin, aBin, aInt, Nat.reduceBEq, Nat.reduceEqDiff, Nat.reduceLeDiff, ↓reduceIte, reduceCtorEq, F_24, la, lb, hloop]
    · obtain ⟨ea, rfl⟩ := iv_ne ha (by omega)
      obtain ⟨eb, rfl⟩ := iv_ne hb (by omega)
      have hlen := ics_length l
      have hlen2 := ics_length m
      have hloop := loopE (f := (execA E C (fg 24) 0 26 [] 1000000 c24_15)) (e := dfE l m) (R := fun _ H => ([(4, .bool false)], H)) (saS (.imm (ics l) l.length ea) (.imm (ics m) m.length eb)) l.length (E0 := []) rfl (by omega) (x := .exit 0) (se := ([(14, .bool false), (5, .int .i64 l.length), (1, .imm (ics m) m.length eb), (0, .imm (ics l) l.length ea)], [])) (by simp)
        (fun i hi _ he => by
          have a1 := icr_at (l := l) (k := i) hi
          have a2 := icr_at (l := m) (k := i) (by omega)
          have k1 : (i : Int) < l.length := by omega
          have k2 : (i : Int) < m.length := by omega
          have hq : rowF l i = rowF m i := by
            unfold dfE at he
            split at he
            · assumption
            · exact absurd he (by decide)
          rw [hq] at a1
          simp (disch := omega) only [ZF, stp, just, Rd.bind, Rd.run, Rd.opt, upds, tsz, rdCells, aLoad, aIndexAddr, aNum, aLen, aBuiltin, aBin, aInt, Nat.reduceAdd, Nat.reduceLT, Nat.reduceBEq, Nat.reduceEqDiff, Nat.reduceLeDiff, ↓reduceIte, reduceCtorEq, stpT, Rd.foot, writing, touching, Tr.empty, dynPairs, ZT, F_24, saS, k1, k2, a1, a2, hlen, hlen2, wrp_succ (show i < 1000000 by omega)]
          exact ⟨_, rfl, rfl⟩)
        (fun i hi _ he => by
          have a1 := icr_at (l := l) (k := i) hi
          have a2 := icr_at (l := m) (k := i) (by omega)
          have k1 : (i : Int) < l.length := by omega
          have k2 : (i : Int) < m.length := by omega
          have hq : ¬ rowF l i = rowF m i := fun h => he (if_pos h)
          have hq2 : (rowF l i != rowF m i) = true := by rw [bne_iff_ne]; exact hq
          simp (disch := omega) only [ZF, stp, just, Rd.bind, Rd.run, Rd.opt, upds, tsz, rdCells, aLoad, aIndexAddr, aNum, aLen, aBuiltin, aBin, aInt, Nat.reduceAdd, Nat.reduceLT, Nat.reduceBEq, Nat.reduceEqDiff, Nat.reduceLeDiff, ↓reduceIte, reduceCtorEq, stpT, Rd.foot, writing, touching, Tr.empty, dynPairs, ZT, F_24, saS, k1, k2, a1, a2, hlen, hlen2, hq2]
          exact ⟨_, rfl⟩)
        (fun _ => by simp (disch := omega) only [ZF, stp, just, Rd.bind, Rd.run, Rd.opt, upds, aLen, aBuiltin, aBin, aInt, Nat.reduceBEq, Nat.reduceEqDiff, Nat.reduceLeDiff, ↓reduceIte, reduceCtorEq, ZT, F_24, saS])
      simp only [saS, cl0] at hloop
      rcases hloop with ⟨hz, hloop⟩ | ⟨hz, H, hloop⟩
      · rw [decide_eq_true ((list_ext hlm).1 hz)]
        simp (disch := omega) only [ZF, frame0, stp, just, Rd.bind, Rd.run, Rd.opt, upds, resA, resL, aLen, aBuiltin, aBin, aInt, Nat.reduceBEq, Nat.reduceEqDiff, Nat.reduceLeDiff, ↓reduceIte, reduceCtorEq, ZT, F_24, hloop, g3]
      · rw [decide_eq_false fun e => hz ((list_ext hlm).2 e)]
        simp (disch := omega) only [ZF, frame0, stp, just, Rd.bind, Rd.run, Rd.opt, upds, resA, resL, aLen, aBuiltin, aBin, aInt, Nat.reduceBEq, Nat.reduceEqDiff, Nat.reduceLeDiff, ↓reduceIte, reduceCtorEq, ZT, F_24, hloop, g3]
  · rw [decide_eq_false fun e => hlm (by rw [e])]
    have g1 : (l.length : Int) ≠ m.length := by omega
    have g2 : ((l.length : Int) != m.length) = true := by rw [bne_iff_ne]; omega
    have g3 : ¬ (l.length : Int) = m.length := by omega
    simp (disch := omega) only [ZF, frame0, stp, just, Rd.bind, Rd.run, Rd.opt, upds, resA, resL, aBuiltin, aBin, aInt, Nat.reduceBEq, Nat.reduceEqDiff, Nat.reduceLeDiff, ↓reduceIte, reduceCtorEq, F_24, la, lb, g2]
theorem same_call {d : Nat} {site : Nat → Nat} {seen : List Nat} {l m : List Int} {a b : AV} (ha : IV l a) (hb : IV m b) (hl : l.length ≤ 1000) : aBack site true seen (thaw (kF (d + 1)) 24 [a, b] [] 0) = .pure (.bool (decide (l = m)), []) :=
  aBack_bool (kF_ex rfl (same_run ha hb hl))
end Go.AM.Ytfmnoohhhokicaa
end

section
namespace Go.AM.Ytfmnoohhhokicaa
open Go Go.AM Go.AM.Rub
set_option maxRecDepth 100000
set_option maxHeartbeats 4000000
/-- The cells of a list of rows. -/
def lcs (L : List (List Int)) : List AV := L.map fun l => .imm (ics l) l.length false
theorem lcs_length (L : List (List Int)) : (lcs L).length = L.length := by simp [lcs]
theorem lcs_at {L : List (List Int)} {k : Nat} {l : List Int} (h : L[k]? = some l) : (lcs L)[k]? = some (.imm (ics l) l.length false) := by simp [lcs, h]
theorem lcs_snoc (L : List (List Int)) (l : List Int) : lcs L ++ [.imm (ics l) l.length false] = lcs (L ++ [l]) := by simp [lcs]
theorem lcs_takeA (L : List (List Int)) : (lcs L).take L.length = lcs L := List.take_of_length_le (by rw [lcs_length]; exact Nat.le_refl _)
theorem room39 {n : Nat} (h : n ≤ 1000000) : roomOk E.T 22 n = true := by
  simp only [roomOk, T_22, decide_eq_true_eq]; exact ⟨by decide, rfl, by omega⟩
theorem ohl_pos {k : Nat} {L : List (List Int)} (h : 0 < L.length) : oH k (lcs L) = [(k, ⟨.row, lcs L⟩)] := oH_ne k (by rw [lcs_length]; exact h)
/-- A list of rows as it is handed over. -/
def LV (L : List (List Int)) (a : AV) : Prop := (L = [] ∧ a = .nilsl) ∨ ∃ ex, a = .imm (lcs L) L.length ex
abbrev toS (l : List Int) (a : AV) (i : Nat) : St := ([(8, .int .i64 i), (7, .int .i64 l.length), (6, a), (3, .int .i64 (ps (rowF l) i))], [])
theorem total_run {C : Callee} {l : List Int} {a : AV} (ha : IV l a) (hl : l.length ≤ 1000) (hb : ∀ k, k < l.length → 0 ≤ rowF l k ∧ rowF l k ≤ 100000) : rsOf (bodyA E C fg 1000000 58 [a] [] 0) = some (.int .i64 (ps (rowF l) l.length)) := by
  have hps : ∀ k, k ≤ l.length → 0 ≤ ps (rowF l) k ∧ ps (rowF l) k ≤ 100000 * k := by
    intro k
    induction k with
    | zero => intro _; simp [ps]
    | succ k ih =>
      intro hk
      have := ih (by omega)
      have := hb k (by omega)
      simp only [ps]; omega
  rcases ha with ⟨rfl, rfl⟩ | ⟨ex, rfl⟩
  · have hloop := loopM0 (f := (execA E C (fg 58) 0 17 [] 1000000 c58_9)) (E0 := []) (s0 := ([(8, .int .i64 0), (7, .int .i64 0), (6, .nilsl), (3, .int .i64 0)], [])) rfl (e := .exit 0) (se := ([(9, .bool false), (8, .int .i64 0), (7, .int .i64 0), (6, .nilsl), (3, .int .i64 0)], []))
      (by simp (disch := omega) only [ZF, stp, just, Rd.bind, Rd.run, Rd.opt, upds, aBin, aInt, Nat.reduceEqDiff, Nat.reduceLeDiff, ↓reduceIte, F_58]) (by simp)
    simp (disch := omega) only [ZF, frame0, stp, just, Rd.bind, Rd.run, upds, resA, resL, aLen, aBuiltin, Nat.reduceBEq, Nat.reduceEqDiff, Nat.reduceLeDiff, ↓reduceIte, reduceCtorEq, ZT, F_58, hloop, ps]
  · have hlen := ics_length l
    have hloop := loopM (f := (execA E C (fg 58) 0 17 [] 1000000 c58_9)) (E0 := []) (toS l (.imm (ics l) l.length ex)) l.length (fun i hi => by
        have hat := icr_at hi
        have g1 : (i : Int) < l.length := by omega
        have := hps i (by omega)
        have := hb i hi
        have w : wrp .i64 (ps (rowF l) i + rowF l i) = ps (rowF l) i + rowF l i := wrp64 (by omega)
        simp (disch := omega) only [ZF, stp, just, Rd.bind, Rd.run, Rd.opt, upds, tsz, rdCells, aLoad, aIndexAddr, aNum, aBin, aInt, Nat.reduceLT, Nat.reduceBEq, Nat.reduceEqDiff, Nat.reduceLeDiff, ↓reduceIte, ZT, F_58, toS, ps, g1, hat, hlen, w, wrp_succ (show i < 1000000 by omega)]
        exact ⟨_, rfl, rfl⟩) rfl (by omega) (e := .exit 0) (se := ([(9, .bool false), (8, .int .i64 l.length), (7, .int .i64 l.length), (6, .imm (ics l) l.length ex), (3, .int .i64 (ps (rowF l) l.length))], []))
      (by simp (disch := omega) only [ZF, stp, just, Rd.bind, Rd.run, Rd.opt, upds, aBin, aInt, Nat.reduceEqDiff, Nat.reduceLeDiff, ↓reduceIte, F_58, toS]) (by simp)
    simp only [toS, cl0, ps] at hloop
    simp (disch := omega) only [ZF, frame0, stp, just, Rd.bind, Rd.run, upds, resA, resL, aLen, aBuiltin, Nat.reduceBEq, Nat.reduceEqDiff, Nat.reduceLeDiff, ↓reduceIte, reduceCtorEq, ZT, F_58, hloop]
theorem total_call {d : Nat} {site : Nat → Nat} {seen : List Nat} {l : List Int} {a : AV} (ha : IV l a) (hl : l.length ≤ 1000) (hb : ∀ k, k < l.length → 0 ≤ rowF l k ∧ rowF l k ≤ 100000) : aBack site true seen (thaw (kF (d + 1)) 58 [a] [] 0) = .pure (.int .i64 (ps (rowF l) l.length), []) :=
  aBack_int (kF_ex rfl (total_run ha hl hb))
theorem rowF_take {l : List Int} {k i : Nat} (h : i < k) : rowF (l.take k) i = rowF l i := by
  simp only [rowF, List.getD_eq_getElem?_getD, List.getElem?_take, if_pos h]
theorem totalk_call {d : Nat} {site : Nat → Nat} {seen : List Nat} {n : Nat} {l : List Int} (h : Rw n l) (hn : n ≤ 8) {k : Nat} (hk : k ≤ n) {ex : Bool} : aBack site true seen (thaw (kF (d + 1)) 58 [.imm (ics (l.take k)) k ex] [] 0) = .pure (.int .i64 (ps (rowF l) k), []) := by
  have hl : (l.take k).length = k := by rw [List.length_take, h.len]; omega
  have ha : IV (l.take k) (.imm (ics (l.take k)) k ex) := .inr ⟨ex, by rw [hl]⟩
  have := total_call (d := d) (site := site) (seen := seen) ha (by omega) (fun i hi => by rw [rowF_take (by omega)]; have := rw_b h (k := i) (by omega); omega)
  rw [hl, ps_congr k fun i hi => rowF_take hi] at this
  exact this
theorem clone_run {C : Callee} {l : List Int} {n : Nat} {ex : Bool} (hl : l.length = n) (h0 : 0 < n) (h9 : n ≤ 1000) : ∃ H, bodyA E C fg 1000000 66 [.imm (ics l) n ex] [] 0 = some (.ref 5 0 n n n 1 false, H) ∧ hget H 5 = some ⟨.row, ics l⟩ := by
  have hlen : (ics l).length = n := by rw [ics_length, hl]
  have htk : List.take n (ics l) = ics l := List.take_of_length_le (by omega)
  have hn0 : ¬ n = 0 := by omega
  have hn1 : ¬ n ≤ 0 := by omega
  simp (disch := omega) only [ZF, frame0, stp, just, Rd.bind, Rd.run, upds, zeroCells, tsz, elemT, resA, resL, fresh, aBuiltin, aBin, Nat.reduceAdd, Nat.reduceLT, Nat.reduceBEq, Nat.reduceEqDiff, Nat.reduceLeDiff, ↓reduceIte, reduceCtorEq, aBuildSlice, aBuildAt, partsOf, fillA, repC, isSliceT, aAppend, srcOf, window, snaps, ZT, F_66, aNil, srcOf, hlen, hn0, hn1, room22 (show n ≤ 1000000 by omega)]
  exact ⟨_, rfl, rfl⟩
theorem clone_call {d : Nat} {site : Nat → Nat} {seen : List Nat} {l : List Int} {n : Nat} {ex : Bool} (hl : l.length = n) (h0 : 0 < n) (h9 : n ≤ 1000) : aBack site true seen (thaw (kF (d + 1)) 66 [.imm (ics l) n ex] [] 0) =
    back1 (site 0) seen (fun k => .ref k 0 n n n 1 false) ⟨.row, ics l⟩ := by
  obtain ⟨H, h1, h2⟩ := clone_run (C := kF d) (ex := ex) hl h0 h9
  exact aBack_refc (by rw [kF_no rfl]; exact h1) h2 (by rw [ics_length, hl])
/-- A closure that tells whether a row is like another one. -/
structure PrC (C : Callee) (f : Nat) (c : AV) (p : List Int → Bool) (L : List (List Int)) : Prop where
  fi : ∃ x, fInfo E f = some x
  mt : ∀ caps args, mutV E (.clo f caps) args = none
  run : ∀ l ∈ L, ∀ (site : Nat → Nat) seen, aBack site true seen (thaw C f [.imm (ics l) l.length false, .iptr [c] 0] [] 0) = .pure (.bool (p l), [])
abbrev ixS (a : AV) (n f : Nat) (c : AV) (i : Nat) : St := ([(8, .int .i64 i), (7, .int .i64 n), (1, .clo f [.iptr [c] 0]), (0, a)], [])
def ixL (p : List Int → Bool) (L : List (List Int)) : Int := if L.findIdx p < L.length then (L.findIdx p : Int) else -1
theorem ix_run {C : Callee} {f : Nat} {c a : AV} {p : List Int → Bool} {L : List (List Int)} (hC : PrC C f c p L) (ha : LV L a) (hl : L.length ≤ 900000) :
    rsOf (bodyA E C fg 1000000 64 [a, .clo f [.iptr [c] 0]] [] 0) = some (.int .i64 (ixL p L)) := by
  obtain ⟨⟨fi, hfi⟩, hm, hr⟩ := hC
  rcases ha with ⟨rfl, rfl⟩ | ⟨ex, rfl⟩
  · have hloop := loopM0 (f := (execA E C (fg 64) 0 19 [] 1000000 c64_7)) (E0 := []) (s0 := ixS .nilsl 0 f c 0) rfl (e := .exit 0) (se := ([(9, .bool false), (8, .int .i64 0), (7, .int .i64 0), (1, .clo f [.iptr [c] 0]), (0, .nilsl)], []))
      (by simp (disch := omega) only [ZF, stp, just, Rd.bind, Rd.run, Rd.opt, upds, aBin, aInt, Nat.reduceEqDiff, Nat.reduceLeDiff, ↓reduceIte, F_64, ixS, cl0]) (by simp)
    simp only [ixS, cl0] at hloop
    have e : ixL p [] = -1 := rfl
    rw [e]
    simp (disch := omega) only [ZF, frame0, stp, just, Rd.bind, Rd.run, upds, resA, resL, aLen, aBuiltin, Nat.reduceBEq, Nat.reduceEqDiff, Nat.reduceLeDiff, Int.reduceNeg, ↓reduceIte, reduceCtorEq, ZT, F_64, hloop]
  · have hlen := lcs_length L
    have hgo : ∀ i, i < L.length → L.findIdx p > i → ∃ s', (execA E C (fg 64) 0 19 [] 1000000 c64_7) (ixS (.imm (lcs L) L.length ex) L.length f c i) = some (.normal, s') ∧ headA [] s' = ixS (.imm (lcs L) L.length ex) L.length f c (i + 1) := by
      intro i hi hp
      have hk : L[i]? = some L[i] := List.getElem?_eq_getElem hi
      have hat := lcs_at hk
      have hrr := hr L[i] (List.getElem_mem hi)
      have hno := List.not_of_lt_findIdx hp
      rw [show p L[i] = false by simpa using hno] at hrr
      have g1 : (i : Int) < L.length := by omega
      simp (disch := omega) only [ZF, stp, just, Rd.bind, Rd.run, Rd.opt, upds, tsz, rdCells, aLoad, aIndexAddr, aNum, aBin, aInt, Nat.reduceMul, Nat.reduceLT, Nat.reduceBEq, Nat.reduceEqDiff, Nat.reduceLeDiff, ↓reduceIte, reduceCtorEq, aCall, snaps, opCallV, ZT, F_64, ixS, g1, hat, hlen, callV_eq (hm _ _), hfi, hrr, wrp_succ (show i < 1000000 by omega)]
      exact ⟨_, rfl, rfl⟩
    unfold ixL
    by_cases hlt : L.findIdx p < L.length
    · rw [if_pos hlt]
      have hk : L[L.findIdx p]? = some L[L.findIdx p] := List.getElem?_eq_getElem hlt
      have hat := lcs_at hk
      have hrr := hr _ (List.getElem_mem hlt)
      rw [List.findIdx_getElem (w := hlt)] at hrr
      have hloop := loopM (f := (execA E C (fg 64) 0 19 [] 1000000 c64_7)) (E0 := []) (ixS (.imm (lcs L) L.length ex) L.length f c) (L.findIdx p) (fun i hi => hgo i (by omega) hi) rfl (by omega) (e := .ret) (se := ([(4, .int .i64 (L.findIdx p : Nat))], []))
        (by
          generalize L.findIdx p = m at *
          have g1 : (m : Int) < L.length := by omega
          simp (disch := omega) only [ZF, stp, just, Rd.bind, Rd.run, Rd.opt, upds, tsz, rdCells, aLoad, aIndexAddr, aNum, aBin, aInt, Nat.reduceMul, Nat.reduceLT, Nat.reduceBEq, Nat.reduceEqDiff, Nat.reduceLeDiff, ↓reduceIte, reduceCtorEq, aCall, snaps, opCallV, ZT, F_64, ixS, g1, hat, hlen, callV_eq (hm _ _), hfi, hrr]) (by simp)
      simp only [ixS, cl0] at hloop
      simp (disch := omega) only [ZF, frame0, stp, just, Rd.bind, Rd.run, upds, resA, resL, aLen, aBuiltin, Nat.reduceBEq, Nat.reduceEqDiff, Nat.reduceLeDiff, ↓reduceIte, reduceCtorEq, ZT, F_64, hloop]
    · rw [if_neg hlt]
      have hle := List.findIdx_le_length (xs := L) (p := p)
      have hloop := loopM (f := (execA E C (fg 64) 0 19 [] 1000000 c64_7)) (E0 := []) (ixS (.imm (lcs L) L.length ex) L.length f c) L.length (fun i hi => hgo i hi (by omega)) rfl (by omega) (e := .exit 0) (se := ([(9, .bool false), (8, .int .i64 L.length), (7, .int .i64 L.length), (1, .clo f [.iptr [c] 0]), (0, .imm (lcs L) L.length ex)], []))
        (by simp (disch := omega) only [ZF, stp, just, Rd.bind, Rd.run, Rd.opt, upds, aBin, aInt, Nat.reduceEqDiff, Nat.reduceLeDiff, ↓reduceIte, F_64, ixS]) (by simp)
      simp only [ixS, cl0] at hloop
      simp (disch := omega) only [ZF, frame0, stp, just, Rd.bind, Rd.run, upds, resA, resL, aLen, aBuiltin, Nat.reduceBEq, Nat.reduceEqDiff, Nat.reduceLeDiff, Int.reduceNeg, ↓reduceIte, reduceCtorEq, ZT, F_64, hloop]
theorem ix_call {d : Nat} {f : Nat} {c a : AV} {p : List Int → Bool} {L : List (List Int)} (hC : PrC (kF d) f c p L) (ha : LV L a) (hl : L.length ≤ 900000) {site : Nat → Nat} {seen : List Nat} :
    aBack site true seen (thaw (kF (d + 1)) 64 [a, .clo f [.iptr [c] 0]] [] 0) = .pure (.int .i64 (ixL p L), []) :=
  aBack_int (kF_ex rfl (ix_run hC ha hl))
theorem ixL_any (p : List Int → Bool) (L : List (List Int)) : decide (ixL p L ≥ 0) = L.any p := by
  unfold ixL
  by_cases h : L.findIdx p < L.length
  · rw [if_pos h, decide_eq_true (by omega)]
    rw [eq_comm, List.any_eq_true]
    exact List.findIdx_lt_length.1 h
  · rw [if_neg h, decide_eq_false (by omega), eq_comm, List.any_eq_false]
    intro x hx hp
    exact h (List.findIdx_lt_length.2 ⟨x, hx, hp⟩)
theorem con_run {d : Nat} {f : Nat} {c a : AV} {p : List Int → Bool} {L : List (List Int)} (hC : PrC (kF d) f c p L) (ha : LV L a) (hl : L.length ≤ 900000) (_ : ∀ e, snap (e + 8) c = .pure (c, [])) :
    rsOf (bodyA E (kF (d + 1)) fg 1000000 73 [a, .clo f [.iptr [c] 0]] [] 0) = some (.bool (L.any p)) := by
  have hi := fun (site : Nat → Nat) seen => ix_call (site := site) (seen := seen) hC ha hl
  have sn : ∀ e, snap (e + 1) a = .pure (a, []) := by intro e; rcases ha with ⟨_, rfl⟩ | ⟨_, rfl⟩ <;> rfl
  generalize kF (d + 1) = C at *
  rw [← ixL_any]
  generalize ixL p L = z at *
  simp (disch := omega) only [ZF, frame0, stp, just, Rd.bind, Rd.run, Rd.opt, upds, resA, resL, aBin, aInt, Nat.reduceBEq, Nat.reduceEqDiff, Nat.reduceLeDiff, ↓reduceIte, reduceCtorEq, aCall, snaps, F_73, hi, sn]
theorem con_call {d : Nat} {f : Nat} {c a : AV} {p : List Int → Bool} {L : List (List Int)} (hC : PrC (kF d) f c p L) (ha : LV L a) (hl : L.length ≤ 900000) (hs : ∀ e, snap (e + 8) c = .pure (c, [])) {site : Nat → Nat} {seen : List Nat} :
    aBack site true seen (thaw (kF (d + 2)) 73 [a, .clo f [.iptr [c] 0]] [] 0) = .pure (.bool (L.any p), []) :=
  aBack_bool (kF_ex rfl (con_run hC ha hl hs))
end Go.AM.Ytfmnoohhhokicaa
end

section
namespace Go.AM.Rub
set_option maxRecDepth 100000
/-- One row more, if it is not there. -/
def ad (out : List (List Int)) (l : List Int) : List (List Int) := if l ∈ out then out else out ++ [l]
end Go.AM.Rub
end

section
namespace Go.AM.Ytfmnoohhhokicaa
open Go Go.AM Go.AM.Rub
set_option maxRecDepth 100000
set_option maxHeartbeats 8000000
theorem ocvL (k : Nat) (L : List (List Int)) : (L = [] ∧ oV k 1 L.length = .nilsl ∧ oH k (lcs L) = []) ∨ (0 < L.length ∧ oV k 1 L.length = .ref k 0 L.length L.length L.length 1 false ∧ oH k (lcs L) = [(k, ⟨.row, lcs L⟩)]) := by
  cases L with
  | nil => exact .inl ⟨rfl, rfl, rfl⟩
  | cons x L => exact .inr ⟨by simp, ov_pos (by simp), ohl_pos (by simp)⟩
end Go.AM.Ytfmnoohhhokicaa
end

section
namespace Go.AM.Rub
set_option maxRecDepth 100000
/-- All rows of m more numbers behind l, none above 'most', of what is left. -/
def fuR (l : List Int) (m : Nat) (left most : Int) : List (List Int) := (rowsL m left most).map (l ++ ·)
theorem fuR_zero (l : List Int) (left most : Int) : fuR l 0 left most = if left = 0 then [l] else [] := by
  unfold fuR
  simp only [rowsL]
  split <;> simp
theorem fuR_nil (m : Nat) (left most : Int) : fuR [] m left most = rowsL m left most := by
  unfold fuR; simp
theorem fuR_succ (l : List Int) (m : Nat) (left most : Int) : fuR l (m + 1) left most = (dn (min most left)).flatMap fun t => fuR (l ++ [t]) m (left - t) t := by
  unfold fuR
  simp only [rowsL, List.map_flatMap, List.map_map]
  congr 1
  funext t
  congr 1
  funext r
  simp
/-- .. by the first j numbers, from the greatest one down. -/
def fuP (l : List Int) (m : Nat) (left : Int) (m0 : Nat) (j : Nat) : List (List Int) := (List.range j).flatMap fun (i : Nat) => fuR (l ++ [((m0 : Int) - i)]) m (left - ((m0 : Int) - i)) ((m0 : Int) - i)
theorem fuP_snoc (l : List Int) (m : Nat) (left : Int) (m0 j : Nat) : fuP l m left m0 (j + 1) = fuP l m left m0 j ++ fuR (l ++ [((m0 : Int) - j)]) m (left - ((m0 : Int) - j)) ((m0 : Int) - j) := by
  unfold fuP
  rw [List.range_succ, List.flatMap_append]
  simp
theorem dnN_range : ∀ n : Nat, dnN n = (List.range (n + 1)).map fun (i : Nat) => (n : Int) - i
  | 0 => rfl
  | n + 1 => by
    have h : List.range (n + 1 + 1) = 0 :: (List.range (n + 1)).map Nat.succ := List.range_succ_eq_map
    rw [dnN, dnN_range n, h, List.map_cons, List.map_map]
    congr 1
    apply List.map_congr_left
    intro a _
    simp only [Function.comp_apply]
    omega
theorem fuP_all (l : List Int) (m : Nat) {left most : Int} {m0 : Nat} (h : min most left = m0) : fuP l m left m0 (m0 + 1) = fuR l (m + 1) left most := by
  rw [fuR_succ, h]
  unfold fuP dn
  rw [if_neg (by omega), Int.toNat_natCast, dnN_range, List.flatMap_map]
theorem fuR_len (l : List Int) (m : Nat) (left most : Int) (h : most ≤ 8) : (fuR l m left most).length ≤ 9 ^ m := by
  unfold fuR
  rw [List.length_map]
  exact rowsL_len m left most h
theorem fuP_len (l : List Int) (m : Nat) (left : Int) (m0 : Nat) (h : m0 ≤ 8) : ∀ j, j ≤ m0 + 1 → (fuP l m left m0 j).length ≤ j * 9 ^ m
  | 0, _ => by simp [fuP]
  | j + 1, hj => by
    have ih := fuP_len l m left m0 h j (by omega)
    have := fuR_len (l ++ [((m0 : Int) - j)]) m (left - ((m0 : Int) - j)) ((m0 : Int) - j) (by omega)
    rw [fuP_snoc, List.length_append, Nat.succ_mul]
    omega
end Go.AM.Rub
end

section
namespace Go.AM.Rub
set_option maxRecDepth 100000
/-- How many numbers from t down are tried: as long as the rest has room. -/
def cntE (left : Int) (m : Nat) : Nat → Int → Nat
  | 0, _ => 0
  | f + 1, t => if t * (m : Int) ≥ left ∧ t ≥ 0 then cntE left m f (t - 1) + 1 else 0
theorem cntE_spec (left : Int) (m : Nat) : ∀ (f : Nat) (t : Int), t < f → (∀ j : Nat, j < cntE left m f t → (t - j) * (m : Int) ≥ left ∧ t - j ≥ 0) ∧ ¬ ((t - cntE left m f t) * (m : Int) ≥ left ∧ t - cntE left m f t ≥ 0)
  | 0, t, h => by
    refine ⟨fun j hj => by simp [cntE] at hj, ?_⟩
    simp only [cntE]
    intro hh
    omega
  | f + 1, t, h => by
    simp only [cntE]
    split
    · rename_i hc
      obtain ⟨h1, h2⟩ := cntE_spec left m f (t - 1) (by omega)
      have e : ∀ c : Nat, t - ((c + 1 : Nat) : Int) = t - 1 - (c : Int) := fun c => by omega
      refine ⟨fun j hj => ?_, ?_⟩
      · cases j with
        | zero => simpa using hc
        | succ j =>
          have := h1 j (by omega)
          rw [← e] at this
          exact this
      · rw [← e] at h2; exact h2
    · rename_i hc
      refine ⟨fun j hj => absurd hj (by omega), ?_⟩
      simpa using hc
/-- All rows behind l: m more numbers; x: the rises that may not be exceeded. -/
def eaR (x : Nat → Int) (n : Nat) : Nat → List Int → Int → Int → List (List Int)
  | 0, l, _, _ => [l]
  | m + 1, l, sum, most => (List.range (cntE (x n - sum) (m + 1) 100 (min most (x (l.length + 1) - sum)))).flatMap fun (i : Nat) =>
      eaR x n m (l ++ [min most (x (l.length + 1) - sum) - i]) (sum + (min most (x (l.length + 1) - sum) - i)) (min most (x (l.length + 1) - sum) - i)
/-- .. by the first j numbers. -/
def eaP (x : Nat → Int) (n m : Nat) (l : List Int) (sum t0 : Int) (j : Nat) : List (List Int) := (List.range j).flatMap fun (i : Nat) => eaR x n m (l ++ [t0 - i]) (sum + (t0 - i)) (t0 - i)
theorem eaP_snoc (x : Nat → Int) (n m : Nat) (l : List Int) (sum t0 : Int) (j : Nat) : eaP x n m l sum t0 (j + 1) = eaP x n m l sum t0 j ++ eaR x n m (l ++ [t0 - j]) (sum + (t0 - j)) (t0 - j) := by
  unfold eaP
  rw [List.range_succ, List.flatMap_append]
  simp
theorem eaR_succ (x : Nat → Int) (n m : Nat) (l : List Int) (sum most : Int) : eaR x n (m + 1) l sum most = eaP x n m l sum (min most (x (l.length + 1) - sum)) (cntE (x n - sum) (m + 1) 100 (min most (x (l.length + 1) - sum))) := rfl
theorem cntE_le (left : Int) (m : Nat) : ∀ (f : Nat) (t : Int), t ≤ 8 → cntE left m f t ≤ 9
  | 0, t, _ => by simp [cntE]
  | f + 1, t, h => by
    have key : ∀ (f : Nat) (t : Int) (c : Nat), t + 1 ≤ c → cntE left m f t ≤ c := by
      intro f
      induction f with
      | zero => intro t c _; simp [cntE]
      | succ f ih =>
        intro t c hc
        simp only [cntE]
        split
        · rename_i hh
          have := ih (t - 1) (c - 1) (by omega)
          omega
        · omega
    exact key (f + 1) t 9 (by omega)
theorem eaR_len (x : Nat → Int) (n : Nat) : ∀ (m : Nat) (l : List Int) (sum most : Int), most ≤ 8 → (eaR x n m l sum most).length ≤ 9 ^ m
  | 0, l, _, _, _ => by simp [eaR]
  | m + 1, l, sum, most, h => by
    rw [eaR_succ]
    have hc := cntE_le (x n - sum) (m + 1) 100 (min most (x (l.length + 1) - sum)) (by omega)
    have key : ∀ j, (eaP x n m l sum (min most (x (l.length + 1) - sum)) j).length ≤ j * 9 ^ m := by
      intro j
      induction j with
      | zero => simp [eaP]
      | succ j ih =>
        rw [eaP_snoc, List.length_append, Nat.succ_mul]
        have := eaR_len x n m (l ++ [min most (x (l.length + 1) - sum) - j]) (sum + (min most (x (l.length + 1) - sum) - j)) (min most (x (l.length + 1) - sum) - j) (by omega)
        omega
    have := key (cntE (x n - sum) (m + 1) 100 (min most (x (l.length + 1) - sum)))
    have h2 := Nat.mul_le_mul_right (9 ^ m) hc
    rw [Nat.pow_succ, Nat.mul_comm (9 ^ m)]
    omega
theorem eaP_len (x : Nat → Int) (n m : Nat) (l : List Int) (sum t0 : Int) (h : t0 ≤ 8) : ∀ j, (eaP x n m l sum t0 j).length ≤ j * 9 ^ m
  | 0 => by simp [eaP]
  | j + 1 => by
    have ih := eaP_len x n m l sum t0 h j
    rw [eaP_snoc, List.length_append, Nat.succ_mul]
    have := eaR_len x n m (l ++ [t0 - j]) (sum + (t0 - j)) (t0 - j) (by omega)
    omega
end Go.AM.Rub
end

section
namespace Go.AM.Ytfmnoohhhokicaa
open Go Go.AM Go.AM.Rub
set_option maxRecDepth 100000
set_option maxHeartbeats 8000000
theorem vis_a {d : Nat} {l : List Int} {k : Nat} (hl : l.length = k) (h0 : 0 < k) (h9 : k ≤ 100) : pF (d + 2) 93 [.ref 0 0 k k k 1 false, .ptr 1 0 1] [(0, ⟨.row, ics l⟩), (1, ⟨.box, [.nilsl]⟩)] 64 =
    some (.tup [], [(0, ⟨.froz, ics l⟩), (1, ⟨.box, [.ref 71 0 1 1 1 1 false]⟩), (69, ⟨.froz, ics l⟩), (70, ⟨.row, [.imm (ics l) k false]⟩), (71, ⟨.row, [.imm (ics l) k false]⟩)]) := by
  rw [pF_s]
  have hlen : (ics l).length = k := by rw [ics_length, hl]
  have htk : List.take k (ics l) = ics l := List.take_of_length_le (by omega)
  have hcl := fun (site : Nat → Nat) seen x => clone_call (d := d) (site := site) (seen := seen) (ex := x) hl h0 (by omega)
  generalize kF (d + 1) = C at *
  simp (disch := omega) only [ZF, frame0, just, Rd.bind, Rd.run, Rd.opt, upds, acells, zeroCells, tsz, elemT, rdCells, aLoad, aStore, opStore, resA, resL, fresh, aBuiltin, putC, evO, Nat.reduceAdd, Nat.reduceLT, Nat.reduceBEq, Nat.reduceEqDiff, Nat.reduceLeDiff, ↓reduceIte, reduceCtorEq, stpT, Rd.foot, writing, touching, Tr.empty, dynPairs, apartT, disj, aBuildSlice, aBuildAt, partsOf, fillA, repC, isSliceT, aAppend, srcOf, window, aCall, snaps, ZT, F_93, hlen, htk, hcl, room39 (show 1 ≤ 1000000 by omega)]
theorem vis_b {d : Nat} {l : List Int} {k : Nat} (hl : l.length = k) (h0 : 0 < k) (h9 : k ≤ 100) {A : List AV} {m : Nat} (hA : A.length = m) (hm : m + 1 ≤ 1000000) : pF (d + 2) 93 [.ref 0 0 k k k 1 false, .ptr 1 0 1] [(0, ⟨.row, ics l⟩), (1, ⟨.box, [.ref 2 0 m m m 1 false]⟩), (2, ⟨.row, A⟩)] 64 =
    some (.tup [], [(0, ⟨.froz, ics l⟩), (1, ⟨.box, [.ref 2 0 (m + 1) (m + 1) (m + 1) 1 false]⟩), (2, ⟨.row, A ++ [.imm (ics l) k false]⟩), (69, ⟨.froz, ics l⟩), (70, ⟨.row, [.imm (ics l) k false]⟩)]) := by
  rw [pF_s]
  have hlen : (ics l).length = k := by rw [ics_length, hl]
  have htk : List.take k (ics l) = ics l := List.take_of_length_le (by omega)
  have hta : List.take m A = A := List.take_of_length_le (by omega)
  have hno : ¬ m + 1 ≤ m := by omega
  have hcl := fun (site : Nat → Nat) seen x => clone_call (d := d) (site := site) (seen := seen) (ex := x) hl h0 (by omega)
  generalize kF (d + 1) = C at *
  simp (disch := omega) only [ZF, frame0, just, Rd.bind, Rd.run, Rd.opt, upds, acells, zeroCells, tsz, elemT, rdCells, aLoad, aStore, opStore, resA, resL, fresh, aBuiltin, putC, evO, Nat.reduceAdd, Nat.reduceLT, Nat.reduceBEq, Nat.reduceEqDiff, Nat.reduceLeDiff, ↓reduceIte, reduceCtorEq, stpT, Rd.foot, writing, touching, Tr.empty, dynPairs, apartT, disj, aBuildSlice, aBuildAt, partsOf, fillA, repC, isSliceT, aAppend, srcOf, window, aCall, snaps, ZT, F_93, hlen, htk, hta, hA, hno, hcl, room39 hm]
/-- What the closure and the visitor are. -/
abbrev vB (p : Nat) : AV := .clo 93 [.ptr p 0 1]
abbrev puK (i j k q : Nat) : AV := .clo 116 [.ptr i 0 1, .ptr j 0 1, .ptr k 0 1, .ptr q 0 1]
abbrev ehA (l : List Int) (X : List AV) (n : Nat) : AHeap := [(0, ⟨.row, ics l⟩), (1, ⟨.box, [.int .i64 n]⟩), (2, ⟨.box, [vB 3]⟩), (3, ⟨.box, [.nilsl]⟩), (4, ⟨.box, [.ref 5 0 (n + 1) (n + 1) (n + 1) 1 false]⟩), (5, ⟨.row, X⟩), (6, ⟨.box, [puK 1 2 4 6]⟩)]
abbrev ehB (l : List Int) (X : List AV) (n : Nat) (L : List (List Int)) : AHeap := [(0, ⟨.row, ics l⟩), (1, ⟨.box, [.int .i64 n]⟩), (2, ⟨.box, [vB 3]⟩), (3, ⟨.box, [.ref 4 0 L.length L.length L.length 1 false]⟩), (4, ⟨.row, lcs L⟩), (5, ⟨.box, [.ref 6 0 (n + 1) (n + 1) (n + 1) 1 false]⟩), (6, ⟨.row, X⟩), (7, ⟨.box, [puK 1 2 5 7]⟩)]
/-- The visitor as the closure sees it. -/
theorem vis_callA {d : Nat} {l : List Int} {X : List AV} {k n : Nat} (hl : l.length = k) (h0 : 0 < k) (h9 : k ≤ 100) : kF (d + 2) 93 [.ref 0 0 k k k 1 false, .ptr 3 0 1] (ehA l X n) 560 =
    some (.tup [], [(0, ⟨.froz, ics l⟩), (1, ⟨.box, [.int .i64 n]⟩), (2, ⟨.box, [vB 3]⟩), (3, ⟨.box, [.ref 560 0 1 1 1 1 false]⟩), (4, ⟨.box, [.ref 5 0 (n + 1) (n + 1) (n + 1) 1 false]⟩), (5, ⟨.row, X⟩), (6, ⟨.box, [puK 1 2 4 6]⟩), (560, ⟨.row, [.imm (ics l) k false]⟩)]) := by
  have hp := vis_a (d := d) hl h0 h9
  rw [kF_fr rfl]
  have hks : (mark (ehA l X n) 1000 (refsL [.ref 0 0 k k k 1 false, .ptr 3 0 1]) []).reverse = [0, 3] := rfl
  have hap : AM.apart [0, 3] = true := rfl
  have e1 : renL (posF [0, 3] 0) [.ref 0 0 k k k 1 false, .ptr 3 0 1] = some [.ref 0 0 k k k 1 false, .ptr 1 0 1] := rfl
  have e2 : foc (posF [0, 3] 0) (ehA l X n) 0 [0, 3] = some [(0, ⟨.row, ics l⟩), (1, ⟨.box, [.nilsl]⟩)] := rfl
  have hn : newsF [(0, ⟨.froz, ics l⟩), (1, ⟨.box, [.ref 71 0 1 1 1 1 false]⟩), (69, ⟨.froz, ics l⟩), (70, ⟨.row, [.imm (ics l) k false]⟩), (71, ⟨.row, [.imm (ics l) k false]⟩)] (.tup []) 2 = [71] := rfl
  have hl2 : ([0, 3] : List Nat).length = 2 := rfl
  have er : List.range 2 = [0, 1] := rfl
  rw [hks]
  unfold focus
  rw [if_pos hap]
  have hbase : baseF (ehA l X n) 1 8 560 = some 560 := rfl
  simp only [e1, e2, hp, backF, hl2, hn, er]
  simp only [List.length_cons, List.length_nil, Nat.zero_add, hbase, AM.apart, List.elem_nil, Bool.not_false, Bool.and_self, if_true, if_false, List.cons_append, List.nil_append, ren, renL, unf, outF, posF, List.getElem?_cons_zero, List.getElem?_cons_succ, Nat.reduceLT, goodB, BS.open_, Bool.true_or, Bool.false_or, ehA, hget_cons', decide_true, renB, hl2, upds, hset_cons', hset_nil', Nat.reduceEqDiff, Nat.reduceLeDiff, Nat.add_zero, reduceCtorEq]
theorem vis_callB {d : Nat} {l : List Int} {X : List AV} {k n : Nat} {L : List (List Int)} (hl : l.length = k) (h0 : 0 < k) (h9 : k ≤ 100) (hL : L.length + 1 ≤ 1000000) : kF (d + 2) 93 [.ref 0 0 k k k 1 false, .ptr 3 0 1] (ehB l X n L) 560 =
    some (.tup [], [(0, ⟨.froz, ics l⟩), (1, ⟨.box, [.int .i64 n]⟩), (2, ⟨.box, [vB 3]⟩), (3, ⟨.box, [.ref 4 0 (L.length + 1) (L.length + 1) (L.length + 1) 1 false]⟩), (4, ⟨.row, lcs L ++ [.imm (ics l) k false]⟩), (5, ⟨.box, [.ref 6 0 (n + 1) (n + 1) (n + 1) 1 false]⟩), (6, ⟨.row, X⟩), (7, ⟨.box, [puK 1 2 5 7]⟩)]) := by
  have hp := vis_b (d := d) hl h0 h9 (lcs_length L) hL
  rw [kF_fr rfl]
  have hks : (mark (ehB l X n L) 1000 (refsL [.ref 0 0 k k k 1 false, .ptr 3 0 1]) []).reverse = [0, 3, 4] := rfl
  have hap : AM.apart [0, 3, 4] = true := rfl
  have e1 : renL (posF [0, 3, 4] 0) [.ref 0 0 k k k 1 false, .ptr 3 0 1] = some [.ref 0 0 k k k 1 false, .ptr 1 0 1] := rfl
  have e2 : foc (posF [0, 3, 4] 0) (ehB l X n L) 0 [0, 3, 4] = some [(0, ⟨.row, ics l⟩), (1, ⟨.box, [.ref 2 0 L.length L.length L.length 1 false]⟩), (2, ⟨.row, lcs L⟩)] := rfl
  have hl2 : ([0, 3, 4] : List Nat).length = 3 := rfl
  have er : List.range 3 = [0, 1, 2] := rfl
  rw [hks]
  unfold focus
  rw [if_pos hap]
  generalize lcs L = A at *
  generalize L.length = m at *
  have hn : newsF [(0, ⟨.froz, ics l⟩), (1, ⟨.box, [.ref 2 0 (m + 1) (m + 1) (m + 1) 1 false]⟩), (2, ⟨.row, A ++ [.imm (ics l) k false]⟩), (69, ⟨.froz, ics l⟩), (70, ⟨.row, [.imm (ics l) k false]⟩)] (.tup []) 3 = [] := rfl
  simp only [e1, e2, hp, backF, hl2, hn, er]
  simp only [List.length_nil, baseF, freeL, AM.apart, if_true, if_false, List.append_nil, ren, renL, unf, outF, posF, List.getElem?_cons_zero, List.getElem?_cons_succ, Nat.reduceLT, goodB, BS.open_, Bool.true_or, Bool.false_or, ehB, hget_cons', decide_true, Bool.and_self, renB, hl2, upds, hset_cons', hset_nil', Nat.reduceEqDiff, Nat.reduceLeDiff, Nat.reduceAdd, reduceCtorEq]
end Go.AM.Ytfmnoohhhokicaa
end

section
namespace Go.AM.Ytfmnoohhhokicaa
open Go Go.AM Go.AM.Rub
set_option maxRecDepth 100000
set_option maxHeartbeats 8000000
/-- What it leaves. -/
structure EaA (l xs : List Int) (n : Nat) (new : List (List Int)) (H : AHeap) (id : Nat) (st : BS) : Prop where
  h0 : hget H 0 = some ⟨st, ics l⟩
  st : st = .row ∨ st = .froz
  h1 : hget H 1 = some ⟨.box, [.int .i64 n]⟩
  h2 : hget H 2 = some ⟨.box, [vB 3]⟩
  h3 : hget H 3 = some ⟨.box, [oV id 1 new.length]⟩
  h4 : hget H 4 = some ⟨.box, [.ref 5 0 (n + 1) (n + 1) (n + 1) 1 false]⟩
  h5 : hget H 5 = some ⟨.row, ics xs⟩
  h6 : hget H 6 = some ⟨.box, [puK 1 2 4 6]⟩
  id7 : 7 ≤ id
  hr : 0 < new.length → hget H id = some ⟨.row, lcs new⟩
structure EaB (l xs : List Int) (n : Nat) (L : List (List Int)) (H : AHeap) (st : BS) : Prop where
  h0 : hget H 0 = some ⟨st, ics l⟩
  st : st = .row ∨ st = .froz
  h1 : hget H 1 = some ⟨.box, [.int .i64 n]⟩
  h2 : hget H 2 = some ⟨.box, [vB 3]⟩
  h3 : hget H 3 = some ⟨.box, [.ref 4 0 L.length L.length L.length 1 false]⟩
  h4 : hget H 4 = some ⟨.row, lcs L⟩
  h5 : hget H 5 = some ⟨.box, [.ref 6 0 (n + 1) (n + 1) (n + 1) 1 false]⟩
  h6 : hget H 6 = some ⟨.row, ics xs⟩
  h7 : hget H 7 = some ⟨.box, [puK 1 2 5 7]⟩
/-- What a call does. -/
structure EaC (d : Nat) (l xs : List Int) (x : Nat → Int) (n k m : Nat) (sum most : Int) : Prop where
  a : ∃ H id st, pF d 116 [.ref 0 0 k k k 1 false, .int .i64 sum, .int .i64 most, .ptr 1 0 1, .ptr 2 0 1, .ptr 4 0 1, .ptr 6 0 1] (ehA l (ics xs) n) 64 = some (.tup [], H) ∧ EaA l xs n (eaR x n m l sum most) H id st
  b : ∀ L : List (List Int), 0 < L.length → L.length + 9 ^ m ≤ 900000 → ∃ H st, pF d 116 [.ref 0 0 k k k 1 false, .int .i64 sum, .int .i64 most, .ptr 1 0 1, .ptr 2 0 1, .ptr 5 0 1, .ptr 7 0 1] (ehB l (ics xs) n L) 64 = some (.tup [], H) ∧ EaB l xs n (L ++ eaR x n m l sum most) H st
theorem newsEA {l xs : List Int} {n : Nat} {new : List (List Int)} {H : AHeap} {id : Nat} {st : BS} (h : EaA l xs n new H id st) : newsF H (.tup []) 7 = if new = [] then [] else [id] := by
  obtain ⟨h0, hs, h1, h2, h3, h4, h5, h6, hi, hr⟩ := h
  have e : refsOf (.tup []) ++ List.range 7 = [0, 1, 2, 3, 4, 5, 6] := rfl
  unfold newsF
  rw [e]
  cases hn : new with
  | nil =>
    subst hn
    rw [if_pos rfl]
    have hv : oV id 1 ([] : List (List Int)).length = .nilsl := rfl
    rw [hv] at h3
    rcases hs with rfl | rfl <;> simp [mark, h0, h1, h2, h3, h4, h5, h6, refsL, refsOf]
  | cons x xs =>
    rw [← hn]
    have hp : 0 < new.length := by rw [hn]; simp
    rw [if_neg (by rw [hn]; simp)]
    rw [ov_pos hp] at h3
    have hr := hr hp
    have c : ∀ j, j < 7 → (id == j) = false := fun j hj => by rw [beq_eq_false_iff_ne]; omega
    have c' : ∀ j, j < 7 → (j == id) = false := fun j hj => by rw [beq_eq_false_iff_ne]; omega
    have g : ∀ j, j < 7 → ¬ id = j := fun j hj => by omega
    have g' : ∀ j, j < 7 → ¬ j = id := fun j hj => by omega
    have c4 : ¬ id < 7 := by omega
    rcases hs with rfl | rfl <;> simp (disch := omega) [mark, h0, h1, h2, h3, h4, h5, h6, hr, refsL, refsOf, g, g', List.filter_cons, hi]
theorem newsEB {l xs : List Int} {n : Nat} {L : List (List Int)} {H : AHeap} {st : BS} (h : EaB l xs n L H st) : newsF H (.tup []) 8 = [] := by
  obtain ⟨h0, hs, h1, h2, h3, h4, h5, h6, h7⟩ := h
  have e : refsOf (.tup []) ++ List.range 8 = [0, 1, 2, 3, 4, 5, 6, 7] := rfl
  unfold newsF
  rw [e]
  rcases hs with rfl | rfl <;> simp [mark, h0, h1, h2, h3, h4, h5, h6, h7, refsL, refsOf]
end Go.AM.Ytfmnoohhhokicaa
end

section
namespace Go.AM.Ytfmnoohhhokicaa
open Go Go.AM Go.AM.Rub
set_option maxRecDepth 100000
set_option maxHeartbeats 8000000
section
variable {d : Nat} {l l' xs : List Int} {x : Nat → Int} {n k m : Nat} {sum most : Int} {c : List AV}
theorem ea_callA0 (hC : EaC d l' xs x n k m sum most) : ∃ st, kF d 116 [.ref 120 0 k k k 1 false, .int .i64 sum, .int .i64 most, .ptr 1 0 1, .ptr 2 0 1, .ptr 4 0 1, .ptr 6 0 1]
      [(0, ⟨.row, ics l⟩), (1, ⟨.box, [.int .i64 n]⟩), (2, ⟨.box, [vB 3]⟩), (3, ⟨.box, [.nilsl]⟩), (4, ⟨.box, [.ref 5 0 (n + 1) (n + 1) (n + 1) 1 false]⟩), (5, ⟨.row, ics xs⟩), (6, ⟨.box, [puK 1 2 4 6]⟩), (119, ⟨.row, c⟩), (120, ⟨.row, ics l'⟩)] 560 =
    some (.tup [], (0, ⟨.row, ics l⟩) :: (1, ⟨.box, [.int .i64 n]⟩) :: (2, ⟨.box, [vB 3]⟩) :: (3, ⟨.box, [oV 560 1 (eaR x n m l' sum most).length]⟩) :: (4, ⟨.box, [.ref 5 0 (n + 1) (n + 1) (n + 1) 1 false]⟩) :: (5, ⟨.row, ics xs⟩) :: (6, ⟨.box, [puK 1 2 4 6]⟩) :: (119, ⟨.row, c⟩) :: (120, ⟨st, ics l'⟩) :: oH 560 (lcs (eaR x n m l' sum most))) := by
  obtain ⟨H, id, st, hp, ro⟩ := hC.a
  refine ⟨st, ?_⟩
  rw [kF_fr rfl]
  have hks : (mark [(0, ⟨.row, ics l⟩), (1, ⟨.box, [.int .i64 n]⟩), (2, ⟨.box, [vB 3]⟩), (3, ⟨.box, [.nilsl]⟩), (4, ⟨.box, [.ref 5 0 (n + 1) (n + 1) (n + 1) 1 false]⟩), (5, ⟨.row, ics xs⟩), (6, ⟨.box, [puK 1 2 4 6]⟩), (119, ⟨.row, c⟩), (120, ⟨.row, ics l'⟩)] 1000 (refsL [.ref 120 0 k k k 1 false, .int .i64 sum, .int .i64 most, .ptr 1 0 1, .ptr 2 0 1, .ptr 4 0 1, .ptr 6 0 1]) []).reverse = [120, 1, 2, 3, 4, 5, 6] := rfl
  have hap : AM.apart [120, 1, 2, 3, 4, 5, 6] = true := rfl
  have e1 : renL (posF [120, 1, 2, 3, 4, 5, 6] 0) [.ref 120 0 k k k 1 false, .int .i64 sum, .int .i64 most, .ptr 1 0 1, .ptr 2 0 1, .ptr 4 0 1, .ptr 6 0 1] = some [.ref 0 0 k k k 1 false, .int .i64 sum, .int .i64 most, .ptr 1 0 1, .ptr 2 0 1, .ptr 4 0 1, .ptr 6 0 1] := rfl
  have e2 : foc (posF [120, 1, 2, 3, 4, 5, 6] 0) [(0, ⟨.row, ics l⟩), (1, ⟨.box, [.int .i64 n]⟩), (2, ⟨.box, [vB 3]⟩), (3, ⟨.box, [.nilsl]⟩), (4, ⟨.box, [.ref 5 0 (n + 1) (n + 1) (n + 1) 1 false]⟩), (5, ⟨.row, ics xs⟩), (6, ⟨.box, [puK 1 2 4 6]⟩), (119, ⟨.row, c⟩), (120, ⟨.row, ics l'⟩)] 0 [120, 1, 2, 3, 4, 5, 6] = some (ehA l' (ics xs) n) := rfl
  have hn := newsEA ro
  obtain ⟨h0, hs, h1, h2, h3, h4, h5, h6, hi, hr⟩ := ro
  have hl7 : ([120, 1, 2, 3, 4, 5, 6] : List Nat).length = 7 := rfl
  have er : List.range 7 = [0, 1, 2, 3, 4, 5, 6] := rfl
  rw [hks]
  unfold focus
  rw [if_pos hap]
  simp only [e1, e2, hp, backF, hl7, hn, er]
  rcases ocvL 560 (eaR x n m l' sum most) with ⟨hn0, o1, o2⟩ | ⟨hp0, o1, o2⟩
  · rw [o1, o2]
    rw [hn0] at h3
    have hv : oV id 1 ([] : List (List Int)).length = .nilsl := rfl
    rw [hv] at h3
    rcases hs with rfl | rfl <;>
    simp only [hn0, if_true, List.length_nil, baseF, freeL, List.append_nil, AM.apart, ren, renL, unf, outF, posF, h0, h1, h2, h3, h4, h5, h6, List.getElem?_cons_zero, List.getElem?_cons_succ, Nat.reduceLT, goodB, BS.open_, Bool.true_or, Bool.false_or, ehA, hget_cons', decide_true, Bool.and_self, renB, hl7, upds, hset_cons', hset_nil', Nat.reduceEqDiff, Nat.reduceLeDiff, if_true, if_false, Nat.reduceAdd, reduceCtorEq]
  · rw [o1, o2]
    rw [ov_pos hp0] at h3
    have hr := hr hp0
    have hne : ¬ eaR x n m l' sum most = [] := fun e => by rw [e] at hp0; simp at hp0
    have c7 : ¬ id < 7 := by omega
    have hbase : baseF [(0, ⟨.row, ics l⟩), (1, ⟨.box, [.int .i64 n]⟩), (2, ⟨.box, [vB 3]⟩), (3, ⟨.box, [.nilsl]⟩), (4, ⟨.box, [.ref 5 0 (n + 1) (n + 1) (n + 1) 1 false]⟩), (5, ⟨.row, ics xs⟩), (6, ⟨.box, [puK 1 2 4 6]⟩), (119, ⟨.row, c⟩), (120, ⟨.row, ics l'⟩)] 1 8 560 = some 560 := rfl
    rcases hs with rfl | rfl <;>
    simp only [hne, List.length_cons, List.length_nil, Nat.zero_add, hbase, List.elem_nil, Bool.not_false, List.cons_append, List.nil_append, hr, c7, Nat.add_zero, AM.apart, ren, renL, unf, outF, posF, h0, h1, h2, h3, h4, h5, h6, List.getElem?_cons_zero, List.getElem?_cons_succ, Nat.reduceLT, goodB, BS.open_, Bool.true_or, Bool.false_or, ehA, hget_cons', decide_true, Bool.and_self, renB, hl7, upds, hset_cons', hset_nil', Nat.reduceEqDiff, Nat.reduceLeDiff, if_true, if_false, reduceCtorEq]
theorem ea_callA1 (hC : EaC d l' xs x n k m sum most) {L : List (List Int)} (h0 : 0 < L.length) (h8 : L.length + 9 ^ m ≤ 900000) : ∃ st, kF d 116 [.ref 120 0 k k k 1 false, .int .i64 sum, .int .i64 most, .ptr 1 0 1, .ptr 2 0 1, .ptr 4 0 1, .ptr 6 0 1]
      [(0, ⟨.row, ics l⟩), (1, ⟨.box, [.int .i64 n]⟩), (2, ⟨.box, [vB 3]⟩), (3, ⟨.box, [.ref 560 0 L.length L.length L.length 1 false]⟩), (4, ⟨.box, [.ref 5 0 (n + 1) (n + 1) (n + 1) 1 false]⟩), (5, ⟨.row, ics xs⟩), (6, ⟨.box, [puK 1 2 4 6]⟩), (119, ⟨.row, c⟩), (120, ⟨.row, ics l'⟩), (560, ⟨.row, lcs L⟩)] 560 =
    some (.tup [], [(0, ⟨.row, ics l⟩), (1, ⟨.box, [.int .i64 n]⟩), (2, ⟨.box, [vB 3]⟩), (3, ⟨.box, [.ref 560 0 (L ++ eaR x n m l' sum most).length (L ++ eaR x n m l' sum most).length (L ++ eaR x n m l' sum most).length 1 false]⟩), (4, ⟨.box, [.ref 5 0 (n + 1) (n + 1) (n + 1) 1 false]⟩), (5, ⟨.row, ics xs⟩), (6, ⟨.box, [puK 1 2 4 6]⟩), (119, ⟨.row, c⟩), (120, ⟨st, ics l'⟩), (560, ⟨.row, lcs (L ++ eaR x n m l' sum most)⟩)]) := by
  obtain ⟨H, st, hp, ro⟩ := hC.b L h0 h8
  refine ⟨st, ?_⟩
  rw [kF_fr rfl]
  have hks : (mark [(0, ⟨.row, ics l⟩), (1, ⟨.box, [.int .i64 n]⟩), (2, ⟨.box, [vB 3]⟩), (3, ⟨.box, [.ref 560 0 L.length L.length L.length 1 false]⟩), (4, ⟨.box, [.ref 5 0 (n + 1) (n + 1) (n + 1) 1 false]⟩), (5, ⟨.row, ics xs⟩), (6, ⟨.box, [puK 1 2 4 6]⟩), (119, ⟨.row, c⟩), (120, ⟨.row, ics l'⟩), (560, ⟨.row, lcs L⟩)] 1000 (refsL [.ref 120 0 k k k 1 false, .int .i64 sum, .int .i64 most, .ptr 1 0 1, .ptr 2 0 1, .ptr 4 0 1, .ptr 6 0 1]) []).reverse = [120, 1, 2, 3, 560, 4, 5, 6] := rfl
  have hap : AM.apart [120, 1, 2, 3, 560, 4, 5, 6] = true := rfl
  have e1 : renL (posF [120, 1, 2, 3, 560, 4, 5, 6] 0) [.ref 120 0 k k k 1 false, .int .i64 sum, .int .i64 most, .ptr 1 0 1, .ptr 2 0 1, .ptr 4 0 1, .ptr 6 0 1] = some [.ref 0 0 k k k 1 false, .int .i64 sum, .int .i64 most, .ptr 1 0 1, .ptr 2 0 1, .ptr 5 0 1, .ptr 7 0 1] := rfl
  have e2 : foc (posF [120, 1, 2, 3, 560, 4, 5, 6] 0) [(0, ⟨.row, ics l⟩), (1, ⟨.box, [.int .i64 n]⟩), (2, ⟨.box, [vB 3]⟩), (3, ⟨.box, [.ref 560 0 L.length L.length L.length 1 false]⟩), (4, ⟨.box, [.ref 5 0 (n + 1) (n + 1) (n + 1) 1 false]⟩), (5, ⟨.row, ics xs⟩), (6, ⟨.box, [puK 1 2 4 6]⟩), (119, ⟨.row, c⟩), (120, ⟨.row, ics l'⟩), (560, ⟨.row, lcs L⟩)] 0 [120, 1, 2, 3, 560, 4, 5, 6] = some (ehB l' (ics xs) n L) := rfl
  have hn := newsEB ro
  obtain ⟨h0, hs, h1, h2, h3, h4, h5, h6, h7⟩ := ro
  have hl7 : ([120, 1, 2, 3, 560, 4, 5, 6] : List Nat).length = 8 := rfl
  have er : List.range 8 = [0, 1, 2, 3, 4, 5, 6, 7] := rfl
  rw [hks]
  unfold focus
  rw [if_pos hap]
  simp only [e1, e2, hp, backF, hl7, hn, er]
  rcases hs with rfl | rfl <;>
  simp only [List.length_nil, baseF, freeL, List.append_nil, h7, AM.apart, ren, renL, unf, outF, posF, h0, h1, h2, h3, h4, h5, h6, List.getElem?_cons_zero, List.getElem?_cons_succ, Nat.reduceLT, goodB, BS.open_, Bool.true_or, Bool.false_or, ehB, hget_cons', decide_true, Bool.and_self, renB, hl7, upds, hset_cons', hset_nil', Nat.reduceEqDiff, Nat.reduceLeDiff, if_true, if_false, Nat.reduceAdd, reduceCtorEq]
theorem ea_callB (hC : EaC d l' xs x n k m sum most) {L : List (List Int)} (h0 : 0 < L.length) (h8 : L.length + 9 ^ m ≤ 900000) : ∃ st, kF d 116 [.ref 120 0 k k k 1 false, .int .i64 sum, .int .i64 most, .ptr 1 0 1, .ptr 2 0 1, .ptr 5 0 1, .ptr 7 0 1]
      [(0, ⟨.row, ics l⟩), (1, ⟨.box, [.int .i64 n]⟩), (2, ⟨.box, [vB 3]⟩), (3, ⟨.box, [.ref 4 0 L.length L.length L.length 1 false]⟩), (4, ⟨.row, lcs L⟩), (5, ⟨.box, [.ref 6 0 (n + 1) (n + 1) (n + 1) 1 false]⟩), (6, ⟨.row, ics xs⟩), (7, ⟨.box, [puK 1 2 5 7]⟩), (119, ⟨.row, c⟩), (120, ⟨.row, ics l'⟩)] 560 =
    some (.tup [], [(0, ⟨.row, ics l⟩), (1, ⟨.box, [.int .i64 n]⟩), (2, ⟨.box, [vB 3]⟩), (3, ⟨.box, [.ref 4 0 (L ++ eaR x n m l' sum most).length (L ++ eaR x n m l' sum most).length (L ++ eaR x n m l' sum most).length 1 false]⟩), (4, ⟨.row, lcs (L ++ eaR x n m l' sum most)⟩), (5, ⟨.box, [.ref 6 0 (n + 1) (n + 1) (n + 1) 1 false]⟩), (6, ⟨.row, ics xs⟩), (7, ⟨.box, [puK 1 2 5 7]⟩), (119, ⟨.row, c⟩), (120, ⟨st, ics l'⟩)]) := by
  obtain ⟨H, st, hp, ro⟩ := hC.b L h0 h8
  refine ⟨st, ?_⟩
  rw [kF_fr rfl]
  have hks : (mark [(0, ⟨.row, ics l⟩), (1, ⟨.box, [.int .i64 n]⟩), (2, ⟨.box, [vB 3]⟩), (3, ⟨.box, [.ref 4 0 L.length L.length L.length 1 false]⟩), (4, ⟨.row, lcs L⟩), (5, ⟨.box, [.ref 6 0 (n + 1) (n + 1) (n + 1) 1 false]⟩), (6, ⟨.row, ics xs⟩), (7, ⟨.box, [puK 1 2 5 7]⟩), (119, ⟨.row, c⟩), (120, ⟨.row, ics l'⟩)] 1000 (refsL [.ref 120 0 k k k 1 false, .int .i64 sum, .int .i64 most, .ptr 1 0 1, .ptr 2 0 1, .ptr 5 0 1, .ptr 7 0 1]) []).reverse = [120, 1, 2, 3, 4, 5, 6, 7] := rfl
  have hap : AM.apart [120, 1, 2, 3, 4, 5, 6, 7] = true := rfl
  have e1 : renL (posF [120, 1, 2, 3, 4, 5, 6, 7] 0) [.ref 120 0 k k k 1 false, .int .i64 sum, .int .i64 most, .ptr 1 0 1, .ptr 2 0 1, .ptr 5 0 1, .ptr 7 0 1] = some [.ref 0 0 k k k 1 false, .int .i64 sum, .int .i64 most, .ptr 1 0 1, .ptr 2 0 1, .ptr 5 0 1, .ptr 7 0 1] := rfl
  have e2 : foc (posF [120, 1, 2, 3, 4, 5, 6, 7] 0) [(0, ⟨.row, ics l⟩), (1, ⟨.box, [.int .i64 n]⟩), (2, ⟨.box, [vB 3]⟩), (3, ⟨.box, [.ref 4 0 L.length L.length L.length 1 false]⟩), (4, ⟨.row, lcs L⟩), (5, ⟨.box, [.ref 6 0 (n + 1) (n + 1) (n + 1) 1 false]⟩), (6, ⟨.row, ics xs⟩), (7, ⟨.box, [puK 1 2 5 7]⟩), (119, ⟨.row, c⟩), (120, ⟨.row, ics l'⟩)] 0 [120, 1, 2, 3, 4, 5, 6, 7] = some (ehB l' (ics xs) n L) := rfl
  have hn := newsEB ro
  obtain ⟨h0, hs, h1, h2, h3, h4, h5, h6, h7⟩ := ro
  have hl7 : ([120, 1, 2, 3, 4, 5, 6, 7] : List Nat).length = 8 := rfl
  have er : List.range 8 = [0, 1, 2, 3, 4, 5, 6, 7] := rfl
  rw [hks]
  unfold focus
  rw [if_pos hap]
  simp only [e1, e2, hp, backF, hl7, hn, er]
  rcases hs with rfl | rfl <;>
  simp only [List.length_nil, baseF, freeL, List.append_nil, h7, AM.apart, ren, renL, unf, outF, posF, h0, h1, h2, h3, h4, h5, h6, List.getElem?_cons_zero, List.getElem?_cons_succ, Nat.reduceLT, goodB, BS.open_, Bool.true_or, Bool.false_or, ehB, hget_cons', decide_true, Bool.and_self, renB, hl7, upds, hset_cons', hset_nil', Nat.reduceEqDiff, Nat.reduceLeDiff, if_true, if_false, Nat.reduceAdd, reduceCtorEq]
end
end Go.AM.Ytfmnoohhhokicaa
end

section
namespace Go.AM.Ytfmnoohhhokicaa
open Go Go.AM Go.AM.Rub
set_option maxRecDepth 100000
set_option maxHeartbeats 8000000
theorem vis_mut (caps args : List AV) : mutV E (.clo 93 caps) args = some (93, args ++ caps) := rfl
theorem ea_mut (caps args : List AV) : mutV E (.clo 116 caps) args = some (116, args ++ caps) := rfl
theorem mulb {t : Int} {m : Nat} (h : -1000 ≤ t ∧ t ≤ 1000) (hm : m ≤ 8) : -8000 ≤ t * (m : Int) ∧ t * (m : Int) ≤ 8000 := by
  rcases (by omega : m = 0 ∨ m = 1 ∨ m = 2 ∨ m = 3 ∨ m = 4 ∨ m = 5 ∨ m = 6 ∨ m = 7 ∨ m = 8) with rfl | rfl | rfl | rfl | rfl | rfl | rfl | rfl | rfl <;> omega
/-- No number is left to choose. -/
theorem ea_leaf {d : Nat} {l xs : List Int} {x : Nat → Int} {n : Nat} {sum most : Int} (hl : l.length = n) (h0 : 0 < n) (h9 : n ≤ 100) : EaC (d + 3) l xs x n n 0 sum most := by
  have hlen : (ics l).length = n := by rw [ics_length, hl]
  have em : AV.imm (ics l) n false = .imm (ics l) l.length false := by rw [hl]
  constructor
  · rw [pF_s]
    have hc := vis_callA (d := d) (X := ics xs) (n := n) hl h0 h9
    have e : lcs [l] = [.imm (ics l) n false] := by show [AV.imm (ics l) l.length false] = _; rw [hl]
    simp only [ehA] at hc ⊢
    have e2 : eaR x n 0 l sum most = [l] := rfl
    rw [e2]
    generalize kF (d + 2) = C at *
    simp (disch := omega) only [ZF, frame0, stp, just, Rd.bind, Rd.run, Rd.opt, upds, rdCells, aLoad, resA, resL, aLen, aBuiltin, aBin, aInt, Nat.reduceAdd, Nat.reduceMul, Nat.reduceBEq, Nat.reduceEqDiff, Nat.reduceLeDiff, ↓reduceIte, reduceCtorEq, mutX, ZT, F_116, callV, vis_mut, hlen, hc]
    exact ⟨_, 560, .froz, rfl, ⟨rfl, .inr rfl, rfl, rfl, rfl, rfl, rfl, rfl, by omega, fun _ => by rw [e]; rfl⟩⟩
  · intro L hp h8
    rw [pF_s]
    have hc := vis_callB (d := d) (X := ics xs) (n := n) (L := L) hl h0 h9 (by omega)
    simp only [ehB] at hc ⊢
    have e2 : eaR x n 0 l sum most = [l] := rfl
    have hsn := lcs_snoc L l
    rw [← em] at hsn
    rw [e2]
    have key : ∃ H st, bodyA E (kF (d + 2)) fg 1000000 116 [.ref 0 0 n n n 1 false, .int .i64 sum, .int .i64 most, .ptr 1 0 1, .ptr 2 0 1, .ptr 5 0 1, .ptr 7 0 1] (ehB l (ics xs) n L) 64 = some (.tup [], H) ∧
      (hget H 0 = some ⟨st, ics l⟩ ∧ (st = .row ∨ st = .froz) ∧ hget H 1 = some ⟨.box, [.int .i64 n]⟩ ∧ hget H 2 = some ⟨.box, [vB 3]⟩ ∧ hget H 3 = some ⟨.box, [.ref 4 0 (L.length + 1) (L.length + 1) (L.length + 1) 1 false]⟩ ∧ hget H 4 = some ⟨.row, lcs L ++ [.imm (ics l) n false]⟩ ∧ hget H 5 = some ⟨.box, [.ref 6 0 (n + 1) (n + 1) (n + 1) 1 false]⟩ ∧ hget H 6 = some ⟨.row, ics xs⟩ ∧ hget H 7 = some ⟨.box, [puK 1 2 5 7]⟩) := by
      simp only [ehB]
      generalize lcs L = A at *
      generalize L.length = m at *
      generalize kF (d + 2) = C at *
      simp (disch := omega) only [ZF, frame0, stp, just, Rd.bind, Rd.run, Rd.opt, upds, rdCells, aLoad, resA, resL, aLen, aBuiltin, aBin, aInt, Nat.reduceAdd, Nat.reduceMul, Nat.reduceBEq, Nat.reduceEqDiff, Nat.reduceLeDiff, ↓reduceIte, reduceCtorEq, mutX, ZT, F_116, callV, vis_mut, hlen, hc]
      exact ⟨_, .froz, rfl, rfl, .inr rfl, rfl, rfl, rfl, rfl, rfl, rfl, rfl⟩
    obtain ⟨H, st, p1, p2, p3, p4, p5, p6, p7, p8, p9, p10⟩ := key
    refine ⟨H, st, p1, ⟨p2, p3, p4, p5, by rw [List.length_append]; exact p6, by rw [← hsn]; exact p7, p8, p9, p10⟩⟩
noncomputable abbrev esA (l xs : List Int) (n k : Nat) (sum left t : Int) (L : List (List Int)) : St :=
  ([(12, .int .i64 t), (11, .int .i64 left), (10, .int .i64 k), (6, .ptr 6 0 1), (3, .ptr 1 0 1), (1, .int .i64 sum), (0, .ref 0 0 k k k 1 false)], (0, ⟨.row, ics l⟩) :: (1, ⟨.box, [.int .i64 n]⟩) :: (2, ⟨.box, [vB 3]⟩) :: (3, ⟨.box, [oV 560 1 L.length]⟩) :: (4, ⟨.box, [.ref 5 0 (n + 1) (n + 1) (n + 1) 1 false]⟩) :: (5, ⟨.row, ics xs⟩) :: (6, ⟨.box, [puK 1 2 4 6]⟩) :: oH 560 (lcs L))
abbrev esB (l xs : List Int) (n k : Nat) (sum left t : Int) (L : List (List Int)) : St :=
  ([(12, .int .i64 t), (11, .int .i64 left), (10, .int .i64 k), (6, .ptr 7 0 1), (3, .ptr 1 0 1), (1, .int .i64 sum), (0, .ref 0 0 k k k 1 false)], [(0, ⟨.row, ics l⟩), (1, ⟨.box, [.int .i64 n]⟩), (2, ⟨.box, [vB 3]⟩), (3, ⟨.box, [.ref 4 0 L.length L.length L.length 1 false]⟩), (4, ⟨.row, lcs L⟩), (5, ⟨.box, [.ref 6 0 (n + 1) (n + 1) (n + 1) 1 false]⟩), (6, ⟨.row, ics xs⟩), (7, ⟨.box, [puK 1 2 5 7]⟩)])
theorem eaA_go {d : Nat} {l xs : List Int} {x : Nat → Int} {n k m : Nat} {sum left t : Int} (hl : l.length = k) (hk : k + (m + 1) = n) (h9 : n ≤ 8) (ht : -1000 ≤ t ∧ t ≤ 1000) (hs : -1000 ≤ sum ∧ sum ≤ 1000) (g : t * ((m + 1 : Nat) : Int) ≥ left ∧ t ≥ 0) (hC : EaC d (l ++ [t]) xs x n (k + 1) m (sum + t) t) (L : List (List Int)) (h8 : L.length + 9 ^ m ≤ 900000) :
    ∃ s', execA E (kF d) (fg 116) 64 62 (ehA l (ics xs) n) 1000000 c116_16 (esA l xs n k sum left t L) = some (.normal, s') ∧ headA (ehA l (ics xs) n) s' = esA l xs n k sum left (t - 1) (L ++ eaR x n m (l ++ [t]) (sum + t) t) := by
  have hlen : (ics l).length = k := by rw [ics_length, hl]
  have htk : List.take k (ics l) = ics l := List.take_of_length_le (by omega)
  have hsn := ics_snoc l t
  obtain ⟨g1, g2⟩ := g
  have hnk : wrp .i64 ((n : Int) - k) = ((m + 1 : Nat) : Int) := by rw [wrp64 (by omega)]; omega
  have hb := mulb (m := m + 1) ht (by omega)
  obtain ⟨P, hP⟩ : ∃ P, t * ((m + 1 : Nat) : Int) = P := ⟨_, rfl⟩
  rw [hP] at g1 hb
  have w0 : wrp .i64 (t * ((m + 1 : Nat) : Int)) = P := by rw [hP]; exact wrp64 (by omega)
  clear hP
  have w1 : wrp .i64 (sum + t) = sum + t := wrp64 (by omega)
  have w2 : wrp .i64 (t - 1) = t - 1 := wrp64 (by omega)
  have gk : (0 : Int) ≤ (k : Int) ∧ (k : Int) ≤ (k : Int) := by omega
  have hno : ¬ k + 1 ≤ k := by omega
  generalize ((m + 1 : Nat) : Int) = M at *
  rcases ocvL 560 L with ⟨hn0, o1, o2⟩ | ⟨hp0, o1, o2⟩
  · obtain ⟨st, hc⟩ := ea_callA0 (l := l) (c := [.int .i64 t]) hC
    subst hn0
    rw [List.nil_append]
    simp only [esA, ehA]
    rw [o1, o2]
    rw [← hsn] at hc
    generalize eaR x n m (l ++ [t]) (sum + t) t = new at *
    generalize kF d = C at *
    rcases ocvL 560 new with ⟨hn1, p1, p2⟩ | ⟨hp1, p1, p2⟩ <;> rw [p1, p2] at hc ⊢ <;>
      simp (disch := omega) only [ZF, ↓gd, stp, opPick, just, Rd.bind, Rd.run, Rd.opt, upds, acells, zeroCells, tsz, elemT, rdCells, aLoad, fresh, aNum, aBuiltin, aBin, aInt, putC, evO, Nat.reduceAdd, Nat.reduceMul, Nat.reduceLT, Nat.reduceBEq, Nat.reduceEqDiff, Nat.reduceLeDiff, ↓reduceIte, reduceCtorEq, stpT, Rd.foot, writing, touching, Tr.empty, dynPairs, apartT, disj, aBuildSlice, aBuildAt, partsOf, fillA, repC, isSliceT, aAppend, srcOf, window, mutX, snaps, aSlice, aBounds, bMax, bHigh, bLow, ZT, F_116, callVT, ea_mut, hlen, htk, hno, g1, g2, hnk, w0, w1, w2, gk, hc, room22 (show k + 1 ≤ 1000000 by omega)] <;> exact ⟨_, rfl, rfl⟩
  · obtain ⟨st, hc⟩ := ea_callA1 (l := l) (c := [.int .i64 t]) hC hp0 h8
    simp only [esA, ehA]
    rw [o1, o2, ov_pos (show 0 < (L ++ eaR x n m (l ++ [t]) (sum + t) t).length by rw [List.length_append]; omega), ohl_pos (show 0 < (L ++ eaR x n m (l ++ [t]) (sum + t) t).length by rw [List.length_append]; omega)]
    rw [← hsn] at hc
    generalize L ++ eaR x n m (l ++ [t]) (sum + t) t = new at *
    generalize lcs new = LN at *
    generalize new.length = nn at *
    generalize lcs L = LL at *
    generalize L.length = ll at *
    generalize kF d = C at *
    simp (disch := omega) only [ZF, ↓gd, stp, opPick, just, Rd.bind, Rd.run, Rd.opt, upds, acells, zeroCells, tsz, elemT, rdCells, aLoad, fresh, aNum, aBuiltin, aBin, aInt, putC, evO, Nat.reduceAdd, Nat.reduceMul, Nat.reduceLT, Nat.reduceBEq, Nat.reduceEqDiff, Nat.reduceLeDiff, ↓reduceIte, reduceCtorEq, stpT, Rd.foot, writing, touching, Tr.empty, dynPairs, apartT, disj, aBuildSlice, aBuildAt, partsOf, fillA, repC, isSliceT, aAppend, srcOf, window, mutX, snaps, aSlice, aBounds, bMax, bHigh, bLow, ZT, F_116, callVT, ea_mut, hlen, htk, hno, g1, g2, hnk, w0, w1, w2, gk, hc, room22 (show k + 1 ≤ 1000000 by omega)]
    exact ⟨_, rfl, rfl⟩
theorem eaB_go {d : Nat} {l xs : List Int} {x : Nat → Int} {n k m : Nat} {sum left t : Int} (hl : l.length = k) (hk : k + (m + 1) = n) (h9 : n ≤ 8) (ht : -1000 ≤ t ∧ t ≤ 1000) (hs : -1000 ≤ sum ∧ sum ≤ 1000) (g : t * ((m + 1 : Nat) : Int) ≥ left ∧ t ≥ 0) (hC : EaC d (l ++ [t]) xs x n (k + 1) m (sum + t) t) (L0 L : List (List Int)) (hp0 : 0 < L.length) (h8 : L.length + 9 ^ m ≤ 900000) :
    ∃ s', execA E (kF d) (fg 116) 64 62 (ehB l (ics xs) n L0) 1000000 c116_16 (esB l xs n k sum left t L) = some (.normal, s') ∧ headA (ehB l (ics xs) n L0) s' = esB l xs n k sum left (t - 1) (L ++ eaR x n m (l ++ [t]) (sum + t) t) := by
  have hlen : (ics l).length = k := by rw [ics_length, hl]
  have htk : List.take k (ics l) = ics l := List.take_of_length_le (by omega)
  have hsn := ics_snoc l t
  obtain ⟨g1, g2⟩ := g
  have hnk : wrp .i64 ((n : Int) - k) = ((m + 1 : Nat) : Int) := by rw [wrp64 (by omega)]; omega
  have hb := mulb (m := m + 1) ht (by omega)
  obtain ⟨P, hP⟩ : ∃ P, t * ((m + 1 : Nat) : Int) = P := ⟨_, rfl⟩
  rw [hP] at g1 hb
  have w0 : wrp .i64 (t * ((m + 1 : Nat) : Int)) = P := by rw [hP]; exact wrp64 (by omega)
  clear hP
  have w1 : wrp .i64 (sum + t) = sum + t := wrp64 (by omega)
  have w2 : wrp .i64 (t - 1) = t - 1 := wrp64 (by omega)
  have gk : (0 : Int) ≤ (k : Int) ∧ (k : Int) ≤ (k : Int) := by omega
  have hno : ¬ k + 1 ≤ k := by omega
  generalize ((m + 1 : Nat) : Int) = M at *
  obtain ⟨st, hc⟩ := ea_callB (l := l) (c := [.int .i64 t]) hC hp0 h8
  simp only [esB, ehB]
  rw [← hsn] at hc
  generalize L ++ eaR x n m (l ++ [t]) (sum + t) t = new at *
  generalize lcs new = LN at *
  generalize new.length = nn at *
  generalize lcs L = LL at *
  generalize L.length = ll at *
  generalize lcs L0 = LL0 at *
  generalize L0.length = l0 at *
  generalize kF d = C at *
  simp (disch := omega) only [ZF, ↓gd, stp, opPick, just, Rd.bind, Rd.run, Rd.opt, upds, acells, zeroCells, tsz, elemT, rdCells, aLoad, fresh, aNum, aBuiltin, aBin, aInt, putC, evO, Nat.reduceAdd, Nat.reduceMul, Nat.reduceLT, Nat.reduceBEq, Nat.reduceEqDiff, Nat.reduceLeDiff, ↓reduceIte, reduceCtorEq, stpT, Rd.foot, writing, touching, Tr.empty, dynPairs, apartT, disj, aBuildSlice, aBuildAt, partsOf, fillA, repC, isSliceT, aAppend, srcOf, window, mutX, snaps, aSlice, aBounds, bMax, bHigh, bLow, ZT, F_116, callVT, ea_mut, hlen, htk, hno, g1, g2, hnk, w0, w1, w2, gk, hc, room22 (show k + 1 ≤ 1000000 by omega)]
  exact ⟨_, rfl, rfl⟩
end Go.AM.Ytfmnoohhhokicaa
end

section
namespace Go.AM.Ytfmnoohhhokicaa
open Go Go.AM Go.AM.Rub
set_option maxRecDepth 100000
set_option maxHeartbeats 8000000
theorem nineA {N a : Nat} (h1 : a ≤ 8 * N) (h2 : 9 * N ≤ 531441) : a + N ≤ 900000 := by omega
theorem nineB {N a b : Nat} (h : b + 9 * N ≤ 900000) (h1 : a ≤ 8 * N) : b + a + N ≤ 900000 := by omega
theorem ea_all {d n : Nat} {xs : List Int} {x : Nat → Int} (hn0 : 0 < n) (h6 : n ≤ 6) (hxl : xs.length = n + 1) (hxx : ∀ j, j ≤ n → (ics xs)[j]? = some (.int .i64 (x j))) (hxb : ∀ j, j ≤ n → 0 ≤ x j ∧ x j ≤ 500) : ∀ (m : Nat) (l : List Int) (k : Nat) (sum most : Int), l.length = k → k + m = n → 0 ≤ sum ∧ sum ≤ 8 * k → 0 ≤ most ∧ most ≤ 8 → EaC (d + m + 3) l xs x n k m sum most
  | 0, l, k, sum, most, hl, hk, _, _ => by
    rw [Nat.add_zero] at hk
    subst hk
    exact ea_leaf hl hn0 (by omega)
  | m + 1, l, k, sum, most, hl, hk, hs, hm => by
    have hb1 := hxb (k + 1) (by omega)
    have hbn := hxb n (Nat.le_refl _)
    obtain ⟨t0, ht0⟩ : ∃ t0 : Int, min most (x (k + 1) - sum) = t0 := ⟨_, rfl⟩
    have ht8 : t0 ≤ 8 := by omega
    have ht1 : t0 < ((100 : Nat) : Int) := by omega
    have hc9 := cntE_le (x n - sum) (m + 1) 100 t0 ht8
    obtain ⟨hin, hout⟩ := cntE_spec (x n - sum) (m + 1) 100 t0 ht1
    clear ht1
    obtain ⟨c, hcc⟩ : ∃ c : Nat, cntE (x n - sum) (m + 1) 100 t0 = c := ⟨_, rfl⟩
    rw [hcc] at hin hout hc9
    have hall : eaP x n m l sum t0 c = eaR x n (m + 1) l sum most := by rw [eaR_succ, hl, ht0, hcc]
    clear hcc
    have hrec : ∀ j : Nat, j < c → EaC (d + m + 3) (l ++ [t0 - j]) xs x n (k + 1) m (sum + (t0 - j)) (t0 - j) := fun j hj => by
      have := (hin j hj).2
      exact ea_all hn0 h6 hxl hxx hxb m (l ++ [t0 - j]) (k + 1) (sum + (t0 - j)) (t0 - j) (by simp [hl]) (by omega) (by omega) (by omega)
    have hlen : (ics l).length = k := by rw [ics_length, hl]
    have hxlen : (ics xs).length = n + 1 := by rw [ics_length, hxl]
    have hx1 : (ics xs)[k + 1]? = some (.int .i64 (x (k + 1))) := hxx (k + 1) (by omega)
    have hxn : (ics xs)[n]? = some (.int .i64 (x n)) := hxx n (Nat.le_refl _)
    have gk : ¬ (k : Int) = n := by omega
    have gk' : ((k : Int) == n) = false := by rw [beq_eq_false_iff_ne]; exact gk
    have b1 : (0 : Int) ≤ ((k + 1 : Nat) : Int) ∧ ((k + 1 : Nat) : Int) < ((n + 1 : Nat) : Int) := by omega
    have bn : (0 : Int) ≤ (n : Int) ∧ (n : Int) < ((n + 1 : Nat) : Int) := by omega
    have w1 : ∀ _ : Unit, wrp .i64 (x n - sum) = x n - sum := fun _ => wrp64 (by omega)
    have w2 : ∀ _ : Unit, wrp .i64 (x (k + 1) - sum) = x (k + 1) - sum := fun _ => wrp64 (by omega)
    have w3 : ∀ _ : Unit, wrp .i64 ((k : Int) + 1) = ((k + 1 : Nat) : Int) := fun _ => by rw [wrp64 (by omega)]; omega
    have emin : (if x (k + 1) - sum < most then x (k + 1) - sum else most) = t0 := by rw [← ht0]; split <;> omega
    have e2 : ∀ j : Nat, t0 - ((j + 1 : Nat) : Int) = t0 - j - 1 := fun j => by omega
    have z0 : t0 - ((0 : Nat) : Int) = t0 := by omega
    have hnk : ∀ _ : Unit, wrp .i64 ((n : Int) - k) = ((m + 1 : Nat) : Int) := fun _ => by rw [wrp64 (by omega)]; omega
    have hmb := mulb (t := t0 - c) (m := m + 1) (by omega) (by omega)
    obtain ⟨P, hP⟩ : ∃ P, (t0 - c) * ((m + 1 : Nat) : Int) = P := ⟨_, rfl⟩
    rw [hP] at hout hmb
    have w0 : ∀ _ : Unit, wrp .i64 ((t0 - c) * ((m + 1 : Nat) : Int)) = P := fun _ => by rw [hP]; exact wrp64 (by omega)
    clear hP
    have h9c : ∀ _ : Unit, 9 ^ (m + 1) ≤ 531441 := fun _ => by have := Nat.pow_le_pow_right (n := 9) (by omega) (show m + 1 ≤ 6 by omega); omega
    have h9s : 9 ^ (m + 1) = 9 * 9 ^ m := by rw [Nat.pow_succ, Nat.mul_comm]
    have hfl : ∀ j, j < c → (eaP x n m l sum t0 j).length ≤ 8 * 9 ^ m := fun j hj => Nat.le_trans (eaP_len x n m l sum t0 ht8 j) (Nat.mul_le_mul_right _ (by omega))
    have hA8 : ∀ j, j < c → (eaP x n m l sum t0 j).length + 9 ^ m ≤ 900000 := fun j hj => nineA (hfl j hj) (by rw [← h9s]; exact h9c ())
    have hB8 : ∀ (L : List (List Int)) j, L.length + 9 ^ (m + 1) ≤ 900000 → j < c → (L ++ eaP x n m l sum t0 j).length + 9 ^ m ≤ 900000 := fun L j h hj => by
      rw [List.length_append]
      rw [h9s] at h
      exact nineB h (hfl j hj)
    clear h9s
    constructor
    · rw [show d + (m + 1) + 3 = (d + m + 3) + 1 by omega, pF_s]
      have hloop := loopM (f := execA E (kF (d + m + 3)) (fg 116) 64 62 (ehA l (ics xs) n) 1000000 c116_16) (E0 := ehA l (ics xs) n) (fun j => esA l xs n k sum (x n - sum) (t0 - j) (eaP x n m l sum t0 j)) c (fun j hj => by
          simp only [eaP_snoc, e2]
          exact eaA_go hl hk (by omega) (by omega) (by omega) (hin j hj) (hrec j hj) (eaP x n m l sum t0 j) (hA8 j hj)) (by
          have e0 : eaP x n m l sum t0 0 = [] := rfl
          simp only [esA, e0]; rfl) (by omega)
        (e := .exit 0) (se := ([(46, .bool false), (12, .int .i64 (t0 - c)), (11, .int .i64 (x n - sum)), (10, .int .i64 k), (6, .ptr 6 0 1), (3, .ptr 1 0 1), (1, .int .i64 sum), (0, .ref 0 0 k k k 1 false)], (0, ⟨.row, ics l⟩) :: (1, ⟨.box, [.int .i64 n]⟩) :: (2, ⟨.box, [vB 3]⟩) :: (3, ⟨.box, [oV 560 1 (eaR x n (m + 1) l sum most).length]⟩) :: (4, ⟨.box, [.ref 5 0 (n + 1) (n + 1) (n + 1) 1 false]⟩) :: (5, ⟨.row, ics xs⟩) :: (6, ⟨.box, [puK 1 2 4 6]⟩) :: oH 560 (lcs (eaR x n (m + 1) l sum most))))
        (by
          simp only [esA, hall, ehA]
          generalize x n - sum = lf at *
          by_cases g1 : P ≥ lf
          · have g2 : ¬ t0 - c ≥ 0 := fun h => hout ⟨g1, h⟩
            rcases ocvL 560 (eaR x n (m + 1) l sum most) with ⟨_, o1, o2⟩ | ⟨_, o1, o2⟩ <;> rw [o1, o2] <;>
              simp (disch := omega) only [ZF, ↓gd, stp, opPick, just, Rd.bind, Rd.run, Rd.opt, upds, rdCells, aLoad, aBin, aInt, Nat.reduceBEq, Nat.reduceEqDiff, Nat.reduceLeDiff, ↓reduceIte, reduceCtorEq, ZT, F_116, hnk (), w0 (), g1, g2]
          · rcases ocvL 560 (eaR x n (m + 1) l sum most) with ⟨_, o1, o2⟩ | ⟨_, o1, o2⟩ <;> rw [o1, o2] <;>
              simp (disch := omega) only [ZF, ↓gd, stp, opPick, just, Rd.bind, Rd.run, Rd.opt, upds, rdCells, aLoad, aBin, aInt, Nat.reduceBEq, Nat.reduceEqDiff, Nat.reduceLeDiff, ↓reduceIte, reduceCtorEq, ZT, F_116, hnk (), w0 (), g1]) (by simp)
      have e0 : eaP x n m l sum t0 0 = [] := rfl
      have v0 : oV 560 1 ([] : List (List Int)).length = .nilsl := rfl
      have o0 : oH 560 (lcs []) = [] := rfl
      simp only [esA, e0, v0, o0, z0, ehA] at hloop
      simp only [ehA]
      generalize eaR x n (m + 1) l sum most = R at *
      generalize kF (d + m + 3) = C at *
      rcases ocvL 560 R with ⟨hn1, o1, o2⟩ | ⟨hp1, o1, o2⟩ <;> rw [o1, o2] at hloop
      · simp (disch := omega) only [ZF, frame0, stp, justO, just, Rd.bind, Rd.run, Rd.opt, upds, tsz, rdCells, aLoad, resA, resL, aIndexAddr, aNum, aLen, aBuiltin, aMin, aBin, aInt, Nat.reduceAdd, Nat.reduceMul, Nat.reduceLT, Nat.reduceBEq, Nat.reduceEqDiff, Nat.reduceLeDiff, ↓reduceIte, reduceCtorEq, ZT, F_116, hlen, hxlen, hx1, hxn, w1 (), w2 (), w3 (), b1, bn, gk', emin, hloop]
        exact ⟨_, 560, .row, rfl, ⟨rfl, .inl rfl, rfl, rfl, by rw [o1]; rfl, rfl, rfl, rfl, by omega, fun h => by rw [hn1] at h; simp at h⟩⟩
      · simp (disch := omega) only [ZF, frame0, stp, justO, just, Rd.bind, Rd.run, Rd.opt, upds, tsz, rdCells, aLoad, resA, resL, aIndexAddr, aNum, aLen, aBuiltin, aMin, aBin, aInt, Nat.reduceAdd, Nat.reduceMul, Nat.reduceLT, Nat.reduceBEq, Nat.reduceEqDiff, Nat.reduceLeDiff, ↓reduceIte, reduceCtorEq, ZT, F_116, hlen, hxlen, hx1, hxn, w1 (), w2 (), w3 (), b1, bn, gk', emin, hloop]
        exact ⟨_, 560, .row, rfl, ⟨rfl, .inl rfl, rfl, rfl, by rw [o1]; rfl, rfl, rfl, rfl, by omega, fun h => rfl⟩⟩
    · intro L h0 h8
      rw [show d + (m + 1) + 3 = (d + m + 3) + 1 by omega, pF_s]
      have hloop := loopM (f := execA E (kF (d + m + 3)) (fg 116) 64 62 (ehB l (ics xs) n L) 1000000 c116_16) (E0 := ehB l (ics xs) n L) (fun j => esB l xs n k sum (x n - sum) (t0 - j) (L ++ eaP x n m l sum t0 j)) c (fun j hj => by
          simp only [eaP_snoc, e2, ← List.append_assoc]
          exact eaB_go hl hk (by omega) (by omega) (by omega) (hin j hj) (hrec j hj) L (L ++ eaP x n m l sum t0 j) (by rw [List.length_append]; omega) (hB8 L j h8 hj)) (headA_keep (by simp [ehB, hget_cons'])) (by omega)
        (e := .exit 0) (se := ([(46, .bool false), (12, .int .i64 (t0 - c)), (11, .int .i64 (x n - sum)), (10, .int .i64 k), (6, .ptr 7 0 1), (3, .ptr 1 0 1), (1, .int .i64 sum), (0, .ref 0 0 k k k 1 false)], [(0, ⟨.row, ics l⟩), (1, ⟨.box, [.int .i64 n]⟩), (2, ⟨.box, [vB 3]⟩), (3, ⟨.box, [.ref 4 0 (L ++ eaR x n (m + 1) l sum most).length (L ++ eaR x n (m + 1) l sum most).length (L ++ eaR x n (m + 1) l sum most).length 1 false]⟩), (4, ⟨.row, lcs (L ++ eaR x n (m + 1) l sum most)⟩), (5, ⟨.box, [.ref 6 0 (n + 1) (n + 1) (n + 1) 1 false]⟩), (6, ⟨.row, ics xs⟩), (7, ⟨.box, [puK 1 2 5 7]⟩)]))
        (by
          simp only [esB, hall, ehB]
          generalize x n - sum = lf at *
          by_cases g1 : P ≥ lf
          · have g2 : ¬ t0 - c ≥ 0 := fun h => hout ⟨g1, h⟩
            simp (disch := omega) only [ZF, ↓gd, stp, opPick, just, Rd.bind, Rd.run, Rd.opt, upds, rdCells, aLoad, aBin, aInt, Nat.reduceBEq, Nat.reduceEqDiff, Nat.reduceLeDiff, ↓reduceIte, reduceCtorEq, ZT, F_116, hnk (), w0 (), g1, g2]
          · simp (disch := omega) only [ZF, ↓gd, stp, opPick, just, Rd.bind, Rd.run, Rd.opt, upds, rdCells, aLoad, aBin, aInt, Nat.reduceBEq, Nat.reduceEqDiff, Nat.reduceLeDiff, ↓reduceIte, reduceCtorEq, ZT, F_116, hnk (), w0 (), g1]) (by simp)
      have e0 : eaP x n m l sum t0 0 = [] := rfl
      simp only [esB, e0, z0, ehB, List.append_nil] at hloop
      simp only [ehB]
      generalize L ++ eaR x n (m + 1) l sum most = R at *
      generalize kF (d + m + 3) = C at *
      simp (disch := omega) only [ZF, frame0, stp, justO, just, Rd.bind, Rd.run, Rd.opt, upds, tsz, rdCells, aLoad, resA, resL, aIndexAddr, aNum, aLen, aBuiltin, aMin, aBin, aInt, Nat.reduceAdd, Nat.reduceMul, Nat.reduceLT, Nat.reduceBEq, Nat.reduceEqDiff, Nat.reduceLeDiff, ↓reduceIte, reduceCtorEq, ZT, F_116, hlen, hxlen, hx1, hxn, w1 (), w2 (), w3 (), b1, bn, gk', emin, hloop]
      exact ⟨_, .row, rfl, ⟨rfl, .inl rfl, rfl, rfl, rfl, rfl, rfl, rfl, rfl⟩⟩
end Go.AM.Ytfmnoohhhokicaa
end

section
namespace Go.AM.Ytfmnoohhhokicaa
open Go Go.AM Go.AM.Rub
set_option maxRecDepth 100000
set_option maxHeartbeats 8000000
abbrev ehN (X : List AV) (n : Nat) : AHeap := [(0, ⟨.box, [.int .i64 n]⟩), (1, ⟨.box, [vB 2]⟩), (2, ⟨.box, [.nilsl]⟩), (3, ⟨.box, [.ref 4 0 (n + 1) (n + 1) (n + 1) 1 false]⟩), (4, ⟨.row, X⟩), (5, ⟨.box, [puK 0 1 3 5]⟩)]
section
variable {d : Nat} {l' xs : List Int} {x : Nat → Int} {n k m : Nat} {sum most : Int} {c : List AV}
theorem ea_callN0 (hC : EaC d l' xs x n k m sum most) : ∃ st, kF d 116 [.ref 120 0 k k k 1 false, .int .i64 sum, .int .i64 most, .ptr 0 0 1, .ptr 1 0 1, .ptr 3 0 1, .ptr 5 0 1]
      [(0, ⟨.box, [.int .i64 n]⟩), (1, ⟨.box, [vB 2]⟩), (2, ⟨.box, [.nilsl]⟩), (3, ⟨.box, [.ref 4 0 (n + 1) (n + 1) (n + 1) 1 false]⟩), (4, ⟨.row, ics xs⟩), (5, ⟨.box, [puK 0 1 3 5]⟩), (119, ⟨.row, c⟩), (120, ⟨.row, ics l'⟩)] 560 =
    some (.tup [], (0, ⟨.box, [.int .i64 n]⟩) :: (1, ⟨.box, [vB 2]⟩) :: (2, ⟨.box, [oV 560 1 (eaR x n m l' sum most).length]⟩) :: (3, ⟨.box, [.ref 4 0 (n + 1) (n + 1) (n + 1) 1 false]⟩) :: (4, ⟨.row, ics xs⟩) :: (5, ⟨.box, [puK 0 1 3 5]⟩) :: (119, ⟨.row, c⟩) :: (120, ⟨st, ics l'⟩) :: oH 560 (lcs (eaR x n m l' sum most))) := by
  obtain ⟨H, id, st, hp, ro⟩ := hC.a
  refine ⟨st, ?_⟩
  rw [kF_fr rfl]
  have hks : (mark [(0, ⟨.box, [.int .i64 n]⟩), (1, ⟨.box, [vB 2]⟩), (2, ⟨.box, [.nilsl]⟩), (3, ⟨.box, [.ref 4 0 (n + 1) (n + 1) (n + 1) 1 false]⟩), (4, ⟨.row, ics xs⟩), (5, ⟨.box, [puK 0 1 3 5]⟩), (119, ⟨.row, c⟩), (120, ⟨.row, ics l'⟩)] 1000 (refsL [.ref 120 0 k k k 1 false, .int .i64 sum, .int .i64 most, .ptr 0 0 1, .ptr 1 0 1, .ptr 3 0 1, .ptr 5 0 1]) []).reverse = [120, 0, 1, 2, 3, 4, 5] := rfl
  have hap : AM.apart [120, 0, 1, 2, 3, 4, 5] = true := rfl
  have e1 : renL (posF [120, 0, 1, 2, 3, 4, 5] 0) [.ref 120 0 k k k 1 false, .int .i64 sum, .int .i64 most, .ptr 0 0 1, .ptr 1 0 1, .ptr 3 0 1, .ptr 5 0 1] = some [.ref 0 0 k k k 1 false, .int .i64 sum, .int .i64 most, .ptr 1 0 1, .ptr 2 0 1, .ptr 4 0 1, .ptr 6 0 1] := rfl
  have e2 : foc (posF [120, 0, 1, 2, 3, 4, 5] 0) [(0, ⟨.box, [.int .i64 n]⟩), (1, ⟨.box, [vB 2]⟩), (2, ⟨.box, [.nilsl]⟩), (3, ⟨.box, [.ref 4 0 (n + 1) (n + 1) (n + 1) 1 false]⟩), (4, ⟨.row, ics xs⟩), (5, ⟨.box, [puK 0 1 3 5]⟩), (119, ⟨.row, c⟩), (120, ⟨.row, ics l'⟩)] 0 [120, 0, 1, 2, 3, 4, 5] = some (ehA l' (ics xs) n) := rfl
  have hn := newsEA ro
  obtain ⟨h0, hs, h1, h2, h3, h4, h5, h6, hi, hr⟩ := ro
  have hl7 : ([120, 0, 1, 2, 3, 4, 5] : List Nat).length = 7 := rfl
  have er : List.range 7 = [0, 1, 2, 3, 4, 5, 6] := rfl
  rw [hks]
  unfold focus
  rw [if_pos hap]
  simp only [e1, e2, hp, backF, hl7, hn, er]
  rcases ocvL 560 (eaR x n m l' sum most) with ⟨hn0, o1, o2⟩ | ⟨hp0, o1, o2⟩
  · rw [o1, o2]
    rw [hn0] at h3
    have hv : oV id 1 ([] : List (List Int)).length = .nilsl := rfl
    rw [hv] at h3
    rcases hs with rfl | rfl <;>
    simp only [hn0, if_true, List.length_nil, baseF, freeL, List.append_nil, AM.apart, ren, renL, unf, outF, posF, h0, h1, h2, h3, h4, h5, h6, List.getElem?_cons_zero, List.getElem?_cons_succ, Nat.reduceLT, goodB, BS.open_, Bool.true_or, Bool.false_or, ehA, hget_cons', decide_true, Bool.and_self, renB, hl7, upds, hset_cons', hset_nil', Nat.reduceEqDiff, Nat.reduceLeDiff, if_true, if_false, Nat.reduceAdd, reduceCtorEq]
  · rw [o1, o2]
    rw [ov_pos hp0] at h3
    have hr := hr hp0
    have hne : ¬ eaR x n m l' sum most = [] := fun e => by rw [e] at hp0; simp at hp0
    have c7 : ¬ id < 7 := by omega
    have hbase : baseF [(0, ⟨.box, [.int .i64 n]⟩), (1, ⟨.box, [vB 2]⟩), (2, ⟨.box, [.nilsl]⟩), (3, ⟨.box, [.ref 4 0 (n + 1) (n + 1) (n + 1) 1 false]⟩), (4, ⟨.row, ics xs⟩), (5, ⟨.box, [puK 0 1 3 5]⟩), (119, ⟨.row, c⟩), (120, ⟨.row, ics l'⟩)] 1 8 560 = some 560 := rfl
    rcases hs with rfl | rfl <;>
    simp only [hne, List.length_cons, List.length_nil, Nat.zero_add, hbase, List.elem_nil, Bool.not_false, List.cons_append, List.nil_append, hr, c7, Nat.add_zero, AM.apart, ren, renL, unf, outF, posF, h0, h1, h2, h3, h4, h5, h6, List.getElem?_cons_zero, List.getElem?_cons_succ, Nat.reduceLT, goodB, BS.open_, Bool.true_or, Bool.false_or, ehA, hget_cons', decide_true, Bool.and_self, renB, hl7, upds, hset_cons', hset_nil', Nat.reduceEqDiff, Nat.reduceLeDiff, if_true, if_false, reduceCtorEq]
theorem ea_callN1 (hC : EaC d l' xs x n k m sum most) {L : List (List Int)} (h0 : 0 < L.length) (h8 : L.length + 9 ^ m ≤ 900000) : ∃ st, kF d 116 [.ref 120 0 k k k 1 false, .int .i64 sum, .int .i64 most, .ptr 0 0 1, .ptr 1 0 1, .ptr 3 0 1, .ptr 5 0 1]
      [(0, ⟨.box, [.int .i64 n]⟩), (1, ⟨.box, [vB 2]⟩), (2, ⟨.box, [.ref 560 0 L.length L.length L.length 1 false]⟩), (3, ⟨.box, [.ref 4 0 (n + 1) (n + 1) (n + 1) 1 false]⟩), (4, ⟨.row, ics xs⟩), (5, ⟨.box, [puK 0 1 3 5]⟩), (119, ⟨.row, c⟩), (120, ⟨.row, ics l'⟩), (560, ⟨.row, lcs L⟩)] 560 =
    some (.tup [], [(0, ⟨.box, [.int .i64 n]⟩), (1, ⟨.box, [vB 2]⟩), (2, ⟨.box, [.ref 560 0 (L ++ eaR x n m l' sum most).length (L ++ eaR x n m l' sum most).length (L ++ eaR x n m l' sum most).length 1 false]⟩), (3, ⟨.box, [.ref 4 0 (n + 1) (n + 1) (n + 1) 1 false]⟩), (4, ⟨.row, ics xs⟩), (5, ⟨.box, [puK 0 1 3 5]⟩), (119, ⟨.row, c⟩), (120, ⟨st, ics l'⟩), (560, ⟨.row, lcs (L ++ eaR x n m l' sum most)⟩)]) := by
  obtain ⟨H, st, hp, ro⟩ := hC.b L h0 h8
  refine ⟨st, ?_⟩
  rw [kF_fr rfl]
  have hks : (mark [(0, ⟨.box, [.int .i64 n]⟩), (1, ⟨.box, [vB 2]⟩), (2, ⟨.box, [.ref 560 0 L.length L.length L.length 1 false]⟩), (3, ⟨.box, [.ref 4 0 (n + 1) (n + 1) (n + 1) 1 false]⟩), (4, ⟨.row, ics xs⟩), (5, ⟨.box, [puK 0 1 3 5]⟩), (119, ⟨.row, c⟩), (120, ⟨.row, ics l'⟩), (560, ⟨.row, lcs L⟩)] 1000 (refsL [.ref 120 0 k k k 1 false, .int .i64 sum, .int .i64 most, .ptr 0 0 1, .ptr 1 0 1, .ptr 3 0 1, .ptr 5 0 1]) []).reverse = [120, 0, 1, 2, 560, 3, 4, 5] := rfl
  have hap : AM.apart [120, 0, 1, 2, 560, 3, 4, 5] = true := rfl
  have e1 : renL (posF [120, 0, 1, 2, 560, 3, 4, 5] 0) [.ref 120 0 k k k 1 false, .int .i64 sum, .int .i64 most, .ptr 0 0 1, .ptr 1 0 1, .ptr 3 0 1, .ptr 5 0 1] = some [.ref 0 0 k k k 1 false, .int .i64 sum, .int .i64 most, .ptr 1 0 1, .ptr 2 0 1, .ptr 5 0 1, .ptr 7 0 1] := rfl
  have e2 : foc (posF [120, 0, 1, 2, 560, 3, 4, 5] 0) [(0, ⟨.box, [.int .i64 n]⟩), (1, ⟨.box, [vB 2]⟩), (2, ⟨.box, [.ref 560 0 L.length L.length L.length 1 false]⟩), (3, ⟨.box, [.ref 4 0 (n + 1) (n + 1) (n + 1) 1 false]⟩), (4, ⟨.row, ics xs⟩), (5, ⟨.box, [puK 0 1 3 5]⟩), (119, ⟨.row, c⟩), (120, ⟨.row, ics l'⟩), (560, ⟨.row, lcs L⟩)] 0 [120, 0, 1, 2, 560, 3, 4, 5] = some (ehB l' (ics xs) n L) := rfl
  have hn := newsEB ro
  obtain ⟨h0, hs, h1, h2, h3, h4, h5, h6, h7⟩ := ro
  have hl7 : ([120, 0, 1, 2, 560, 3, 4, 5] : List Nat).length = 8 := rfl
  have er : List.range 8 = [0, 1, 2, 3, 4, 5, 6, 7] := rfl
  rw [hks]
  unfold focus
  rw [if_pos hap]
  simp only [e1, e2, hp, backF, hl7, hn, er]
  rcases hs with rfl | rfl <;>
  simp only [List.length_nil, baseF, freeL, List.append_nil, AM.apart, ren, renL, unf, outF, posF, h0, h1, h2, h3, h4, h5, h6, h7, List.getElem?_cons_zero, List.getElem?_cons_succ, Nat.reduceLT, goodB, BS.open_, Bool.true_or, Bool.false_or, ehB, hget_cons', decide_true, Bool.and_self, renB, hl7, upds, hset_cons', hset_nil', Nat.reduceEqDiff, Nat.reduceLeDiff, if_true, if_false, Nat.reduceAdd, reduceCtorEq]
end
noncomputable abbrev esN (xs : List Int) (n : Nat) (sum left t : Int) (L : List (List Int)) : St :=
  ([(12, .int .i64 t), (11, .int .i64 left), (10, .int .i64 0), (6, .ptr 5 0 1), (3, .ptr 0 0 1), (1, .int .i64 sum), (0, .nilsl)], (0, ⟨.box, [.int .i64 n]⟩) :: (1, ⟨.box, [vB 2]⟩) :: (2, ⟨.box, [oV 560 1 L.length]⟩) :: (3, ⟨.box, [.ref 4 0 (n + 1) (n + 1) (n + 1) 1 false]⟩) :: (4, ⟨.row, ics xs⟩) :: (5, ⟨.box, [puK 0 1 3 5]⟩) :: oH 560 (lcs L))
theorem eaN_go {d : Nat} {xs : List Int} {x : Nat → Int} {n m : Nat} {sum left t : Int} (hk : m + 1 = n) (h9 : n ≤ 8) (ht : -1000 ≤ t ∧ t ≤ 1000) (hs : -1000 ≤ sum ∧ sum ≤ 1000) (g : t * ((m + 1 : Nat) : Int) ≥ left ∧ t ≥ 0) (hC : EaC d [t] xs x n 1 m (sum + t) t) (L : List (List Int)) (h8 : L.length + 9 ^ m ≤ 900000) :
    ∃ s', execA E (kF d) (fg 116) 64 62 (ehN (ics xs) n) 1000000 c116_16 (esN xs n sum left t L) = some (.normal, s') ∧ headA (ehN (ics xs) n) s' = esN xs n sum left (t - 1) (L ++ eaR x n m [t] (sum + t) t) := by
  have e1 : ics [t] = [.int .i64 t] := rfl
  obtain ⟨g1, g2⟩ := g
  have hnk : wrp .i64 ((n : Int) - 0) = ((m + 1 : Nat) : Int) := by rw [wrp64 (by omega)]; omega
  have hb := mulb (m := m + 1) ht (by omega)
  obtain ⟨P, hP⟩ : ∃ P, t * ((m + 1 : Nat) : Int) = P := ⟨_, rfl⟩
  rw [hP] at g1 hb
  have w0 : wrp .i64 (t * ((m + 1 : Nat) : Int)) = P := by rw [hP]; exact wrp64 (by omega)
  clear hP
  have w1 : wrp .i64 (sum + t) = sum + t := wrp64 (by omega)
  have w2 : wrp .i64 (t - 1) = t - 1 := wrp64 (by omega)
  generalize ((m + 1 : Nat) : Int) = M at *
  rcases ocvL 560 L with ⟨hn0, o1, o2⟩ | ⟨hp0, o1, o2⟩
  · obtain ⟨st, hc⟩ := ea_callN0 (c := [.int .i64 t]) hC
    subst hn0
    rw [List.nil_append]
    simp only [esN, ehN]
    rw [o1, o2]
    rw [e1] at hc
    generalize eaR x n m [t] (sum + t) t = new at *
    generalize kF d = C at *
    rcases ocvL 560 new with ⟨hn1, p1, p2⟩ | ⟨hp1, p1, p2⟩ <;> rw [p1, p2] at hc ⊢ <;>
      simp (disch := omega) only [ZF, ↓gd, stp, opPick, just, Rd.bind, Rd.run, Rd.opt, upds, acells, zeroCells, tsz, elemT, rdCells, aLoad, fresh, aNum, aBuiltin, aBin, aInt, putC, evO, Nat.reduceAdd, Nat.reduceMul, Nat.reduceLT, Nat.reduceBEq, Nat.reduceEqDiff, Nat.reduceLeDiff, ↓reduceIte, reduceCtorEq, stpT, Rd.foot, writing, touching, Tr.empty, dynPairs, apartT, disj, aBuildSlice, aBuildAt, partsOf, fillA, repC, isSliceT, aAppend, srcOf, window, mutX, snaps, aSlice, aBounds, bMax, bHigh, bLow, Int.reduceLE, Int.reduceToNat, ZT, F_116, callVT, ea_mut, g1, g2, hnk, w0, w1, w2, hc, room22 (show 1 ≤ 1000000 by omega)] <;> exact ⟨_, rfl, rfl⟩
  · obtain ⟨st, hc⟩ := ea_callN1 (c := [.int .i64 t]) hC hp0 h8
    simp only [esN, ehN]
    rw [o1, o2, ov_pos (show 0 < (L ++ eaR x n m [t] (sum + t) t).length by rw [List.length_append]; omega), ohl_pos (show 0 < (L ++ eaR x n m [t] (sum + t) t).length by rw [List.length_append]; omega)]
    rw [e1] at hc
    generalize L ++ eaR x n m [t] (sum + t) t = new at *
    generalize lcs new = LN at *
    generalize new.length = nn at *
    generalize lcs L = LL at *
    generalize L.length = ll at *
    generalize kF d = C at *
    simp (disch := omega) only [ZF, ↓gd, stp, opPick, just, Rd.bind, Rd.run, Rd.opt, upds, acells, zeroCells, tsz, elemT, rdCells, aLoad, fresh, aNum, aBuiltin, aBin, aInt, putC, evO, Nat.reduceAdd, Nat.reduceMul, Nat.reduceLT, Nat.reduceBEq, Nat.reduceEqDiff, Nat.reduceLeDiff, ↓reduceIte, reduceCtorEq, stpT, Rd.foot, writing, touching, Tr.empty, dynPairs, apartT, disj, aBuildSlice, aBuildAt, partsOf, fillA, repC, isSliceT, aAppend, srcOf, window, mutX, snaps, aSlice, aBounds, bMax, bHigh, bLow, Int.reduceLE, Int.reduceToNat, ZT, F_116, callVT, ea_mut, g1, g2, hnk, w0, w1, w2, hc, room22 (show 1 ≤ 1000000 by omega)]
    exact ⟨_, rfl, rfl⟩
/-- From no number chosen. -/
structure EaN (xs : List Int) (n : Nat) (new : List (List Int)) (H : AHeap) : Prop where
  h0 : hget H 0 = some ⟨.box, [.int .i64 n]⟩
  h1 : hget H 1 = some ⟨.box, [vB 2]⟩
  h2 : hget H 2 = some ⟨.box, [oV 560 1 new.length]⟩
  h3 : hget H 3 = some ⟨.box, [.ref 4 0 (n + 1) (n + 1) (n + 1) 1 false]⟩
  h4 : hget H 4 = some ⟨.row, ics xs⟩
  h5 : hget H 5 = some ⟨.box, [puK 0 1 3 5]⟩
  hr : 0 < new.length → hget H 560 = some ⟨.row, lcs new⟩
theorem ea_none {d n : Nat} {xs : List Int} {x : Nat → Int} (hn0 : 0 < n) (h6 : n ≤ 6) (hxl : xs.length = n + 1) (hxx : ∀ j, j ≤ n → (ics xs)[j]? = some (.int .i64 (x j))) (hxb : ∀ j, j ≤ n → 0 ≤ x j ∧ x j ≤ 500) {sum : Int} (hs : sum = 0) :
    ∃ H, pF (d + n + 3) 116 [.nilsl, .int .i64 sum, .int .i64 8, .ptr 0 0 1, .ptr 1 0 1, .ptr 3 0 1, .ptr 5 0 1] (ehN (ics xs) n) 64 = some (.tup [], H) ∧ EaN xs n (eaR x n n [] sum 8) H := by
  obtain ⟨m, rfl⟩ : ∃ m, n = m + 1 := ⟨n - 1, by omega⟩
  have hb1 := hxb 1 (by omega)
  have hbn := hxb (m + 1) (Nat.le_refl _)
  obtain ⟨t0, ht0⟩ : ∃ t0 : Int, min 8 (x 1 - sum) = t0 := ⟨_, rfl⟩
  have ht8 : t0 ≤ 8 := by omega
  have ht1 : t0 < ((100 : Nat) : Int) := by omega
  have hc9 := cntE_le (x (m + 1) - sum) (m + 1) 100 t0 ht8
  obtain ⟨hin, hout⟩ := cntE_spec (x (m + 1) - sum) (m + 1) 100 t0 ht1
  clear ht1
  obtain ⟨c, hcc⟩ : ∃ c : Nat, cntE (x (m + 1) - sum) (m + 1) 100 t0 = c := ⟨_, rfl⟩
  rw [hcc] at hin hout hc9
  have hall : eaP x (m + 1) m [] sum t0 c = eaR x (m + 1) (m + 1) [] sum 8 := by rw [eaR_succ, List.length_nil, Nat.zero_add, ht0, hcc]
  clear hcc
  have hrec : ∀ j : Nat, j < c → EaC (d + m + 3) [t0 - j] xs x (m + 1) 1 m (sum + (t0 - j)) (t0 - j) := fun j hj => by
    have := (hin j hj).2
    exact ea_all hn0 h6 hxl hxx hxb m [t0 - j] 1 (sum + (t0 - j)) (t0 - j) rfl (by omega) (by omega) (by omega)
  have hxlen : (ics xs).length = m + 1 + 1 := by rw [ics_length, hxl]
  have hx1 : (ics xs)[1]? = some (.int .i64 (x 1)) := hxx 1 (by omega)
  have hxn : (ics xs)[m + 1]? = some (.int .i64 (x (m + 1))) := hxx (m + 1) (Nat.le_refl _)
  have gk : ¬ (0 : Int) = ((m + 1 : Nat) : Int) := by omega
  have gk' : ((0 : Int) == ((m + 1 : Nat) : Int)) = false := by rw [beq_eq_false_iff_ne]; exact gk
  have b1 : (0 : Int) ≤ 1 ∧ (1 : Int) < ((m + 1 + 1 : Nat) : Int) := by omega
  have bn : (0 : Int) ≤ ((m + 1 : Nat) : Int) ∧ ((m + 1 : Nat) : Int) < ((m + 1 + 1 : Nat) : Int) := by omega
  have w1 : ∀ _ : Unit, wrp .i64 (x (m + 1) - sum) = x (m + 1) - sum := fun _ => wrp64 (by omega)
  have w2 : ∀ _ : Unit, wrp .i64 (x 1 - sum) = x 1 - sum := fun _ => wrp64 (by omega)
  have w3 : wrp .i64 (0 + 1) = 1 := rfl
  have emin : (if x 1 - sum < 8 then x 1 - sum else 8) = t0 := by rw [← ht0]; split <;> omega
  have e2 : ∀ j : Nat, t0 - ((j + 1 : Nat) : Int) = t0 - j - 1 := fun j => by omega
  have z0 : t0 - ((0 : Nat) : Int) = t0 := by omega
  have hnk : ∀ _ : Unit, wrp .i64 (((m + 1 : Nat) : Int) - 0) = ((m + 1 : Nat) : Int) := fun _ => by rw [wrp64 (by omega)]; omega
  have hmb := mulb (t := t0 - c) (m := m + 1) (by omega) (by omega)
  obtain ⟨P, hP⟩ : ∃ P, (t0 - c) * ((m + 1 : Nat) : Int) = P := ⟨_, rfl⟩
  rw [hP] at hout hmb
  have w0 : ∀ _ : Unit, wrp .i64 ((t0 - c) * ((m + 1 : Nat) : Int)) = P := fun _ => by rw [hP]; exact wrp64 (by omega)
  clear hP
  have h9c : ∀ _ : Unit, 9 ^ (m + 1) ≤ 531441 := fun _ => by have := Nat.pow_le_pow_right (n := 9) (by omega) (show m + 1 ≤ 6 by omega); omega
  have h9s : 9 ^ (m + 1) = 9 * 9 ^ m := by rw [Nat.pow_succ, Nat.mul_comm]
  have hfl : ∀ j, j < c → (eaP x (m + 1) m [] sum t0 j).length ≤ 8 * 9 ^ m := fun j hj => Nat.le_trans (eaP_len x (m + 1) m [] sum t0 ht8 j) (Nat.mul_le_mul_right _ (by omega))
  have hA8 : ∀ j, j < c → (eaP x (m + 1) m [] sum t0 j).length + 9 ^ m ≤ 900000 := fun j hj => nineA (hfl j hj) (by rw [← h9s]; exact h9c ())
  clear h9s
  rw [show d + (m + 1) + 3 = (d + m + 3) + 1 by omega, pF_s]
  have hloop := loopM (f := execA E (kF (d + m + 3)) (fg 116) 64 62 (ehN (ics xs) (m + 1)) 1000000 c116_16) (E0 := ehN (ics xs) (m + 1)) (fun j => esN xs (m + 1) sum (x (m + 1) - sum) (t0 - j) (eaP x (m + 1) m [] sum t0 j)) c (fun j hj => by
      simp only [eaP_snoc, e2]
      exact eaN_go rfl (by omega) (by omega) (by omega) (hin j hj) (hrec j hj) (eaP x (m + 1) m [] sum t0 j) (hA8 j hj)) (by
      have e0 : eaP x (m + 1) m [] sum t0 0 = [] := rfl
      simp only [esN, e0]; rfl) (by omega)
    (e := .exit 0) (se := ([(46, .bool false), (12, .int .i64 (t0 - c)), (11, .int .i64 (x (m + 1) - sum)), (10, .int .i64 0), (6, .ptr 5 0 1), (3, .ptr 0 0 1), (1, .int .i64 sum), (0, .nilsl)], (0, ⟨.box, [.int .i64 ((m + 1 : Nat) : Int)]⟩) :: (1, ⟨.box, [vB 2]⟩) :: (2, ⟨.box, [oV 560 1 (eaR x (m + 1) (m + 1) [] sum 8).length]⟩) :: (3, ⟨.box, [.ref 4 0 (m + 1 + 1) (m + 1 + 1) (m + 1 + 1) 1 false]⟩) :: (4, ⟨.row, ics xs⟩) :: (5, ⟨.box, [puK 0 1 3 5]⟩) :: oH 560 (lcs (eaR x (m + 1) (m + 1) [] sum 8))))
    (by
      simp only [esN, hall, ehN]
      generalize x (m + 1) - sum = lf at *
      by_cases g1 : P ≥ lf
      · have g2 : ¬ t0 - c ≥ 0 := fun h => hout ⟨g1, h⟩
        rcases ocvL 560 (eaR x (m + 1) (m + 1) [] sum 8) with ⟨_, o1, o2⟩ | ⟨_, o1, o2⟩ <;> rw [o1, o2] <;>
          simp (disch := omega) only [ZF, ↓gd, stp, opPick, just, Rd.bind, Rd.run, Rd.opt, upds, rdCells, aLoad, aBin, aInt, Nat.reduceBEq, Nat.reduceEqDiff, Nat.reduceLeDiff, ↓reduceIte, ZT, F_116, hnk (), w0 (), g1, g2]
      · rcases ocvL 560 (eaR x (m + 1) (m + 1) [] sum 8) with ⟨_, o1, o2⟩ | ⟨_, o1, o2⟩ <;> rw [o1, o2] <;>
          simp (disch := omega) only [ZF, ↓gd, stp, opPick, just, Rd.bind, Rd.run, Rd.opt, upds, rdCells, aLoad, aBin, aInt, Nat.reduceBEq, Nat.reduceEqDiff, Nat.reduceLeDiff, ↓reduceIte, ZT, F_116, hnk (), w0 (), g1]) (by simp)
  have e0 : eaP x (m + 1) m [] sum t0 0 = [] := rfl
  have v0 : oV 560 1 ([] : List (List Int)).length = .nilsl := rfl
  have o0 : oH 560 (lcs []) = [] := rfl
  simp only [esN, e0, v0, o0, z0, ehN] at hloop
  simp only [ehN]
  generalize eaR x (m + 1) (m + 1) [] sum 8 = R at *
  generalize kF (d + m + 3) = C at *
  rcases ocvL 560 R with ⟨hn1, o1, o2⟩ | ⟨hp1, o1, o2⟩ <;> rw [o1, o2] at hloop
  · simp (disch := omega) only [ZF, frame0, stp, justO, just, Rd.bind, Rd.run, Rd.opt, upds, tsz, rdCells, aLoad, resA, resL, aIndexAddr, aNum, aLen, aBuiltin, aMin, aBin, aInt, Nat.reduceAdd, Nat.reduceMul, Nat.reduceLT, Nat.reduceBEq, Nat.reduceEqDiff, Nat.reduceLeDiff, ↓reduceIte, reduceCtorEq, Int.reduceToNat, ZT, F_116, hxlen, hx1, hxn, w1 (), w2 (), w3, b1, bn, gk', emin, hloop]
    refine ⟨_, rfl, ?_⟩
    exact ⟨rfl, rfl, by rw [o1]; rfl, rfl, rfl, rfl, fun h => by rw [hn1] at h; simp at h⟩
  · simp (disch := omega) only [ZF, frame0, stp, justO, just, Rd.bind, Rd.run, Rd.opt, upds, tsz, rdCells, aLoad, resA, resL, aIndexAddr, aNum, aLen, aBuiltin, aMin, aBin, aInt, Nat.reduceAdd, Nat.reduceMul, Nat.reduceLT, Nat.reduceBEq, Nat.reduceEqDiff, Nat.reduceLeDiff, ↓reduceIte, reduceCtorEq, Int.reduceToNat, ZT, F_116, hxlen, hx1, hxn, w1 (), w2 (), w3, b1, bn, gk', emin, hloop]
    refine ⟨_, rfl, ?_⟩
    exact ⟨rfl, rfl, by rw [o1]; rfl, rfl, rfl, rfl, fun h => rfl⟩
end Go.AM.Ytfmnoohhhokicaa
end

section
namespace Go.AM.Rub
set_option maxRecDepth 100000
/-- The numbers from one down, some of them. -/
theorem rowsL_none : ∀ (m : Nat) (s t : Int), s > t * (m : Int) → rowsL m s t = []
  | 0, s, t, h => by
    simp only [rowsL]
    rw [if_neg (by intro e; simp [e] at h)]
  | m + 1, s, t, h => by
    simp only [rowsL]
    rw [List.flatMap_eq_nil_iff]
    intro u hu
    have hu := (mem_dn _ _).1 hu
    rw [rowsL_none m (s - u) u]
    · rfl
    · have h1 : u * ((m : Int) + 1) ≤ t * ((m : Int) + 1) := Int.mul_le_mul_of_nonneg_right (by omega) (by omega)
      have h2 : ((m + 1 : Nat) : Int) = (m : Int) + 1 := by omega
      rw [h2] at h
      rw [Int.mul_add, Int.mul_one] at h1
      omega
/-- Prefix sums stay below x from a place on. -/
def okE (x : Nat → Int) : Nat → Int → List Int → Bool
  | _, _, [] => true
  | k, s, t :: r => decide (s + t ≤ x (k + 1)) && okE x (k + 1) (s + t) r
theorem okE_of {x : Nat → Int} : ∀ (r : List Int) (k : Nat) (s : Int), okE x k s r = true ↔ ∀ j, j < r.length → s + ps (rowF r) (j + 1) ≤ x (k + j + 1)
  | [], k, s => by simp [okE]
  | t :: r, k, s => by
    simp only [okE, Bool.and_eq_true, decide_eq_true_eq, okE_of r (k + 1) (s + t)]
    constructor
    · rintro ⟨h1, h2⟩ j hj
      cases j with
      | zero => simpa [ps, rowF] using h1
      | succ j =>
        have := h2 j (by simpa using hj)
        rw [ps_cons]
        rw [show k + (j + 1) + 1 = k + 1 + j + 1 by omega]
        omega
    · intro h
      refine ⟨by simpa [ps, rowF] using h 0 (by simp), fun j hj => ?_⟩
      have := h (j + 1) (by simpa using hj)
      rw [ps_cons] at this
      rw [show k + (j + 1) + 1 = k + 1 + j + 1 by omega] at this
      omega
theorem dnN_split : ∀ (n k : Nat), k ≤ n + 1 → dnN n = ((List.range (n + 1 - k)).map fun (i : Nat) => (n : Int) - i) ++ (if k = 0 then [] else dnN (k - 1)) := by
  intro n k hk
  cases k with
  | zero => simp [dnN_range]
  | succ k =>
    rw [if_neg (by omega), dnN_range, dnN_range, show n + 1 = (n - k) + (k + 1) by omega, List.range_add, List.map_append, List.map_map]
    rw [show n - k + (k + 1) - (k + 1) = n - k by omega]
    congr 1
    rw [show k + 1 - 1 + 1 = k + 1 by omega]
    apply List.map_congr_left
    intro a ha
    simp only [Function.comp_apply]
    omega
theorem dn_split {k c : Int} (h : c ≤ k) (h0 : -1 ≤ c) : dn k = ((List.range (k - c).toNat).map fun (i : Nat) => k - i) ++ dn c := by
  unfold dn
  by_cases hk : k < 0
  · rw [if_pos hk, if_pos (by omega), show (k - c).toNat = 0 by omega]; rfl
  · rw [if_neg hk, dnN_split k.toNat (c + 1).toNat (by omega), show k.toNat + 1 - (c + 1).toNat = (k - c).toNat by omega]
    congr 1
    · apply List.map_congr_left
      intro a _
      omega
    · by_cases hc : c < 0
      · rw [if_pos (by omega), if_pos hc]
      · rw [if_neg (by omega), if_neg hc]; congr 1; omega
theorem flat_nil {α β : Type} {f : α → List β} {l : List α} (h : ∀ a ∈ l, f a = []) : l.flatMap f = [] := List.flatMap_eq_nil_iff.2 h
theorem flat_congr {α β : Type} {f g : α → List β} : ∀ {l : List α}, (∀ a ∈ l, f a = g a) → l.flatMap f = l.flatMap g
  | [], _ => rfl
  | a :: l, h => by rw [List.flatMap_cons, List.flatMap_cons, h a (by simp), flat_congr fun b hb => h b (by simp [hb])]
theorem filter_flat {α β : Type} {f : α → List β} {p : β → Bool} : ∀ {l : List α}, (l.flatMap f).filter p = l.flatMap fun a => (f a).filter p
  | [] => rfl
  | a :: l => by rw [List.flatMap_cons, List.flatMap_cons, List.filter_append, filter_flat]
/-- What is gone through. -/
theorem eaR_eq {x : Nat → Int} {n : Nat} (hx : ∀ j, j ≤ n → x j ≤ x n) : ∀ (m : Nat) (l : List Int) (sum most : Int), l.length + m = n → most ≤ 8 → (m = 0 → sum = x n) →
    eaR x n m l sum most = ((rowsL m (x n - sum) most).filter (okE x l.length sum)).map (l ++ ·)
  | 0, l, sum, most, _, _, h => by
    have := h rfl
    simp [eaR, rowsL, this, okE, List.filter_cons]
  | m + 1, l, sum, most, hl, hm, _ => by
    obtain ⟨t0, ht0⟩ : ∃ t0 : Int, min most (x (l.length + 1) - sum) = t0 := ⟨_, rfl⟩
    obtain ⟨c, hc⟩ : ∃ c : Nat, cntE (x n - sum) (m + 1) 100 t0 = c := ⟨_, rfl⟩
    obtain ⟨hin, hout⟩ := cntE_spec (x n - sum) (m + 1) 100 t0 (by omega)
    have hxk := hx (l.length + 1) (by omega)
    rw [hc] at hin hout
    rw [eaR_succ, ht0, hc, eaP]
    have hc0 : c = 0 ∨ t0 - c ≥ -1 := by
      rcases Nat.eq_zero_or_pos c with h | h
      · exact .inl h
      · right
        have := (hin (c - 1) (by omega)).2
        omega
    have hle : t0 ≤ min most (x n - sum) := by omega
    have hbad : ∀ t : Int, t ≤ t0 - c → 0 ≤ t → rowsL m (x n - sum - t) t = [] := by
      intro t h1 h2
      apply rowsL_none
      have h3 : ¬ (t0 - c) * ((m + 1 : Nat) : Int) ≥ x n - sum := fun h => hout ⟨h, by omega⟩
      have h4 : t * ((m : Int) + 1) ≤ (t0 - c) * ((m : Int) + 1) := Int.mul_le_mul_of_nonneg_right h1 (by omega)
      have h5 : ((m + 1 : Nat) : Int) = (m : Int) + 1 := by omega
      rw [h5] at h3
      rw [Int.mul_add t, Int.mul_one] at h4
      omega
    simp only [rowsL]
    rw [filter_flat, List.map_flatMap]
    have hgo : ∀ t : Int, t ≤ t0 → (((rowsL m (x n - sum - t) t).map (t :: ·)).filter (okE x l.length sum)).map (l ++ ·) = ((rowsL m (x n - (sum + t)) t).filter (okE x (l ++ [t]).length (sum + t))).map ((l ++ [t]) ++ ·) := by
      intro t ht
      rw [show x n - (sum + t) = x n - sum - t by omega]
      rw [List.filter_map, List.map_map]
      have e1 : (okE x l.length sum) ∘ (t :: ·) = okE x (l ++ [t]).length (sum + t) := by
        funext r
        simp only [Function.comp_apply, okE, List.length_append, List.length_singleton]
        rw [decide_eq_true (by omega)]
        simp
      rw [e1]
      apply List.map_congr_left
      intro r _
      simp
    by_cases hneg : min most (x n - sum) < 0
    · have : dn (min most (x n - sum)) = [] := by unfold dn; rw [if_pos hneg]
      rw [this, List.flatMap_nil]
      apply flat_nil
      intro i hi
      have := (hin i (List.mem_range.1 hi)).2
      omega
    · have hsp : dn (min most (x n - sum)) = ((List.range (min most (x n - sum) - max t0 (-1)).toNat).map fun (i : Nat) => min most (x n - sum) - i) ++ dn (max t0 (-1)) := dn_split (by omega) (by omega)
      rw [hsp, List.flatMap_append]
      have z1 : (((List.range (min most (x n - sum) - max t0 (-1)).toNat).map fun (i : Nat) => min most (x n - sum) - i).flatMap fun t => (((rowsL m (x n - sum - t) t).map (t :: ·)).filter (okE x l.length sum)).map (l ++ ·)) = [] := by
        apply flat_nil
        intro t ht
        obtain ⟨i, hi, rfl⟩ := List.mem_map.1 ht
        have hi := List.mem_range.1 hi
        rw [List.map_eq_nil_iff, List.filter_eq_nil_iff]
        intro r hr
        obtain ⟨r', hr', rfl⟩ := List.mem_map.1 hr
        simp only [okE]
        rw [decide_eq_false (by omega)]
        simp
      rw [z1, List.nil_append]
      by_cases ht : t0 < 0
      · have : dn (max t0 (-1)) = [] := by unfold dn; rw [if_pos (by omega)]
        rw [this, List.flatMap_nil]
        apply flat_nil
        intro i hi
        have := (hin i (List.mem_range.1 hi)).2
        omega
      · rw [show max t0 (-1) = t0 by omega]
        have hsp2 : dn t0 = ((List.range c).map fun (i : Nat) => t0 - i) ++ dn (t0 - c) := by
          have := dn_split (k := t0) (c := t0 - c) (by omega) (by omega)
          rw [show (t0 - (t0 - c)).toNat = c by omega] at this
          exact this
        rw [hsp2, List.flatMap_append, List.flatMap_map]
        have z2 : ((dn (t0 - c)).flatMap fun t => (((rowsL m (x n - sum - t) t).map (t :: ·)).filter (okE x l.length sum)).map (l ++ ·)) = [] := by
          apply flat_nil
          intro t ht
          have := (mem_dn _ _).1 ht
          rw [hbad t (by omega) this.1]
          rfl
        rw [z2, List.append_nil]
        apply flat_congr
        intro i hi
        have hi2 := hin i (List.mem_range.1 hi)
        rw [hgo (t0 - i) (by omega)]
        refine eaR_eq hx m (l ++ [t0 - i]) (sum + (t0 - i)) (t0 - i) (by simp; omega) (by omega) fun hm0 => ?_
        subst hm0
        have e : l.length + 1 = n := by omega
        rw [e] at ht0
        have h1 := hi2.1
        rw [show ((0 + 1 : Nat) : Int) = 1 from rfl, Int.mul_one] at h1
        omega
end Go.AM.Rub
end

section
namespace Go.AM.Ytfmnoohhhokicaa
open Go Go.AM Go.AM.Rub
set_option maxRecDepth 100000
set_option maxHeartbeats 8000000
theorem newsEN {xs : List Int} {n : Nat} {new : List (List Int)} {H : AHeap} (h : EaN xs n new H) : newsF H (.tup []) 6 = if new = [] then [] else [560] := by
  obtain ⟨h0, h1, h2, h3, h4, h5, hr⟩ := h
  have e : refsOf (.tup []) ++ List.range 6 = [0, 1, 2, 3, 4, 5] := rfl
  unfold newsF
  rw [e]
  cases hn : new with
  | nil =>
    subst hn
    rw [if_pos rfl]
    have hv : oV 560 1 ([] : List (List Int)).length = .nilsl := rfl
    rw [hv] at h2
    simp [mark, h0, h1, h2, h3, h4, h5, refsL, refsOf]
  | cons x xs =>
    rw [← hn]
    have hp : 0 < new.length := by rw [hn]; simp
    rw [if_neg (by rw [hn]; simp)]
    rw [ov_pos hp] at h2
    have hr := hr hp
    simp [mark, h0, h1, h2, h3, h4, h5, hr, refsL, refsOf]
theorem ea_top {d n : Nat} {xs : List Int} {x : Nat → Int} (hn0 : 0 < n) (h6 : n ≤ 6) (hxl : xs.length = n + 1) (hxx : ∀ j, j ≤ n → (ics xs)[j]? = some (.int .i64 (x j))) (hxb : ∀ j, j ≤ n → 0 ≤ x j ∧ x j ≤ 500) :
    kF (d + n + 3) 116 [.nilsl, .int .i64 0, .int .i64 8, .ptr 125 0 1, .ptr 123 0 1, .ptr 124 0 1, .ptr 126 0 1] [(5, ⟨.box, [.nilsl]⟩), (123, ⟨.box, [vB 5]⟩), (124, ⟨.box, [.ref 128 0 (n + 1) (n + 1) (n + 1) 1 false]⟩), (125, ⟨.box, [.int .i64 n]⟩), (126, ⟨.box, [puK 125 123 124 126]⟩), (128, ⟨.row, ics xs⟩)] 232 =
    some (.tup [], (5, ⟨.box, [oV 232 1 (eaR x n n [] 0 8).length]⟩) :: (123, ⟨.box, [vB 5]⟩) :: (124, ⟨.box, [.ref 128 0 (n + 1) (n + 1) (n + 1) 1 false]⟩) :: (125, ⟨.box, [.int .i64 n]⟩) :: (126, ⟨.box, [puK 125 123 124 126]⟩) :: (128, ⟨.row, ics xs⟩) :: oH 232 (lcs (eaR x n n [] 0 8))) := by
  obtain ⟨H, hp, ro⟩ := ea_none (d := d) hn0 h6 hxl hxx hxb (sum := 0) rfl
  rw [kF_fr rfl]
  have hks : (mark [(5, ⟨.box, [.nilsl]⟩), (123, ⟨.box, [vB 5]⟩), (124, ⟨.box, [.ref 128 0 (n + 1) (n + 1) (n + 1) 1 false]⟩), (125, ⟨.box, [.int .i64 n]⟩), (126, ⟨.box, [puK 125 123 124 126]⟩), (128, ⟨.row, ics xs⟩)] 1000 (refsL [.nilsl, .int .i64 0, .int .i64 8, .ptr 125 0 1, .ptr 123 0 1, .ptr 124 0 1, .ptr 126 0 1]) []).reverse = [125, 123, 5, 124, 128, 126] := rfl
  have hap : AM.apart [125, 123, 5, 124, 128, 126] = true := rfl
  have e1 : renL (posF [125, 123, 5, 124, 128, 126] 0) [.nilsl, .int .i64 0, .int .i64 8, .ptr 125 0 1, .ptr 123 0 1, .ptr 124 0 1, .ptr 126 0 1] = some [.nilsl, .int .i64 0, .int .i64 8, .ptr 0 0 1, .ptr 1 0 1, .ptr 3 0 1, .ptr 5 0 1] := rfl
  have e2 : foc (posF [125, 123, 5, 124, 128, 126] 0) [(5, ⟨.box, [.nilsl]⟩), (123, ⟨.box, [vB 5]⟩), (124, ⟨.box, [.ref 128 0 (n + 1) (n + 1) (n + 1) 1 false]⟩), (125, ⟨.box, [.int .i64 n]⟩), (126, ⟨.box, [puK 125 123 124 126]⟩), (128, ⟨.row, ics xs⟩)] 0 [125, 123, 5, 124, 128, 126] = some (ehN (ics xs) n) := rfl
  have hn := newsEN ro
  obtain ⟨h0, h1, h2, h3, h4, h5, hr⟩ := ro
  have hl6 : ([125, 123, 5, 124, 128, 126] : List Nat).length = 6 := rfl
  have er : List.range 6 = [0, 1, 2, 3, 4, 5] := rfl
  rw [hks]
  unfold focus
  rw [if_pos hap]
  simp only [e1, e2, hp, backF, hl6, hn, er]
  generalize eaR x n n [] 0 8 = R at *
  rcases ocvL 232 R with ⟨hn0, o1, o2⟩ | ⟨hp0, o1, o2⟩
  · rw [o1, o2]
    rw [hn0] at h2
    have hv : oV 560 1 ([] : List (List Int)).length = .nilsl := rfl
    rw [hv] at h2
    simp only [hn0, if_true, List.length_nil, baseF, freeL, AM.apart, List.append_nil, ren, renL, unf, outF, posF, h0, h1, h2, h3, h4, h5, List.getElem?_cons_zero, List.getElem?_cons_succ, Nat.reduceLT, if_true, goodB, BS.open_, Bool.true_or, renB, hl6, upds, hset_cons', hset_nil', Nat.reduceEqDiff, Nat.reduceLeDiff, if_false, Nat.reduceAdd]
  · rw [o1, o2]
    rw [ov_pos hp0] at h2
    have hr := hr hp0
    have hne : ¬ R = [] := fun e => by rw [e] at hp0; simp at hp0
    have hbase : baseF [(5, ⟨.box, [.nilsl]⟩), (123, ⟨.box, [vB 5]⟩), (124, ⟨.box, [.ref 128 0 (n + 1) (n + 1) (n + 1) 1 false]⟩), (125, ⟨.box, [.int .i64 n]⟩), (126, ⟨.box, [puK 125 123 124 126]⟩), (128, ⟨.row, ics xs⟩)] 1 8 232 = some 232 := rfl
    simp only [hne, if_false, List.length_cons, List.length_nil, Nat.zero_add, hbase, AM.apart, List.elem_nil, Bool.not_false, Bool.and_self, if_true, List.cons_append, List.nil_append, ren, renL, unf, outF, posF, h0, h1, h2, h3, h4, h5, hr, List.getElem?_cons_zero, List.getElem?_cons_succ, Nat.reduceLT, goodB, BS.open_, Bool.true_or, renB, hl6, upds, hset_cons', hset_nil', Nat.reduceEqDiff, Nat.reduceLeDiff, Nat.add_zero, reduceCtorEq]
/-- The rows below a row, as they come. -/
def beL (row : List Int) : List (List Int) := eaR (ps (rowF row)) row.length row.length [] 0 8
theorem each_run {d n : Nat} {row : List Int} {a : AV} (ha : IV row a) (h : Rw n row) (h0 : 0 < n) (h6 : n ≤ 6) : ∃ H, bodyA E (kF (d + n + 3)) fg 1000000 92 [a, vB 5] [(5, ⟨.box, [.nilsl]⟩)] 120 = some (.tup [], H) ∧ hget H 5 = some ⟨.box, [oV 232 1 (beL row).length]⟩ ∧ (0 < (beL row).length → hget H 232 = some ⟨.row, lcs (beL row)⟩) := by
  have hl := h.len
  obtain ⟨ex, rfl⟩ := iv_ne ha (by omega)
  have hb := ps_b h
  have hri := fun (site : Nat → Nat) seen => rises_call (d := d + n + 2) (site := site) (seen := seen) (iv_imm row ex) h (by omega)
  have hc := ea_top (d := d) (n := n) (xs := riL row) (x := ps (rowF row)) h0 h6 (by unfold riL; rw [riP_len, hl]) (fun j hj => ics_at (riP_at (by omega))) (fun j hj => by have := hb j hj; omega)
  have e : eaR (ps (rowF row)) n n [] 0 8 = beL row := by unfold beL; rw [hl]
  rw [e] at hc
  rw [hl] at hri
  have hlen := ics_length row
  simp only [hl] at hri ⊢
  generalize beL row = R at *
  generalize kF (d + n + 3) = C at *
  rcases ocvL 232 R with ⟨hn1, o1, o2⟩ | ⟨hp1, o1, o2⟩ <;> rw [o1, o2] at hc
  · simp (disch := omega) only [ZF, frame0, stp, opBox, just, Rd.bind, Rd.run, Rd.opt, upds, acells, zeroCells, tsz, rdCells, aLoad, aStore, opStore, resA, resL, fresh, aLen, aBuiltin, putC, Nat.reduceAdd, Nat.reduceMul, Nat.reduceBEq, Nat.reduceEqDiff, Nat.reduceLeDiff, ↓reduceIte, reduceCtorEq, mutX, aCall, snaps, ZT, F_92, callV, ea_mut, hri, hc]
    refine ⟨_, rfl, ?_⟩
    exact ⟨by rw [o1]; rfl, fun h => by rw [hn1] at h; simp at h⟩
  · simp (disch := omega) only [ZF, frame0, stp, opBox, just, Rd.bind, Rd.run, Rd.opt, upds, acells, zeroCells, tsz, rdCells, aLoad, aStore, opStore, resA, resL, fresh, aLen, aBuiltin, putC, Nat.reduceAdd, Nat.reduceMul, Nat.reduceBEq, Nat.reduceEqDiff, Nat.reduceLeDiff, ↓reduceIte, reduceCtorEq, mutX, aCall, snaps, ZT, F_92, callV, ea_mut, hri, hc]
    refine ⟨_, rfl, ?_⟩
    exact ⟨by rw [o1]; rfl, fun h => rfl⟩
end Go.AM.Ytfmnoohhhokicaa
end

section
namespace Go.AM.Ytfmnoohhhokicaa
open Go Go.AM
set_option maxRecDepth 100000
variable {C : Callee} {B N : Nat} {E0 : AHeap} (φ : AFr) (H : AHeap) (s : St)
noncomputable def c15_0 : Code := kBody Proofs.Try.f15
noncomputable def c15_1 : Code := kL c15_0
noncomputable def r15_0 : Array Oper := kO c15_1
noncomputable def o15_0_0 : Oper := opN r15_0 0
noncomputable def o15_0_1 : Oper := opN r15_0 1
noncomputable def o15_0_2 : Oper := opN r15_0 2
theorem x15_1 : execA E C (fg 15) B 108 E0 N c15_1 s = regX (runA E C B 108 r15_0 r15_0.toList s) (fun s => gcM E0 [0, 1, 4] (forget s.1 [0, 1, 4], s.2)) := x_reg (ops := r15_0) (by rfl) (by rfl) s
theorem r15_0_l : r15_0.toList = [o15_0_0, o15_0_1, o15_0_2] := nrfl rfl
theorem s15_0_0 : stepA E C B 108 r15_0 o15_0_0 (φ, H) = stp (some 2) φ H (opBox (B + 2) (acells (fget φ 0))) := nrfl rfl
theorem s15_0_1 : stepA E C B 108 r15_0 o15_0_1 (φ, H) = stp (some 3) φ H (opBox (B + 3) (acells (fget φ 1))) := nrfl rfl
theorem s15_0_2 : stepA E C B 108 r15_0 o15_0_2 (φ, H) = some (fput φ 4 (.bool false), H) := nrfl rfl
noncomputable def c15_2 : Code := kR c15_0
noncomputable def c15_3 : Code := kL c15_2
noncomputable def r15_1 : Array Oper := kO c15_3
noncomputable def o15_1_0 : Oper := opN r15_1 0
noncomputable def o15_1_1 : Oper := opN r15_1 1
noncomputable def o15_1_2 : Oper := opN r15_1 2
theorem x15_3 : execA E C (fg 15) B 108 E0 N c15_3 s = regX (runA E C B 108 r15_1 r15_1.toList s) (fun s => gcM E0 [2, 18, 19] (forget s.1 [2, 18, 19], s.2)) := x_reg (ops := r15_1) (by rfl) (by rfl) s
theorem r15_1_l : r15_1.toList = [o15_1_0, o15_1_1, o15_1_2] := nrfl rfl
theorem s15_1_0 : stepA E C B 108 r15_1 o15_1_0 (φ, H) = stp (some 18) φ H (just (aLoad E.T 49 (fget φ 2))) := nrfl rfl
theorem s15_1_1 : stepA E C B 108 r15_1 o15_1_1 (φ, H) = stp (some 19) φ H (aCall C (fun j => B + j * 108 + 19) true 56 [(fget φ 18), (.int .i64 5), (.int .i64 6)]) := nrfl rfl
theorem s15_1_2 : stepA E C B 108 r15_1 o15_1_2 (φ, H) = some (fput φ 5 (fget φ 19), H) := nrfl rfl
noncomputable def c15_4 : Code := kR c15_2
noncomputable def c15_5 : Code := kL c15_4
noncomputable def r15_2 : Array Oper := kO c15_5
noncomputable def o15_2_0 : Oper := opN r15_2 0
noncomputable def o15_2_1 : Oper := opN r15_2 1
noncomputable def o15_2_2 : Oper := opN r15_2 2
noncomputable def o15_2_3 : Oper := opN r15_2 3
noncomputable def o15_2_4 : Oper := opN r15_2 4
noncomputable def o15_2_5 : Oper := opN r15_2 5
theorem x15_5 : execA E C (fg 15) B 108 E0 N c15_5 s = regX (runA E C B 108 r15_2 r15_2.toList s) (fun s => gcM E0 [20, 21, 22, 23, 24] (forget s.1 [20, 21, 22, 23, 24], s.2)) := x_reg (ops := r15_2) (by rfl) (by rfl) s
theorem r15_2_l : r15_2.toList = [o15_2_0, o15_2_1, o15_2_2, o15_2_3, o15_2_4, o15_2_5] := nrfl rfl
theorem s15_2_0 : stepA E C B 108 r15_2 o15_2_0 (φ, H) = some (fput φ 20 (fget φ 5), H) := nrfl rfl
theorem s15_2_1 : stepA E C B 108 r15_2 o15_2_1 (φ, H) = stp (some 21) φ H (aBuiltin E.T (B + 21) .len #[22] [(fget φ 20)]) := nrfl rfl
theorem s15_2_2 : stepA E C B 108 r15_2 o15_2_2 (φ, H) = some (fput φ 22 (fget φ 5), H) := nrfl rfl
theorem s15_2_3 : stepA E C B 108 r15_2 o15_2_3 (φ, H) = stp (some 23) φ H (aCall C (fun j => B + j * 108 + 23) true 58 [(fget φ 22)]) := nrfl rfl
theorem s15_2_4 : stepA E C B 108 r15_2 o15_2_4 (φ, H) = stp (some 24) φ H (aCall C (fun j => B + j * 108 + 24) true 59 [(fget φ 21), (fget φ 23)]) := nrfl rfl
theorem s15_2_5 : stepA E C B 108 r15_2 o15_2_5 (φ, H) = some (fput φ 6 (fget φ 24), H) := nrfl rfl
noncomputable def c15_6 : Code := kR c15_4
noncomputable def c15_7 : Code := kL c15_6
noncomputable def r15_3 : Array Oper := kO c15_7
noncomputable def o15_3_0 : Oper := opN r15_3 0
noncomputable def o15_3_1 : Oper := opN r15_3 1
noncomputable def o15_3_2 : Oper := opN r15_3 2
noncomputable def o15_3_3 : Oper := opN r15_3 3
noncomputable def o15_3_4 : Oper := opN r15_3 4
noncomputable def o15_3_5 : Oper := opN r15_3 5
noncomputable def o15_3_6 : Oper := opN r15_3 6
noncomputable def o15_3_7 : Oper := opN r15_3 7
noncomputable def o15_3_8 : Oper := opN r15_3 8
noncomputable def o15_3_9 : Oper := opN r15_3 9
theorem x15_7 : execA E C (fg 15) B 108 E0 N c15_7 s = regX (runA E C B 108 r15_3 r15_3.toList s) (fun s => gcM E0 [3, 25, 26, 27, 28, 29, 30, 31, 32, 33] (forget s.1 [3, 25, 26, 27, 28, 29, 30, 31, 32, 33], s.2)) := x_reg (ops := r15_3) (by rfl) (by rfl) s
theorem r15_3_l : r15_3.toList = [o15_3_0, o15_3_1, o15_3_2, o15_3_3, o15_3_4, o15_3_5, o15_3_6, o15_3_7, o15_3_8, o15_3_9] := nrfl rfl
theorem s15_3_0 : stepA E C B 108 r15_3 o15_3_0 (φ, H) = some (fput φ 25 (fget φ 6), H) := nrfl rfl
theorem s15_3_1 : stepA E C B 108 r15_3 o15_3_1 (φ, H) = stp (some 26) φ H (just (aFieldAddr E.T 49 (fget φ 3) 0)) := nrfl rfl
theorem s15_3_2 : stepA E C B 108 r15_3 o15_3_2 (φ, H) = stp (some 27) φ H (just (aLoad E.T 5 (fget φ 26))) := nrfl rfl
theorem s15_3_3 : stepA E C B 108 r15_3 o15_3_3 (φ, H) = stp (some 28) φ H (justO (aConv E.T 5 3 (fget φ 27))) := nrfl rfl
theorem s15_3_4 : stepA E C B 108 r15_3 o15_3_4 (φ, H) = some (fput φ 29 (fget φ 6), H) := nrfl rfl
theorem s15_3_5 : stepA E C B 108 r15_3 o15_3_5 (φ, H) = stp (some 30) φ H (aBuiltin E.T (B + 30) .len #[39] [(fget φ 29)]) := nrfl rfl
theorem s15_3_6 : stepA E C B 108 r15_3 o15_3_6 (φ, H) = stp (some 31) φ H (just (aBin E.T .rem 3 (fget φ 28) (fget φ 30))) := nrfl rfl
theorem s15_3_7 : stepA E C B 108 r15_3 o15_3_7 (φ, H) = stp (some 32) φ H (just (aIndexAddr E.T 39 (fget φ 25) (fget φ 31))) := nrfl rfl
theorem s15_3_8 : stepA E C B 108 r15_3 o15_3_8 (φ, H) = stp (some 33) φ H (just (aLoad E.T 22 (fget φ 32))) := nrfl rfl
theorem s15_3_9 : stepA E C B 108 r15_3 o15_3_9 (φ, H) = some (fput φ 7 (fget φ 33), H) := nrfl rfl
noncomputable def c15_8 : Code := kR c15_6
noncomputable def c15_9 : Code := kL c15_8
noncomputable def r15_4 : Array Oper := kO c15_9
noncomputable def o15_4_0 : Oper := opN r15_4 0
noncomputable def o15_4_1 : Oper := opN r15_4 1
noncomputable def o15_4_2 : Oper := opN r15_4 2
noncomputable def o15_4_3 : Oper := opN r15_4 3
noncomputable def o15_4_4 : Oper := opN r15_4 4
noncomputable def o15_4_5 : Oper := opN r15_4 5
noncomputable def o15_4_6 : Oper := opN r15_4 6
noncomputable def o15_4_7 : Oper := opN r15_4 7
theorem x15_9 : execA E C (fg 15) B 108 E0 N c15_9 s = regX (runA E C B 108 r15_4 r15_4.toList s) (fun s => gcM E0 [34, 35, 36, 37, 38, 39] (forget s.1 [34, 35, 36, 37, 38, 39], s.2)) := x_reg (ops := r15_4) (by rfl) (by rfl) s
theorem r15_4_l : r15_4.toList = [o15_4_0, o15_4_1, o15_4_2, o15_4_3, o15_4_4, o15_4_5, o15_4_6, o15_4_7] := nrfl rfl
theorem s15_4_0 : stepA E C B 108 r15_4 o15_4_0 (φ, H) = some (fput φ 35 (fget φ 5), H) := nrfl rfl
theorem s15_4_1 : stepA E C B 108 r15_4 o15_4_1 (φ, H) = some (fput φ 36 (fget φ 7), H) := nrfl rfl
theorem s15_4_2 : stepA E C B 108 r15_4 o15_4_2 (φ, H) = stp (some 37) φ H (aCall C (fun j => B + j * 108 + 37) true 27 [(fget φ 35), (fget φ 36)]) := nrfl rfl
theorem s15_4_3 : stepA E C B 108 r15_4 o15_4_3 (φ, H) = some (fput φ 34 (fget φ 37), H) := nrfl rfl
theorem s15_4_4 : stepA E C B 108 r15_4 o15_4_4 (φ, H) = stp (some 38) φ H (opExtract (fget φ 34) 0) := nrfl rfl
theorem s15_4_5 : stepA E C B 108 r15_4 o15_4_5 (φ, H) = stp (some 39) φ H (opExtract (fget φ 34) 1) := nrfl rfl
theorem s15_4_6 : stepA E C B 108 r15_4 o15_4_6 (φ, H) = some (fput φ 8 (fget φ 38), H) := nrfl rfl
theorem s15_4_7 : stepA E C B 108 r15_4 o15_4_7 (φ, H) = some (fput φ 9 (fget φ 39), H) := nrfl rfl
noncomputable def c15_10 : Code := kR c15_8
noncomputable def c15_11 : Code := kL c15_10
noncomputable def r15_5 : Array Oper := kO c15_11
noncomputable def o15_5_0 : Oper := opN r15_5 0
noncomputable def o15_5_1 : Oper := opN r15_5 1
noncomputable def o15_5_2 : Oper := opN r15_5 2
noncomputable def o15_5_3 : Oper := opN r15_5 3
noncomputable def o15_5_4 : Oper := opN r15_5 4
noncomputable def o15_5_5 : Oper := opN r15_5 5
noncomputable def o15_5_6 : Oper := opN r15_5 6
noncomputable def o15_5_7 : Oper := opN r15_5 7
noncomputable def o15_5_8 : Oper := opN r15_5 8
noncomputable def o15_5_9 : Oper := opN r15_5 9
noncomputable def o15_5_10 : Oper := opN r15_5 10
noncomputable def o15_5_11 : Oper := opN r15_5 11
noncomputable def o15_5_12 : Oper := opN r15_5 12
noncomputable def o15_5_13 : Oper := opN r15_5 13
theorem x15_11 : execA E C (fg 15) B 108 E0 N c15_11 s = regX (runA E C B 108 r15_5 r15_5.toList s) (fun s => gcM E0 [40, 41, 42, 43, 44, 45, 46, 47, 48, 49, 50, 51] (forget s.1 [40, 41, 42, 43, 44, 45, 46, 47, 48, 49, 50, 51], s.2)) := x_reg (ops := r15_5) (by rfl) (by rfl) s
theorem r15_5_l : r15_5.toList = [o15_5_0, o15_5_1, o15_5_2, o15_5_3, o15_5_4, o15_5_5, o15_5_6, o15_5_7, o15_5_8, o15_5_9, o15_5_10, o15_5_11, o15_5_12, o15_5_13] := nrfl rfl
theorem s15_5_0 : stepA E C B 108 r15_5 o15_5_0 (φ, H) = some (fput φ 41 (fget φ 5), H) := nrfl rfl
theorem s15_5_1 : stepA E C B 108 r15_5 o15_5_1 (φ, H) = stp (some 42) φ H (aCall C (fun j => B + j * 108 + 42) true 66 [(fget φ 41)]) := nrfl rfl
theorem s15_5_2 : stepA E C B 108 r15_5 o15_5_2 (φ, H) = stp (some 43) φ H (aBuildSlice E.T (B + 43) 22 1 (evO E φ) [(0, Operand.const (Value.int .i64 0))]) := nrfl rfl
theorem s15_5_3 : stepA E C B 108 r15_5 o15_5_3 (φ, H) = stp (some 44) φ H (aBuiltin E.T (B + 44) .append #[22, 22] [(fget φ 42), (fget φ 43)]) := nrfl rfl
theorem s15_5_4 : stepA E C B 108 r15_5 o15_5_4 (φ, H) = some (fput φ 45 (fget φ 7), H) := nrfl rfl
theorem s15_5_5 : stepA E C B 108 r15_5 o15_5_5 (φ, H) = stp (some 46) φ H (aCall C (fun j => B + j * 108 + 46) true 66 [(fget φ 45)]) := nrfl rfl
theorem s15_5_6 : stepA E C B 108 r15_5 o15_5_6 (φ, H) = stp (some 47) φ H (aBuildSlice E.T (B + 47) 22 1 (evO E φ) [(0, Operand.const (Value.int .i64 0))]) := nrfl rfl
theorem s15_5_7 : stepA E C B 108 r15_5 o15_5_7 (φ, H) = stp (some 48) φ H (aBuiltin E.T (B + 48) .append #[22, 22] [(fget φ 46), (fget φ 47)]) := nrfl rfl
theorem s15_5_8 : stepA E C B 108 r15_5 o15_5_8 (φ, H) = stp (some 49) φ H (aCall C (fun j => B + j * 108 + 49) true 27 [(fget φ 44), (fget φ 48)]) := nrfl rfl
theorem s15_5_9 : stepA E C B 108 r15_5 o15_5_9 (φ, H) = some (fput φ 40 (fget φ 49), H) := nrfl rfl
theorem s15_5_10 : stepA E C B 108 r15_5 o15_5_10 (φ, H) = stp (some 50) φ H (opExtract (fget φ 40) 0) := nrfl rfl
theorem s15_5_11 : stepA E C B 108 r15_5 o15_5_11 (φ, H) = stp (some 51) φ H (opExtract (fget φ 40) 1) := nrfl rfl
theorem s15_5_12 : stepA E C B 108 r15_5 o15_5_12 (φ, H) = some (fput φ 10 (fget φ 50), H) := nrfl rfl
theorem s15_5_13 : stepA E C B 108 r15_5 o15_5_13 (φ, H) = some (fput φ 11 (fget φ 51), H) := nrfl rfl
noncomputable def c15_12 : Code := kR c15_10
noncomputable def c15_13 : Code := kL c15_12
noncomputable def r15_6 : Array Oper := kO c15_13
noncomputable def o15_6_0 : Oper := opN r15_6 0
noncomputable def o15_6_1 : Oper := opN r15_6 1
noncomputable def o15_6_2 : Oper := opN r15_6 2
noncomputable def o15_6_3 : Oper := opN r15_6 3
noncomputable def o15_6_4 : Oper := opN r15_6 4
noncomputable def o15_6_5 : Oper := opN r15_6 5
noncomputable def o15_6_6 : Oper := opN r15_6 6
theorem x15_13 : execA E C (fg 15) B 108 E0 N c15_13 s = regX (runA E C B 108 r15_6 r15_6.toList s) (fun s => gcM E0 [5, 52, 53, 54, 55, 56] (forget s.1 [5, 52, 53, 54, 55, 56], s.2)) := x_reg (ops := r15_6) (by rfl) (by rfl) s
theorem r15_6_l : r15_6.toList = [o15_6_0, o15_6_1, o15_6_2, o15_6_3, o15_6_4, o15_6_5, o15_6_6] := nrfl rfl
theorem s15_6_0 : stepA E C B 108 r15_6 o15_6_0 (φ, H) = some (fput φ 53 (fget φ 5), H) := nrfl rfl
theorem s15_6_1 : stepA E C B 108 r15_6 o15_6_1 (φ, H) = stp (some 54) φ H (aCall C (fun j => B + j * 108 + 54) true 37 [(fget φ 53)]) := nrfl rfl
theorem s15_6_2 : stepA E C B 108 r15_6 o15_6_2 (φ, H) = some (fput φ 52 (fget φ 54), H) := nrfl rfl
theorem s15_6_3 : stepA E C B 108 r15_6 o15_6_3 (φ, H) = stp (some 55) φ H (opExtract (fget φ 52) 0) := nrfl rfl
theorem s15_6_4 : stepA E C B 108 r15_6 o15_6_4 (φ, H) = stp (some 56) φ H (opExtract (fget φ 52) 1) := nrfl rfl
theorem s15_6_5 : stepA E C B 108 r15_6 o15_6_5 (φ, H) = some (fput φ 12 (fget φ 55), H) := nrfl rfl
theorem s15_6_6 : stepA E C B 108 r15_6 o15_6_6 (φ, H) = some (fput φ 13 (fget φ 56), H) := nrfl rfl
noncomputable def c15_14 : Code := kR c15_12
noncomputable def c15_15 : Code := kL c15_14
noncomputable def r15_7 : Array Oper := kO c15_15
noncomputable def o15_7_0 : Oper := opN r15_7 0
noncomputable def o15_7_1 : Oper := opN r15_7 1
noncomputable def o15_7_2 : Oper := opN r15_7 2
noncomputable def o15_7_3 : Oper := opN r15_7 3
noncomputable def o15_7_4 : Oper := opN r15_7 4
noncomputable def o15_7_5 : Oper := opN r15_7 5
noncomputable def o15_7_6 : Oper := opN r15_7 6
theorem x15_15 : execA E C (fg 15) B 108 E0 N c15_15 s = regX (runA E C B 108 r15_7 r15_7.toList s) (fun s => gcM E0 [7, 57, 58, 59, 60, 61] (forget s.1 [7, 57, 58, 59, 60, 61], s.2)) := x_reg (ops := r15_7) (by rfl) (by rfl) s
theorem r15_7_l : r15_7.toList = [o15_7_0, o15_7_1, o15_7_2, o15_7_3, o15_7_4, o15_7_5, o15_7_6] := nrfl rfl
theorem s15_7_0 : stepA E C B 108 r15_7 o15_7_0 (φ, H) = some (fput φ 58 (fget φ 7), H) := nrfl rfl
theorem s15_7_1 : stepA E C B 108 r15_7 o15_7_1 (φ, H) = stp (some 59) φ H (aCall C (fun j => B + j * 108 + 59) true 37 [(fget φ 58)]) := nrfl rfl
theorem s15_7_2 : stepA E C B 108 r15_7 o15_7_2 (φ, H) = some (fput φ 57 (fget φ 59), H) := nrfl rfl
theorem s15_7_3 : stepA E C B 108 r15_7 o15_7_3 (φ, H) = stp (some 60) φ H (opExtract (fget φ 57) 0) := nrfl rfl
theorem s15_7_4 : stepA E C B 108 r15_7 o15_7_4 (φ, H) = stp (some 61) φ H (opExtract (fget φ 57) 1) := nrfl rfl
theorem s15_7_5 : stepA E C B 108 r15_7 o15_7_5 (φ, H) = some (fput φ 14 (fget φ 60), H) := nrfl rfl
theorem s15_7_6 : stepA E C B 108 r15_7 o15_7_6 (φ, H) = some (fput φ 15 (fget φ 61), H) := nrfl rfl
noncomputable def c15_16 : Code := kR c15_14
noncomputable def c15_17 : Code := kL c15_16
noncomputable def c15_18 : Code := kL c15_17
noncomputable def r15_8 : Array Oper := kO c15_18
noncomputable def o15_8_0 : Oper := opN r15_8 0
noncomputable def o15_8_1 : Oper := opN r15_8 1
noncomputable def o15_8_2 : Oper := opN r15_8 2
noncomputable def o15_8_3 : Oper := opN r15_8 3
noncomputable def o15_8_4 : Oper := opN r15_8 4
noncomputable def o15_8_5 : Oper := opN r15_8 5
noncomputable def o15_8_6 : Oper := opN r15_8 6
noncomputable def o15_8_7 : Oper := opN r15_8 7
noncomputable def o15_8_8 : Oper := opN r15_8 8
noncomputable def o15_8_9 : Oper := opN r15_8 9
noncomputable def o15_8_10 : Oper := opN r15_8 10
noncomputable def o15_8_11 : Oper := opN r15_8 11
noncomputable def o15_8_12 : Oper := opN r15_8 12
noncomputable def o15_8_13 : Oper := opN r15_8 13
noncomputable def o15_8_14 : Oper := opN r15_8 14
noncomputable def o15_8_15 : Oper := opN r15_8 15
noncomputable def o15_8_16 : Oper := opN r15_8 16
noncomputable def o15_8_17 : Oper := opN r15_8 17
noncomputable def o15_8_18 : Oper := opN r15_8 18
noncomputable def o15_8_19 : Oper := opN r15_8 19
noncomputable def o15_8_20 : Oper := opN r15_8 20
noncomputable def o15_8_21 : Oper := opN r15_8 21
noncomputable def o15_8_22 : Oper := opN r15_8 22
noncomputable def o15_8_23 : Oper := opN r15_8 23
noncomputable def o15_8_24 : Oper := opN r15_8 24
noncomputable def o15_8_25 : Oper := opN r15_8 25
noncomputable def o15_8_26 : Oper := opN r15_8 26
noncomputable def o15_8_27 : Oper := opN r15_8 27
noncomputable def o15_8_28 : Oper := opN r15_8 28
noncomputable def o15_8_29 : Oper := opN r15_8 29
noncomputable def o15_8_30 : Oper := opN r15_8 30
noncomputable def o15_8_31 : Oper := opN r15_8 31
noncomputable def o15_8_32 : Oper := opN r15_8 32
theorem x15_18 : execA E C (fg 15) B 108 E0 N c15_18 s = regX (runA E C B 108 r15_8 r15_8.toList s) (fun s => gcM E0 [6, 9, 10, 11, 13, 15, 62, 63, 64, 65, 66, 67, 68, 69, 70, 71, 72, 73, 74, 75, 76, 77, 78, 79, 80, 81, 82, 83, 84, 85, 86, 87, 88, 89, 90, 91, 92, 93] (forget s.1 [6, 9, 10, 11, 13, 15, 62, 63, 64, 65, 66, 67, 68, 69, 70, 71, 72, 73, 74, 75, 76, 77, 78, 79, 80, 81, 82, 83, 84, 85, 86, 87, 88, 89, 90, 91, 92, 93], s.2)) := x_reg (ops := r15_8) (by rfl) (by rfl) s
theorem r15_8_l : r15_8.toList = [o15_8_0, o15_8_1, o15_8_2, o15_8_3, o15_8_4, o15_8_5, o15_8_6, o15_8_7, o15_8_8, o15_8_9, o15_8_10, o15_8_11, o15_8_12, o15_8_13, o15_8_14, o15_8_15, o15_8_16, o15_8_17, o15_8_18, o15_8_19, o15_8_20, o15_8_21, o15_8_22, o15_8_23, o15_8_24, o15_8_25, o15_8_26, o15_8_27, o15_8_28, o15_8_29, o15_8_30, o15_8_31, o15_8_32] := nrfl rfl
theorem s15_8_0 : stepA E C B 108 r15_8 o15_8_0 (φ, H) = some (fput φ 62 (fget φ 9), H) := nrfl rfl
theorem s15_8_1 : stepA E C B 108 r15_8 o15_8_1 (φ, H) = stp (some 63) φ H (just (aBin E.T .neq 24 (fget φ 62) (.int .i64 0))) := nrfl rfl
theorem s15_8_2 : stepA E C B 108 r15_8 o15_8_2 (φ, H) = some (fput φ 64 (fget φ 63), H) := nrfl rfl
theorem s15_8_3 : stepA E C B 108 r15_8 o15_8_3 (φ, H) = gd φ 64 false (fun φ => some (fput φ 65 (.tup []), H)) (fun φ => some (fput φ 65 (fget φ 11), H)) := s_gd (j := 2) (oj := o15_8_2) rfl rfl rfl (fun _ => rfl) (fun _ => rfl)
theorem s15_8_4 : stepA E C B 108 r15_8 o15_8_4 (φ, H) = gd φ 64 false (fun φ => some (fput φ 66 (.tup []), H)) (fun φ => stp (some 66) φ H (just (aBin E.T .neq 24 (fget φ 65) (.int .i64 0)))) := s_gd (j := 2) (oj := o15_8_2) rfl rfl rfl (fun _ => rfl) (fun _ => rfl)
theorem s15_8_5 : stepA E C B 108 r15_8 o15_8_5 (φ, H) = stp (some 67) φ H (opPick (fget φ 64) (.bool true) (fget φ 66)) := nrfl rfl
theorem s15_8_6 : stepA E C B 108 r15_8 o15_8_6 (φ, H) = some (fput φ 68 (fget φ 67), H) := nrfl rfl
theorem s15_8_7 : stepA E C B 108 r15_8 o15_8_7 (φ, H) = gd φ 68 false (fun φ => some (fput φ 69 (.tup []), H)) (fun φ => some (fput φ 69 (fget φ 13), H)) := s_gd (j := 6) (oj := o15_8_6) rfl rfl rfl (fun _ => rfl) (fun _ => rfl)
theorem s15_8_8 : stepA E C B 108 r15_8 o15_8_8 (φ, H) = gd φ 68 false (fun φ => some (fput φ 70 (.tup []), H)) (fun φ => stp (some 70) φ H (just (aBin E.T .neq 24 (fget φ 69) (.int .i64 0)))) := s_gd (j := 6) (oj := o15_8_6) rfl rfl rfl (fun _ => rfl) (fun _ => rfl)
theorem s15_8_9 : stepA E C B 108 r15_8 o15_8_9 (φ, H) = stp (some 71) φ H (opPick (fget φ 68) (.bool true) (fget φ 70)) := nrfl rfl
theorem s15_8_10 : stepA E C B 108 r15_8 o15_8_10 (φ, H) = some (fput φ 72 (fget φ 71), H) := nrfl rfl
theorem s15_8_11 : stepA E C B 108 r15_8 o15_8_11 (φ, H) = gd φ 72 false (fun φ => some (fput φ 73 (.tup []), H)) (fun φ => some (fput φ 73 (fget φ 15), H)) := s_gd (j := 10) (oj := o15_8_10) rfl rfl rfl (fun _ => rfl) (fun _ => rfl)
theorem s15_8_12 : stepA E C B 108 r15_8 o15_8_12 (φ, H) = gd φ 72 false (fun φ => some (fput φ 74 (.tup []), H)) (fun φ => stp (some 74) φ H (just (aBin E.T .neq 24 (fget φ 73) (.int .i64 0)))) := s_gd (j := 10) (oj := o15_8_10) rfl rfl rfl (fun _ => rfl) (fun _ => rfl)
theorem s15_8_13 : stepA E C B 108 r15_8 o15_8_13 (φ, H) = stp (some 75) φ H (opPick (fget φ 72) (.bool true) (fget φ 74)) := nrfl rfl
theorem s15_8_14 : stepA E C B 108 r15_8 o15_8_14 (φ, H) = some (fput φ 76 (fget φ 75), H) := nrfl rfl
theorem s15_8_15 : stepA E C B 108 r15_8 o15_8_15 (φ, H) = gd φ 76 false (fun φ => some (fput φ 77 (.tup []), H)) (fun φ => some (fput φ 77 (fget φ 8), H)) := s_gd (j := 14) (oj := o15_8_14) rfl rfl rfl (fun _ => rfl) (fun _ => rfl)
theorem s15_8_16 : stepA E C B 108 r15_8 o15_8_16 (φ, H) = gd φ 76 false (fun φ => some (fput φ 78 (.tup []), H)) (fun φ => some (fput φ 78 (fget φ 10), H)) := s_gd (j := 14) (oj := o15_8_14) rfl rfl rfl (fun _ => rfl) (fun _ => rfl)
theorem s15_8_17 : stepA E C B 108 r15_8 o15_8_17 (φ, H) = gd φ 76 false (fun φ => some (fput φ 79 (.tup []), H)) (fun φ => stp (some 79) φ H (just (aBin E.T .neq 4 (fget φ 77) (fget φ 78)))) := s_gd (j := 14) (oj := o15_8_14) rfl rfl rfl (fun _ => rfl) (fun _ => rfl)
theorem s15_8_18 : stepA E C B 108 r15_8 o15_8_18 (φ, H) = stp (some 80) φ H (opPick (fget φ 76) (.bool true) (fget φ 79)) := nrfl rfl
theorem s15_8_19 : stepA E C B 108 r15_8 o15_8_19 (φ, H) = some (fput φ 81 (fget φ 80), H) := nrfl rfl
theorem s15_8_20 : stepA E C B 108 r15_8 o15_8_20 (φ, H) = gd φ 81 false (fun φ => some (fput φ 82 (.tup []), H)) (fun φ => some (fput φ 82 (fget φ 12), H)) := s_gd (j := 19) (oj := o15_8_19) rfl rfl rfl (fun _ => rfl) (fun _ => rfl)
theorem s15_8_21 : stepA E C B 108 r15_8 o15_8_21 (φ, H) = gd φ 81 false (fun φ => some (fput φ 83 (.tup []), H)) (fun φ => stp (some 83) φ H (aBuiltin E.T (B + 83) .len #[39] [(fget φ 82)])) := s_gd (j := 19) (oj := o15_8_19) rfl rfl rfl (fun _ => rfl) (fun _ => rfl)
theorem s15_8_22 : stepA E C B 108 r15_8 o15_8_22 (φ, H) = gd φ 81 false (fun φ => some (fput φ 84 (.tup []), H)) (fun φ => some (fput φ 84 (fget φ 6), H)) := s_gd (j := 19) (oj := o15_8_19) rfl rfl rfl (fun _ => rfl) (fun _ => rfl)
theorem s15_8_23 : stepA E C B 108 r15_8 o15_8_23 (φ, H) = gd φ 81 false (fun φ => some (fput φ 85 (.tup []), H)) (fun φ => stp (some 85) φ H (aBuiltin E.T (B + 85) .len #[39] [(fget φ 84)])) := s_gd (j := 19) (oj := o15_8_19) rfl rfl rfl (fun _ => rfl) (fun _ => rfl)
theorem s15_8_24 : stepA E C B 108 r15_8 o15_8_24 (φ, H) = gd φ 81 false (fun φ => some (fput φ 86 (.tup []), H)) (fun φ => stp (some 86) φ H (just (aBin E.T .gtr 3 (fget φ 83) (fget φ 85)))) := s_gd (j := 19) (oj := o15_8_19) rfl rfl rfl (fun _ => rfl) (fun _ => rfl)
theorem s15_8_25 : stepA E C B 108 r15_8 o15_8_25 (φ, H) = stp (some 87) φ H (opPick (fget φ 81) (.bool true) (fget φ 86)) := nrfl rfl
theorem s15_8_26 : stepA E C B 108 r15_8 o15_8_26 (φ, H) = some (fput φ 88 (fget φ 87), H) := nrfl rfl
theorem s15_8_27 : stepA E C B 108 r15_8 o15_8_27 (φ, H) = gd φ 88 false (fun φ => some (fput φ 89 (.tup []), H)) (fun φ => some (fput φ 89 (fget φ 14), H)) := s_gd (j := 26) (oj := o15_8_26) rfl rfl rfl (fun _ => rfl) (fun _ => rfl)
theorem s15_8_28 : stepA E C B 108 r15_8 o15_8_28 (φ, H) = gd φ 88 false (fun φ => some (fput φ 90 (.tup []), H)) (fun φ => stp (some 90) φ H (aBuiltin E.T (B + 90) .len #[39] [(fget φ 89)])) := s_gd (j := 26) (oj := o15_8_26) rfl rfl rfl (fun _ => rfl) (fun _ => rfl)
theorem s15_8_29 : stepA E C B 108 r15_8 o15_8_29 (φ, H) = gd φ 88 false (fun φ => some (fput φ 91 (.tup []), H)) (fun φ => some (fput φ 91 (fget φ 6), H)) := s_gd (j := 26) (oj := o15_8_26) rfl rfl rfl (fun _ => rfl) (fun _ => rfl)
theorem s15_8_30 : stepA E C B 108 r15_8 o15_8_30 (φ, H) = gd φ 88 false (fun φ => some (fput φ 92 (.tup []), H)) (fun φ => stp (some 92) φ H (aBuiltin E.T (B + 92) .len #[39] [(fget φ 91)])) := s_gd (j := 26) (oj := o15_8_26) rfl rfl rfl (fun _ => rfl) (fun _ => rfl)
theorem s15_8_31 : stepA E C B 108 r15_8 o15_8_31 (φ, H) = gd φ 88 false (fun φ => some (fput φ 93 (.tup []), H)) (fun φ => stp (some 93) φ H (just (aBin E.T .gtr 3 (fget φ 90) (fget φ 92)))) := s_gd (j := 26) (oj := o15_8_26) rfl rfl rfl (fun _ => rfl) (fun _ => rfl)
theorem s15_8_32 : stepA E C B 108 r15_8 o15_8_32 (φ, H) = stp (some 94) φ H (opPick (fget φ 88) (.bool true) (fget φ 93)) := nrfl rfl
noncomputable def c15_19 : Code := kR c15_17
noncomputable def c15_20 : Code := kT c15_19
noncomputable def c15_21 : Code := kL c15_20
noncomputable def r15_9 : Array Oper := kO c15_21
noncomputable def o15_9_0 : Oper := opN r15_9 0
theorem x15_21 : execA E C (fg 15) B 108 E0 N c15_21 s = regX (runA E C B 108 r15_9 r15_9.toList s) (fun s => gcM E0 [8, 12, 14, 94] (forget s.1 [8, 12, 14, 94], s.2)) := x_reg (ops := r15_9) (by rfl) (by rfl) s
theorem r15_9_l : r15_9.toList = [o15_9_0] := nrfl rfl
theorem s15_9_0 : stepA E C B 108 r15_9 o15_9_0 (φ, H) = some (fput φ 4 (.bool false), H) := nrfl rfl
noncomputable def c15_22 : Code := kR c15_20
theorem x15_22 : execA E C (fg 15) B 108 E0 N c15_22 s = some (.ret, s) := x_ret (by rfl) s
theorem x15_20 : execA E C (fg 15) B 108 E0 N c15_20 s = seqX (execA E C (fg 15) B 108 E0 N c15_21 s) (execA E C (fg 15) B 108 E0 N c15_22) := x_seq (by rfl) s
noncomputable def c15_23 : Code := kE c15_19
theorem x15_23 : execA E C (fg 15) B 108 E0 N c15_23 s = some (.normal, s) := x_skip (by rfl) s
theorem x15_19 : execA E C (fg 15) B 108 E0 N c15_19 (φ, H) = condX (fget φ 94) (execA E C (fg 15) B 108 E0 N c15_20 (φ, H)) (execA E C (fg 15) B 108 E0 N c15_23 (φ, H)) := x_cond (by rfl) _
theorem x15_17 : execA E C (fg 15) B 108 E0 N c15_17 s = seqX (execA E C (fg 15) B 108 E0 N c15_18 s) (execA E C (fg 15) B 108 E0 N c15_19) := x_seq (by rfl) s
noncomputable def c15_24 : Code := kR c15_16
noncomputable def c15_25 : Code := kL c15_24
noncomputable def c15_26 : Code := kL c15_25
noncomputable def r15_10 : Array Oper := kO c15_26
noncomputable def o15_10_0 : Oper := opN r15_10 0
theorem x15_26 : execA E C (fg 15) B 108 E0 N c15_26 s = regX (runA E C B 108 r15_10 r15_10.toList s) (fun s => gcM E0 [8, 94] (forget s.1 [8, 94], s.2)) := x_reg (ops := r15_10) (by rfl) (by rfl) s
theorem r15_10_l : r15_10.toList = [o15_10_0] := nrfl rfl
theorem s15_10_0 : stepA E C B 108 r15_10 o15_10_0 (φ, H) = some (fput φ 95 (fget φ 8), H) := nrfl rfl
noncomputable def c15_27 : Code := kR c15_25
noncomputable def c15_28 : Code := kT c15_27
noncomputable def c15_29 : Code := kL c15_28
noncomputable def r15_11 : Array Oper := kO c15_29
noncomputable def o15_11_0 : Oper := opN r15_11 0
noncomputable def o15_11_1 : Oper := opN r15_11 1
noncomputable def o15_11_2 : Oper := opN r15_11 2
theorem x15_29 : execA E C (fg 15) B 108 E0 N c15_29 s = regX (runA E C B 108 r15_11 r15_11.toList s) (fun s => gcM E0 [14, 95] (forget s.1 [14, 95], s.2)) := x_reg (ops := r15_11) (by rfl) (by rfl) s
theorem r15_11_l : r15_11.toList = [o15_11_0, o15_11_1, o15_11_2] := nrfl rfl
theorem s15_11_0 : stepA E C B 108 r15_11 o15_11_0 (φ, H) = some (fput φ 96 (fget φ 14), H) := nrfl rfl
theorem s15_11_1 : stepA E C B 108 r15_11 o15_11_1 (φ, H) = stp (some 97) φ H (aBuiltin E.T (B + 97) .len #[39] [(fget φ 96)]) := nrfl rfl
theorem s15_11_2 : stepA E C B 108 r15_11 o15_11_2 (φ, H) = some (fput φ 98 (.int .i64 0), H) := nrfl rfl
noncomputable def c15_30 : Code := kR c15_28
noncomputable def c15_31 : Code := kB c15_30
noncomputable def c15_32 : Code := kB c15_31
noncomputable def c15_33 : Code := kL c15_32
noncomputable def r15_12 : Array Oper := kO c15_33
noncomputable def o15_12_0 : Oper := opN r15_12 0
theorem x15_33 : execA E C (fg 15) B 108 E0 N c15_33 s = regX (runA E C B 108 r15_12 r15_12.toList s) (fun s => gcM E0 [] (forget s.1 [], s.2)) := x_reg (ops := r15_12) (by rfl) (by rfl) s
theorem r15_12_l : r15_12.toList = [o15_12_0] := nrfl rfl
theorem s15_12_0 : stepA E C B 108 r15_12 o15_12_0 (φ, H) = stp (some 99) φ H (just (aBin E.T .lss 3 (fget φ 98) (fget φ 97))) := nrfl rfl
noncomputable def c15_34 : Code := kR c15_32
noncomputable def c15_35 : Code := kL c15_34
noncomputable def c15_36 : Code := kT c15_35
theorem x15_36 : execA E C (fg 15) B 108 E0 N c15_36 s = some (.normal, s) := x_skip (by rfl) s
noncomputable def c15_37 : Code := kE c15_35
theorem x15_37 : execA E C (fg 15) B 108 E0 N c15_37 s = some (.exit 0, s) := x_exit (by rfl) s
theorem x15_35 : execA E C (fg 15) B 108 E0 N c15_35 (φ, H) = condX (fget φ 99) (execA E C (fg 15) B 108 E0 N c15_36 (φ, H)) (execA E C (fg 15) B 108 E0 N c15_37 (φ, H)) := x_cond (by rfl) _
noncomputable def c15_38 : Code := kR c15_34
noncomputable def c15_39 : Code := kL c15_38
noncomputable def c15_40 : Code := kB c15_39
noncomputable def c15_41 : Code := kL c15_40
noncomputable def r15_13 : Array Oper := kO c15_41
noncomputable def o15_13_0 : Oper := opN r15_13 0
noncomputable def o15_13_1 : Oper := opN r15_13 1
noncomputable def o15_13_2 : Oper := opN r15_13 2
noncomputable def o15_13_3 : Oper := opN r15_13 3
theorem x15_41 : execA E C (fg 15) B 108 E0 N c15_41 s = regX (runA E C B 108 r15_13 r15_13.toList s) (fun s => gcM E0 [99, 100, 101] (forget s.1 [99, 100, 101], s.2)) := x_reg (ops := r15_13) (by rfl) (by rfl) s
theorem r15_13_l : r15_13.toList = [o15_13_0, o15_13_1, o15_13_2, o15_13_3] := nrfl rfl
theorem s15_13_0 : stepA E C B 108 r15_13 o15_13_0 (φ, H) = stp (some 100) φ H (just (aIndexAddr E.T 39 (fget φ 96) (fget φ 98))) := nrfl rfl
theorem s15_13_1 : stepA E C B 108 r15_13 o15_13_1 (φ, H) = stp (some 101) φ H (just (aLoad E.T 22 (fget φ 100))) := nrfl rfl
theorem s15_13_2 : stepA E C B 108 r15_13 o15_13_2 (φ, H) = stp (some 17) φ H (opBox (B + 17) (zeroCells E.T 22)) := nrfl rfl
theorem s15_13_3 : stepA E C B 108 r15_13 o15_13_3 (φ, H) = stp none φ H (opStore E.T 22 (fget φ 17) (fget φ 101)) := nrfl rfl
noncomputable def c15_42 : Code := kR c15_40
noncomputable def c15_43 : Code := kL c15_42
noncomputable def r15_14 : Array Oper := kO c15_43
noncomputable def o15_14_0 : Oper := opN r15_14 0
noncomputable def o15_14_1 : Oper := opN r15_14 1
noncomputable def o15_14_2 : Oper := opN r15_14 2
noncomputable def o15_14_3 : Oper := opN r15_14 3
theorem x15_43 : execA E C (fg 15) B 108 E0 N c15_43 s = regX (runA E C B 108 r15_14 r15_14.toList s) (fun s => gcM E0 [17, 102, 103, 104] (forget s.1 [17, 102, 103, 104], s.2)) := x_reg (ops := r15_14) (by rfl) (by rfl) s
theorem r15_14_l : r15_14.toList = [o15_14_0, o15_14_1, o15_14_2, o15_14_3] := nrfl rfl
theorem s15_14_0 : stepA E C B 108 r15_14 o15_14_0 (φ, H) = some (fput φ 102 (fget φ 12), H) := nrfl rfl
theorem s15_14_1 : stepA E C B 108 r15_14 o15_14_1 (φ, H) = stp (some 103) φ H (.pure (.clo 75 [(fget φ 17)], [])) := nrfl rfl
theorem s15_14_2 : stepA E C B 108 r15_14 o15_14_2 (φ, H) = stp (some 104) φ H (aCall C (fun j => B + j * 108 + 104) true 73 [(fget φ 102), (fget φ 103)]) := nrfl rfl
theorem s15_14_3 : stepA E C B 108 r15_14 o15_14_3 (φ, H) = stp (some 105) φ H (justO (aUn .not (fget φ 104))) := nrfl rfl
noncomputable def c15_44 : Code := kR c15_42
noncomputable def c15_45 : Code := kT c15_44
noncomputable def c15_46 : Code := kL c15_45
noncomputable def r15_15 : Array Oper := kO c15_46
noncomputable def o15_15_0 : Oper := opN r15_15 0
theorem x15_46 : execA E C (fg 15) B 108 E0 N c15_46 s = regX (runA E C B 108 r15_15 r15_15.toList s) (fun s => gcM E0 [12, 96, 97, 98, 105] (forget s.1 [12, 96, 97, 98, 105], s.2)) := x_reg (ops := r15_15) (by rfl) (by rfl) s
theorem r15_15_l : r15_15.toList = [o15_15_0] := nrfl rfl
theorem s15_15_0 : stepA E C B 108 r15_15 o15_15_0 (φ, H) = some (fput φ 4 (.bool false), H) := nrfl rfl
noncomputable def c15_47 : Code := kR c15_45
theorem x15_47 : execA E C (fg 15) B 108 E0 N c15_47 s = some (.ret, s) := x_ret (by rfl) s
theorem x15_45 : execA E C (fg 15) B 108 E0 N c15_45 s = seqX (execA E C (fg 15) B 108 E0 N c15_46 s) (execA E C (fg 15) B 108 E0 N c15_47) := x_seq (by rfl) s
noncomputable def c15_48 : Code := kE c15_44
theorem x15_48 : execA E C (fg 15) B 108 E0 N c15_48 s = some (.normal, s) := x_skip (by rfl) s
theorem x15_44 : execA E C (fg 15) B 108 E0 N c15_44 (φ, H) = condX (fget φ 105) (execA E C (fg 15) B 108 E0 N c15_45 (φ, H)) (execA E C (fg 15) B 108 E0 N c15_48 (φ, H)) := x_cond (by rfl) _
theorem x15_42 : execA E C (fg 15) B 108 E0 N c15_42 s = seqX (execA E C (fg 15) B 108 E0 N c15_43 s) (execA E C (fg 15) B 108 E0 N c15_44) := x_seq (by rfl) s
theorem x15_40 : execA E C (fg 15) B 108 E0 N c15_40 s = seqX (execA E C (fg 15) B 108 E0 N c15_41 s) (execA E C (fg 15) B 108 E0 N c15_42) := x_seq (by rfl) s
theorem x15_39 : execA E C (fg 15) B 108 E0 N c15_39 s = blockX 1 (fun s => (forget s.1 [105], s.2)) (execA E C (fg 15) B 108 E0 N c15_40 s) := x_block (by rfl) (by rfl) s
noncomputable def c15_49 : Code := kR c15_38
noncomputable def r15_16 : Array Oper := kO c15_49
noncomputable def o15_16_0 : Oper := opN r15_16 0
noncomputable def o15_16_1 : Oper := opN r15_16 1
theorem x15_49 : execA E C (fg 15) B 108 E0 N c15_49 s = regX (runA E C B 108 r15_16 r15_16.toList s) (fun s => gcM E0 [106] (forget s.1 [106], s.2)) := x_reg (ops := r15_16) (by rfl) (by rfl) s
theorem r15_16_l : r15_16.toList = [o15_16_0, o15_16_1] := nrfl rfl
theorem s15_16_0 : stepA E C B 108 r15_16 o15_16_0 (φ, H) = stp (some 106) φ H (just (aBin E.T .add 3 (fget φ 98) (.int .i64 1))) := nrfl rfl
theorem s15_16_1 : stepA E C B 108 r15_16 o15_16_1 (φ, H) = some (fput φ 98 (fget φ 106), H) := nrfl rfl
theorem x15_38 : execA E C (fg 15) B 108 E0 N c15_38 s = seqX (execA E C (fg 15) B 108 E0 N c15_39 s) (execA E C (fg 15) B 108 E0 N c15_49) := x_seq (by rfl) s
theorem x15_34 : execA E C (fg 15) B 108 E0 N c15_34 s = seqX (execA E C (fg 15) B 108 E0 N c15_35 s) (execA E C (fg 15) B 108 E0 N c15_38) := x_seq (by rfl) s
theorem x15_32 : execA E C (fg 15) B 108 E0 N c15_32 s = seqX (execA E C (fg 15) B 108 E0 N c15_33 s) (execA E C (fg 15) B 108 E0 N c15_34) := x_seq (by rfl) s
theorem x15_31 : execA E C (fg 15) B 108 E0 N c15_31 s = iterA (execA E C (fg 15) B 108 E0 N c15_32) (headA E0) N s := x_loop (by rfl) s
theorem x15_30 : execA E C (fg 15) B 108 E0 N c15_30 s = blockX 0 (fun s => (forget s.1 [12, 96, 97, 98, 99], s.2)) (execA E C (fg 15) B 108 E0 N c15_31 s) := x_block (by rfl) (by rfl) s
theorem x15_28 : execA E C (fg 15) B 108 E0 N c15_28 s = seqX (execA E C (fg 15) B 108 E0 N c15_29 s) (execA E C (fg 15) B 108 E0 N c15_30) := x_seq (by rfl) s
noncomputable def c15_50 : Code := kE c15_27
theorem x15_50 : execA E C (fg 15) B 108 E0 N c15_50 s = some (.normal, s) := x_skip (by rfl) s
theorem x15_27 : execA E C (fg 15) B 108 E0 N c15_27 (φ, H) = condX (fget φ 95) (execA E C (fg 15) B 108 E0 N c15_28 (φ, H)) (execA E C (fg 15) B 108 E0 N c15_50 (φ, H)) := x_cond (by rfl) _
theorem x15_25 : execA E C (fg 15) B 108 E0 N c15_25 s = seqX (execA E C (fg 15) B 108 E0 N c15_26 s) (execA E C (fg 15) B 108 E0 N c15_27) := x_seq (by rfl) s
noncomputable def c15_51 : Code := kR c15_24
noncomputable def c15_52 : Code := kL c15_51
noncomputable def r15_17 : Array Oper := kO c15_52
noncomputable def o15_17_0 : Oper := opN r15_17 0
noncomputable def o15_17_1 : Oper := opN r15_17 1
theorem x15_52 : execA E C (fg 15) B 108 E0 N c15_52 s = regX (runA E C B 108 r15_17 r15_17.toList s) (fun s => gcM E0 [12, 14, 95, 107] (forget s.1 [12, 14, 95, 107], s.2)) := x_reg (ops := r15_17) (by rfl) (by rfl) s
theorem r15_17_l : r15_17.toList = [o15_17_0, o15_17_1] := nrfl rfl
theorem s15_17_0 : stepA E C B 108 r15_17 o15_17_0 (φ, H) = stp (some 107) φ H (aCall C (fun j => B + j * 108 + 107) true 17 []) := nrfl rfl
theorem s15_17_1 : stepA E C B 108 r15_17 o15_17_1 (φ, H) = some (fput φ 4 (fget φ 107), H) := nrfl rfl
noncomputable def c15_53 : Code := kR c15_51
theorem x15_53 : execA E C (fg 15) B 108 E0 N c15_53 s = some (.ret, s) := x_ret (by rfl) s
theorem x15_51 : execA E C (fg 15) B 108 E0 N c15_51 s = seqX (execA E C (fg 15) B 108 E0 N c15_52 s) (execA E C (fg 15) B 108 E0 N c15_53) := x_seq (by rfl) s
theorem x15_24 : execA E C (fg 15) B 108 E0 N c15_24 s = seqX (execA E C (fg 15) B 108 E0 N c15_25 s) (execA E C (fg 15) B 108 E0 N c15_51) := x_seq (by rfl) s
theorem x15_16 : execA E C (fg 15) B 108 E0 N c15_16 s = seqX (execA E C (fg 15) B 108 E0 N c15_17 s) (execA E C (fg 15) B 108 E0 N c15_24) := x_seq (by rfl) s
theorem x15_14 : execA E C (fg 15) B 108 E0 N c15_14 s = seqX (execA E C (fg 15) B 108 E0 N c15_15 s) (execA E C (fg 15) B 108 E0 N c15_16) := x_seq (by rfl) s
theorem x15_12 : execA E C (fg 15) B 108 E0 N c15_12 s = seqX (execA E C (fg 15) B 108 E0 N c15_13 s) (execA E C (fg 15) B 108 E0 N c15_14) := x_seq (by rfl) s
theorem x15_10 : execA E C (fg 15) B 108 E0 N c15_10 s = seqX (execA E C (fg 15) B 108 E0 N c15_11 s) (execA E C (fg 15) B 108 E0 N c15_12) := x_seq (by rfl) s
theorem x15_8 : execA E C (fg 15) B 108 E0 N c15_8 s = seqX (execA E C (fg 15) B 108 E0 N c15_9 s) (execA E C (fg 15) B 108 E0 N c15_10) := x_seq (by rfl) s
theorem x15_6 : execA E C (fg 15) B 108 E0 N c15_6 s = seqX (execA E C (fg 15) B 108 E0 N c15_7 s) (execA E C (fg 15) B 108 E0 N c15_8) := x_seq (by rfl) s
theorem x15_4 : execA E C (fg 15) B 108 E0 N c15_4 s = seqX (execA E C (fg 15) B 108 E0 N c15_5 s) (execA E C (fg 15) B 108 E0 N c15_6) := x_seq (by rfl) s
theorem x15_2 : execA E C (fg 15) B 108 E0 N c15_2 s = seqX (execA E C (fg 15) B 108 E0 N c15_3 s) (execA E C (fg 15) B 108 E0 N c15_4) := x_seq (by rfl) s
theorem x15_0 : execA E C (fg 15) B 108 E0 N c15_0 s = seqX (execA E C (fg 15) B 108 E0 N c15_1 s) (execA E C (fg 15) B 108 E0 N c15_2) := x_seq (by rfl) s
theorem fi_15 : fInfo E 15 = some ⟨108, #[.tmp 4], c15_0⟩ := nrfl rfl
theorem b_15 (args : List AV) : bodyA E C fg N 15 args H B = bodyX E [.tmp 4] (execA E C (fg 15) B 108 H N c15_0 (frame0 args 0 [], H)) := bodyA_eq fi_15 args H
abbrev F_15 := And.intro (And.intro (And.intro (And.intro (And.intro (And.intro (And.intro @x15_1 @r15_0_l) (And.intro @s15_0_0 (And.intro @s15_0_1 @s15_0_2))) (And.intro (And.intro @x15_3 (And.intro @r15_1_l @s15_1_0)) (And.intro @s15_1_1 (And.intro @s15_1_2 @x15_5)))) (And.intro (And.intro (And.intro @r15_2_l @s15_2_0) (And.intro @s15_2_1 (And.intro @s15_2_2 @s15_2_3))) (And.intro (And.intro @s15_2_4 (And.intro @s15_2_5 @x15_7)) (And.intro @r15_3_l (And.intro @s15_3_0 @s15_3_1))))) (And.intro (And.intro (And.intro (And.intro @s15_3_2 @s15_3_3) (And.intro @s15_3_4 (And.intro @s15_3_5 @s15_3_6))) (And.intro (And.intro @s15_3_7 (And.intro @s15_3_8 @s15_3_9)) (And.intro @x15_9 (And.intro @r15_4_l @s15_4_0)))) (And.intro (And.intro (And.intro @s15_4_1 (And.intro @s15_4_2 @s15_4_3)) (And.intro @s15_4_4 (And.intro @s15_4_5 @s15_4_6))) (And.intro (And.intro @s15_4_7 (And.intro @x15_11 @r15_5_l)) (And.intro @s15_5_0 (And.intro @s15_5_1 @s15_5_2)))))) (And.intro (And.intro (And.intro (And.intro (And.intro @s15_5_3 @s15_5_4) (And.intro @s15_5_5 (And.intro @s15_5_6 @s15_5_7))) (And.intro (And.intro @s15_5_8 (And.intro @s15_5_9 @s15_5_10)) (And.intro @s15_5_11 (And.intro @s15_5_12 @s15_5_13)))) (And.intro (And.intro (And.intro @x15_13 (And.intro @r15_6_l @s15_6_0)) (And.intro @s15_6_1 (And.intro @s15_6_2 @s15_6_3))) (And.intro (And.intro @s15_6_4 (And.intro @s15_6_5 @s15_6_6)) (And.intro @x15_15 (And.intro @r15_7_l @s15_7_0))))) (And.intro (And.intro (And.intro (And.intro @s15_7_1 @s15_7_2) (And.intro @s15_7_3 (And.intro @s15_7_4 @s15_7_5))) (And.intro (And.intro @s15_7_6 (And.intro @x15_18 @r15_8_l)) (And.intro @s15_8_0 (And.intro @s15_8_1 @s15_8_2)))) (And.intro (And.intro (And.intro @s15_8_3 (And.intro @s15_8_4 @s15_8_5)) (And.intro @s15_8_6 (And.intro @s15_8_7 @s15_8_8))) (And.intro (And.intro @s15_8_9 (And.intro @s15_8_10 @s15_8_11)) (And.intro @s15_8_12 (And.intro @s15_8_13 @s15_8_14))))))) (And.intro (And.intro (And.intro (And.intro (And.intro (And.intro @s15_8_15 @s15_8_16) (And.intro @s15_8_17 (And.intro @s15_8_18 @s15_8_19))) (And.intro (And.intro @s15_8_20 (And.intro @s15_8_21 @s15_8_22)) (And.intro @s15_8_23 (And.intro @s15_8_24 @s15_8_25)))) (And.intro (And.intro (And.intro @s15_8_26 (And.intro @s15_8_27 @s15_8_28)) (And.intro @s15_8_29 (And.intro @s15_8_30 @s15_8_31))) (And.intro (And.intro @s15_8_32 (And.intro @x15_21 @r15_9_l)) (And.intro @s15_9_0 (And.intro @x15_22 @x15_20))))) (And.intro (And.intro (And.intro (And.intro @x15_23 @x15_19) (And.intro @x15_17 (And.intro @x15_26 @r15_10_l))) (And.intro (And.intro @s15_10_0 (And.intro @x15_29 @r15_11_l)) (And.intro @s15_11_0 (And.intro @s15_11_1 @s15_11_2)))) (And.intro (And.intro (And.intro @x15_33 (And.intro @r15_12_l @s15_12_0)) (And.intro @x15_36 (And.intro @x15_37 @x15_35))) (And.intro (And.intro @x15_41 (And.intro @r15_13_l @s15_13_0)) (And.intro @s15_13_1 (And.intro @s15_13_2 @s15_13_3)))))) (And.intro (And.intro (And.intro (And.intro (And.intro @x15_43 @r15_14_l) (And.intro @s15_14_0 (And.intro @s15_14_1 @s15_14_2))) (And.intro (And.intro @s15_14_3 (And.intro @x15_46 @r15_15_l)) (And.intro @s15_15_0 (And.intro @x15_47 @x15_45)))) (And.intro (And.intro (And.intro @x15_48 (And.intro @x15_44 @x15_42)) (And.intro @x15_40 (And.intro @x15_39 @x15_49))) (And.intro (And.intro @r15_16_l (And.intro @s15_16_0 @s15_16_1)) (And.intro @x15_38 (And.intro @x15_34 @x15_32))))) (And.intro (And.intro (And.intro (And.intro @x15_31 @x15_30) (And.intro @x15_28 (And.intro @x15_50 @x15_27))) (And.intro (And.intro @x15_25 (And.intro @x15_52 @r15_17_l)) (And.intro @s15_17_0 (And.intro @s15_17_1 @x15_53)))) (And.intro (And.intro (And.intro @x15_51 (And.intro @x15_24 @x15_16)) (And.intro @x15_14 (And.intro @x15_12 @x15_10))) (And.intro (And.intro @x15_8 (And.intro @x15_6 @x15_4)) (And.intro @x15_2 (And.intro @x15_0 @b_15)))))))
end Go.AM.Ytfmnoohhhokicaa
end

section
namespace Go.AM.Ytfmnoohhhokicaa
open Go Go.AM Go.AM.Rub
set_option maxRecDepth 100000
set_option maxHeartbeats 8000000
abbrev rwK (i j k : Nat) : AV := .clo 105 [.ptr i 0 1, .ptr j 0 1, .ptr k 0 1]
/-- The heap of a call, with no row found yet, and with some. -/
abbrev rhA (l : List Int) (n : Nat) : AHeap := [(0, ⟨.row, ics l⟩), (1, ⟨.box, [.int .i64 n]⟩), (2, ⟨.box, [.nilsl]⟩), (3, ⟨.box, [rwK 1 2 3]⟩)]
abbrev rhB (l : List Int) (n : Nat) (L : List (List Int)) : AHeap := [(0, ⟨.row, ics l⟩), (1, ⟨.box, [.int .i64 n]⟩), (2, ⟨.box, [.ref 3 0 L.length L.length L.length 1 false]⟩), (3, ⟨.row, lcs L⟩), (4, ⟨.box, [rwK 1 2 4]⟩)]
/-- What it leaves. -/
structure RoA (l : List Int) (n : Nat) (new : List (List Int)) (H : AHeap) (id : Nat) (st : BS) : Prop where
  h0 : hget H 0 = some ⟨st, ics l⟩
  st : st = .row ∨ st = .froz
  h1 : hget H 1 = some ⟨.box, [.int .i64 n]⟩
  h2 : hget H 2 = some ⟨.box, [oV id 1 new.length]⟩
  h3 : hget H 3 = some ⟨.box, [rwK 1 2 3]⟩
  id4 : 4 ≤ id
  hr : 0 < new.length → hget H id = some ⟨.row, lcs new⟩
structure RoB (l : List Int) (n : Nat) (L : List (List Int)) (H : AHeap) (st : BS) : Prop where
  h0 : hget H 0 = some ⟨st, ics l⟩
  st : st = .row ∨ st = .froz
  h1 : hget H 1 = some ⟨.box, [.int .i64 n]⟩
  h2 : hget H 2 = some ⟨.box, [.ref 3 0 L.length L.length L.length 1 false]⟩
  h3 : hget H 3 = some ⟨.row, lcs L⟩
  h4 : hget H 4 = some ⟨.box, [rwK 1 2 4]⟩
/-- What a call does. -/
structure RoC (d : Nat) (l : List Int) (n k m : Nat) (left most : Int) : Prop where
  a : ∃ H id st, pF d 105 [.ref 0 0 k k k 1 false, .int .i64 left, .int .i64 most, .ptr 1 0 1, .ptr 2 0 1, .ptr 3 0 1] (rhA l n) 64 = some (.tup [], H) ∧ RoA l n (fuR l m left most) H id st
  b : ∀ L : List (List Int), 0 < L.length → L.length + 9 ^ m ≤ 900000 → ∃ H st, pF d 105 [.ref 0 0 k k k 1 false, .int .i64 left, .int .i64 most, .ptr 1 0 1, .ptr 2 0 1, .ptr 4 0 1] (rhB l n L) 64 = some (.tup [], H) ∧ RoB l n (L ++ fuR l m left most) H st
theorem newsA {l : List Int} {n : Nat} {new : List (List Int)} {H : AHeap} {id : Nat} {st : BS} (h : RoA l n new H id st) : newsF H (.tup []) 4 = if new = [] then [] else [id] := by
  obtain ⟨h0, hs, h1, h2, h3, h4, hr⟩ := h
  have e : refsOf (.tup []) ++ List.range 4 = [0, 1, 2, 3] := rfl
  unfold newsF
  rw [e]
  cases hn : new with
  | nil =>
    subst hn
    rw [if_pos rfl]
    have hv : oV id 1 ([] : List (List Int)).length = .nilsl := rfl
    rw [hv] at h2
    rcases hs with rfl | rfl <;> simp [mark, h0, h1, h2, h3, refsL, refsOf]
  | cons x xs =>
    rw [← hn]
    have hp : 0 < new.length := by rw [hn]; simp
    rw [if_neg (by rw [hn]; simp)]
    rw [ov_pos hp] at h2
    have hr := hr hp
    have c0 : (id == 0) = false := by rw [beq_eq_false_iff_ne]; omega
    have c1 : (id == 1) = false := by rw [beq_eq_false_iff_ne]; omega
    have c2 : (id == 2) = false := by rw [beq_eq_false_iff_ne]; omega
    have c3 : (3 == id) = false := by rw [beq_eq_false_iff_ne]; omega
    have c4 : ¬ id < 4 := by omega
    have d0 : ¬ id = 0 := by omega
    have d1 : ¬ id = 1 := by omega
    have d2 : ¬ id = 2 := by omega
    have d3 : ¬ id = 3 := by omega
    have d3' : ¬ 3 = id := by omega
    have d2' : ¬ 2 = id := by omega
    have d1' : ¬ 1 = id := by omega
    rcases hs with rfl | rfl <;> simp [mark, h0, h1, h2, h3, hr, refsL, refsOf, d0, d1, d2, d1', d2', d3', h4]
theorem newsB {l : List Int} {n : Nat} {L : List (List Int)} {H : AHeap} {st : BS} (h : RoB l n L H st) : newsF H (.tup []) 5 = [] := by
  obtain ⟨h0, hs, h1, h2, h3, h4⟩ := h
  have e : refsOf (.tup []) ++ List.range 5 = [0, 1, 2, 3, 4] := rfl
  unfold newsF
  rw [e]
  rcases hs with rfl | rfl <;> simp [mark, h0, h1, h2, h3, h4, refsL, refsOf]
end Go.AM.Ytfmnoohhhokicaa
end
