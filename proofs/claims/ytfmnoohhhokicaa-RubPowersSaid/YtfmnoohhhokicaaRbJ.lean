/- A part of the proof of rubPowers_holds: RtA, CelH, CelG, RtB, RuF, RtC, RubN, RtD, RubP, RubM, RubT, RtE, RtF, SyB, RuG, RxB, WksR, RyB. Own work of this project; texts printed by own programs among it. -/
import Derived.KernelRfl
import Derived.Test.YtfmnoohhhokicaaRbI
section
namespace Go.AM.Ytfmnoohhhokicaa
open Go Go.AM Go.AM.Rub
set_option maxRecDepth 100000
set_option maxHeartbeats 4000000
theorem cmp_run {C : Callee} {a b : Int} (h : -1000000 ≤ b - a ∧ b - a ≤ 1000000) : rsOf (bodyA E C fg 1000000 109 [.int .i64 a, .int .i64 b] [] 0) = some (.int .i64 (b - a)) := by
  have w1 : wrp .i64 (b - a) = b - a := wrp64 (by omega)
  simp (disch := omega) only [ZF, frame0, stp, just, Rd.bind, Rd.run, Rd.opt, upds, resA, resL, aBin, aInt, Nat.reduceBEq, Nat.reduceEqDiff, Nat.reduceLeDiff, ↓reduceIte, reduceCtorEq, F_109, w1]
theorem cmp_call {d : Nat} {site : Nat → Nat} {seen : List Nat} {a b : Int} (h : -1000000 ≤ b - a ∧ b - a ≤ 1000000) : aBack site true seen (thaw (kF (d + 1)) 109 [.int .i64 a, .int .i64 b] [] 0) = .pure (.int .i64 (b - a), []) :=
  aBack_int (kF_ex rfl (cmp_run h))
theorem cmp_pure (caps args : List AV) : mutV E (.clo 109 caps) args = none := rfl
abbrev stH (l : List Int) : AHeap := [(0, ⟨.row, ics l⟩)]
theorem st_head {l l0 : List Int} {φ : AFr} : headA (stH l0) (φ, stH l) = (φ, stH l) := headA_keep (by simp [stH, hget_cons'])
/-- All numbers of a list lie within bounds. -/
def BdI (l : List Int) : Prop := ∀ k, k < l.length → -100000 ≤ rowF l k ∧ rowF l k ≤ 100000
theorem rowF_set {l : List Int} {a k : Nat} {x : Int} (hk : k < l.length) : rowF (l.set a x) k = if a = k then x else rowF l k := by
  simp only [rowF, List.getD_eq_getElem?_getD, List.getElem?_set]
  split
  · rename_i h; subst h; rw [if_pos hk]; rfl
  · rfl
theorem swp_bd {l : List Int} (h : BdI l) {j : Nat} (hj : j + 1 < l.length) : BdI (swpI l j) := by
  intro k hk
  rw [swpI_length] at hk
  have a := h j (by omega)
  have b := h (j + 1) hj
  have c := h k hk
  have e : rowF (swpI l j) k = if j = k then rowF l (j + 1) else if j + 1 = k then rowF l j else rowF l k := by
    unfold swpI
    rw [rowF_set (by rw [List.length_set]; exact hk), rowF_set hk]; rfl
  rw [e]
  split
  · exact b
  · split
    · exact a
    · exact c
abbrev inS (n i j : Nat) (l : List Int) : St := ([(9, .int .i64 j), (8, .int .i64 i), (3, .clo 109 []), (2, .int .i64 n), (1, .int .i64 0), (0, .ref 0 0 n n n 1 false)], stH l)
theorem ins_loop {d B : Nat} {l0 : List Int} {i n : Nat} (h9 : n ≤ 12) : ∀ (j F : Nat) (l : List Int), l.length = n → j < n → BdI l → j < F →
    ∃ j', iterA (execA E (kF (d + 1)) (fg 133) B 53 (stH l0) 1000000 c133_16) (headA (stH l0)) F (inS n i j l) = some (.exit 2, ([(34, .bool false), (9, .int .i64 j'), (8, .int .i64 i), (3, .clo 109 []), (2, .int .i64 n), (1, .int .i64 0), (0, .ref 0 0 n n n 1 false)], stH (insI l j)))
  | j, 0, _, _, _, _, hF => by omega
  | 0, F + 1, l, hl, _, _, _ => by
    refine ⟨(0 : Nat), ?_⟩
    rw [iterA_succ, st_head]
    generalize kF (d + 1) = C
    simp (disch := omega) only [ZF, opPick, just, Rd.bind, Rd.run, Rd.opt, upds, aBin, aInt, Nat.reduceAdd, Nat.reduceBEq, Nat.reduceEqDiff, Nat.reduceLeDiff, ↓reduceIte, stpT, ↓gdT, Rd.foot, writing, touching, Tr.empty, dynPairs, F_133, insI, cl0]
  | j + 1, F + 1, l, hl, hj, hb, hF => by
    have hlen : (ics l).length = n := by rw [ics_length, hl]
    have a1 := icr_at (l := l) (k := j) (by omega)
    have a2 := icr_at (l := l) (k := j + 1) (by omega)
    have b1 := hb j (by omega)
    have b2 := hb (j + 1) (by omega)
    have g1 : ((j + 1 : Nat) : Int) > 0 := by omega
    have g2 : ((j + 1 : Nat) : Int) < n := by omega
    have g3 : (j : Int) < n := by omega
    have w : wrp .i64 (((j + 1 : Nat) : Int) - 1) = (j : Int) := by rw [wrp64 (by omega)]; omega
    have cc := fun (site : Nat → Nat) seen => cmp_call (d := d) (site := site) (seen := seen) (a := rowF l (j + 1)) (b := rowF l j) (by omega)
    simp only [insI]
    by_cases hc : l.getD (j + 1) 0 > l.getD j 0
    · rw [if_pos hc]
      obtain ⟨j', hih⟩ := ins_loop (d := d) (B := B) (l0 := l0) (i := i) h9 j F (swpI l j) (by rw [swpI_length]; exact hl) (by omega) (swp_bd hb (by omega)) (by omega)
      refine ⟨j', ?_⟩
      rw [← hih, iterA_succ, st_head]
      simp only [inS, stH]
      have hneg : rowF l j - rowF l (j + 1) < 0 := by unfold rowF; omega
      have e1 := ics_set l (j + 1) (rowF l j)
      have e2 := ics_set (l.set (j + 1) (rowF l j)) j (rowF l (j + 1))
      have e3 : (l.set (j + 1) (rowF l j)).set j (rowF l (j + 1)) = swpI l j := rfl
      rw [e3] at e2
      have l1 : (ics (l.set (j + 1) (rowF l j))).length = n := by rw [ics_length, List.length_set, hl]
      generalize ics (swpI l j) = R at *
      generalize ics (l.set (j + 1) (rowF l j)) = M at *
      generalize kF (d + 1) = C at *
      simp (disch := omega) only [ZF, stp, opPick, just, Rd.bind, Rd.run, Rd.opt, upds, acells, tsz, rdCells, aLoad, aStore, opStore, aIndexAddr, aNum, aBin, aInt, putC, Nat.reduceAdd, Nat.reduceMul, Nat.reduceLT, Nat.reduceBEq, Nat.reduceEqDiff, Nat.reduceLeDiff, ↓reduceIte, reduceCtorEq, stpT, ↓gdT, Rd.foot, writing, touching, Tr.empty, dynPairs, apartT, disj, aCall, snaps, opCallV, ZT, F_133, callVT_eq (cmp_pure _ _), fi_109, hlen, l1, a1, a2, g1, g2, g3, w, cc, hneg, e1, e2, if_pos]
    · rw [if_neg hc]
      refine ⟨((j + 1 : Nat)), ?_⟩
      have hneg : ¬ rowF l j - rowF l (j + 1) < 0 := by unfold rowF; omega
      rw [iterA_succ, st_head]
      generalize kF (d + 1) = C at *
      simp (disch := omega) only [ZF, opPick, just, Rd.bind, Rd.run, Rd.opt, upds, tsz, rdCells, aLoad, aIndexAddr, aNum, aBin, aInt, Nat.reduceAdd, Nat.reduceMul, Nat.reduceLT, Nat.reduceBEq, Nat.reduceEqDiff, Nat.reduceLeDiff, ↓reduceIte, reduceCtorEq, stpT, ↓gdT, Rd.foot, writing, touching, Tr.empty, dynPairs, apartT, disj, aCall, snaps, opCallV, ZT, F_133, callVT_eq (cmp_pure _ _), fi_109, hlen, a1, a2, g1, g2, g3, w, cc, hneg]
theorem ins_bd {l : List Int} (_ : BdI l) : ∀ (j : Nat) (l : List Int), j < l.length → BdI l → BdI (insI l j)
  | 0, l, _, h => h
  | j + 1, l, hj, h => by
    simp only [insI]
    split
    · exact ins_bd h j (swpI l j) (by rw [swpI_length]; omega) (swp_bd h hj)
    · exact h
theorem srt_bd {l : List Int} (h : BdI l) : ∀ i, i < l.length → BdI (srtN l i)
  | 0, _ => h
  | i + 1, hi => ins_bd h (i + 1) _ (by rw [srtN_length]; exact hi) (srt_bd h i (by omega))
abbrev ouS (n i : Nat) (l : List Int) : St := ([(8, .int .i64 i), (3, .clo 109 []), (2, .int .i64 n), (1, .int .i64 0), (0, .ref 0 0 n n n 1 false)], stH l)
theorem ins_run {d B : Nat} {l : List Int} {n : Nat} (hl : l.length = n) (h0 : 0 < n) (h9 : n ≤ 12) (hb : BdI l) :
    kF (d + 2) 133 [.ref 0 0 n n n 1 false, .int .i64 0, .int .i64 n, .clo 109 []] (stH l) B = some (.tup [], stH (srtI l)) := by
  rw [kF_no rfl]
  have hloop := loopM (f := execA E (kF (d + 1)) (fg 133) B 53 (stH l) 1000000 c133_4) (E0 := stH l) (fun k => ouS n (k + 1) (srtN l k)) (n - 1) (fun k hk => by
      obtain ⟨j', hin⟩ := ins_loop (d := d) (B := B) (l0 := l) (i := k + 1) h9 (k + 1) 1000000 (srtN l k) (by rw [srtN_length, hl]) (by omega) (srt_bd hb k (by omega)) (by omega)
      have g1 : ((k + 1 : Nat) : Int) < n := by omega
      simp only [inS] at hin
      have e : srtN l (k + 1) = insI (srtN l k) (k + 1) := rfl
      simp only [ouS, e]
      generalize kF (d + 1) = C at *
      simp (disch := omega) only [ZF, stp, just, Rd.bind, Rd.run, Rd.opt, upds, aBin, aInt, Nat.reduceBEq, Nat.reduceEqDiff, Nat.reduceLeDiff, ↓reduceIte, F_133, g1, hin, wrp_succ (show k + 1 < 1000000 by omega)]
      exact ⟨_, rfl, st_head⟩) st_head (by omega)
    (e := .exit 0) (se := ([(14, .bool false), (8, .int .i64 n), (3, .clo 109 []), (2, .int .i64 n), (1, .int .i64 0), (0, .ref 0 0 n n n 1 false)], stH (srtI l)))
    (by
      have e : srtN l (n - 1) = srtI l := by rw [← hl]; rfl
      simp only [ouS, e, show n - 1 + 1 = n by omega]
      generalize kF (d + 1) = C at *
      simp (disch := omega) only [ZF, stp, just, Rd.bind, Rd.run, Rd.opt, upds, aBin, aInt, Nat.reduceBEq, Nat.reduceEqDiff, Nat.reduceLeDiff, ↓reduceIte, F_133]) (by simp)
  have z1 : ((0 + 1 : Nat) : Int) = 1 := rfl
  have e0 : srtN l 0 = l := rfl
  simp only [ouS, z1, e0] at hloop
  have w : wrp .i64 (0 + 1) = 1 := by decide
  generalize kF (d + 1) = C at *
  simp (disch := omega) only [ZF, frame0, stp, just, Rd.bind, Rd.run, Rd.opt, upds, resA, resL, aBin, aInt, Nat.reduceAdd, Nat.reduceBEq, Nat.reduceEqDiff, Nat.reduceLeDiff, ↓reduceIte, F_133, w, hloop]
theorem pdq_run {d B : Nat} {l : List Int} {n : Nat} {m : Int} (hl : l.length = n) (h0 : 0 < n) (h9 : n ≤ 12) (hb : BdI l) :
    kF (d + 3) 121 [.ref 0 0 n n n 1 false, .int .i64 0, .int .i64 n, .int .i64 m, .clo 109 []] (stH l) B = some (.tup [], stH (srtI l)) := by
  rw [kF_no rfl]
  have hi := fun B => ins_run (d := d) (B := B) hl h0 h9 hb
  have w1 : wrp .i64 ((n : Int) - 0) = n := wrp64 (by omega)
  have g : (n : Int) ≤ 12 := by omega
  simp only [stH] at hi
  generalize kF (d + 2) = C at *
  have hh := st_head (l := l) (l0 := l) (φ := [(11, .bool true), (10, .bool true), (4, .clo 109 []), (3, .int .i64 m), (2, .int .i64 n), (1, .int .i64 0), (0, .ref 0 0 n n n 1 false)])
  simp only [stH] at hh
  simp (disch := omega) only [ZF, frame0, stp, just, Rd.bind, Rd.run, Rd.opt, upds, resA, resL, aBin, aInt, Nat.reduceAdd, Nat.reduceMul, Nat.reduceBEq, Nat.reduceEqDiff, Nat.reduceLeDiff, ↓reduceIte, reduceCtorEq, mutX, F_121, iterA_succ, hh, hi, w1, g]
theorem len_ok (d : Nat) : ([1, 2, 3, 4, 5, 6].all fun n => match kF (d + 4) 111 [.int .u64 n] [] 0 with | some (.int .i64 _, _) => true | _ => false) = true := by kernel_rfl
theorem len_call (d : Nat) {n : Nat} (h0 : 0 < n) (h6 : n ≤ 6) : ∃ m, ∀ (site : Nat → Nat) seen, aBack site true seen (thaw (kF (d + 4)) 111 [.int .u64 (n : Int)] [] 0) = .pure (.int .i64 m, []) := by
  have := List.all_eq_true.1 (len_ok d) (n : Int) (by
    have : n = 1 ∨ n = 2 ∨ n = 3 ∨ n = 4 ∨ n = 5 ∨ n = 6 := by omega
    rcases this with rfl | rfl | rfl | rfl | rfl | rfl <;> simp)
  split at this
  · rename_i m H h
    exact ⟨m, fun site seen => aBack_int ⟨H, h⟩⟩
  · exact absurd this (by simp)
theorem sort_run {d B : Nat} {l : List Int} {n : Nat} (hl : l.length = n) (h0 : 0 < n) (h6 : n ≤ 6) (hb : BdI l) :
    kF (d + 5) 108 [.ref 0 0 n n n 1 false, .clo 109 []] (stH l) B = some (.tup [], stH (srtI l)) := by
  rw [kF_no rfl]
  obtain ⟨m, hL⟩ := len_call d h0 h6
  have hi := fun B => pdq_run (d := d + 1) (B := B) (m := m) hl h0 (by omega) hb
  have w1 : wrp .u64 (n : Int) = n := wrp_id (by simp only [kLo]; omega) (by simp only [kHi]; omega)
  have hlen : (ics l).length = n := by rw [ics_length, hl]
  simp only [stH] at hi
  generalize kF (d + 4) = C at *
  simp (disch := omega) only [ZF, frame0, stp, justO, just, Rd.bind, Rd.run, upds, resA, resL, aLen, aBuiltin, Nat.reduceMul, Nat.reduceBEq, Nat.reduceEqDiff, Nat.reduceLeDiff, ↓reduceIte, reduceCtorEq, mutX, aCall, snaps, aConv, ZT, F_108, w1, hL, hi, hlen]
theorem sorted_run {d : Nat} {l : List Int} {n : Nat} (hl : l.length = n) (h0 : 0 < n) (h6 : n ≤ 6) (hb : BdI l) :
    pF (d + 6) 67 [.ref 0 0 n n n 1 false] (stH l) 64 = some (.tup [], stH (srtI l)) := by
  rw [pF_s]
  have hi := fun B => sort_run (d := d) (B := B) hl h0 h6 hb
  simp only [stH] at hi
  generalize kF (d + 5) = C at *
  simp (disch := omega) only [ZF, frame0, resA, resL, Nat.reduceAdd, Nat.reduceMul, Nat.reduceBEq, Nat.reduceEqDiff, Nat.reduceLeDiff, ↓reduceIte, reduceCtorEq, mutX, F_67, hi]
/-- Sorted, wherever the list lies. -/
theorem sorted_call {d B k : Nat} {l : List Int} {n : Nat} {H : AHeap} (hl : l.length = n) (h0 : 0 < n) (h6 : n ≤ 6) (hb : BdI l) (hH : hget H k = some ⟨.row, ics l⟩) :
    kF (d + 6) 67 [.ref k 0 n n n 1 false] H B = some (.tup [], hset H k ⟨.row, ics (srtI l)⟩) := by
  rw [kF_fr rfl]
  have hr := sorted_run (d := d) hl h0 h6 hb
  have hm : (mark H 1000 (refsL [.ref k 0 n n n 1 false]) []).reverse = [k] := by
    simp only [refsL, refsOf, List.append_nil, mark, hH, List.contains_nil, Bool.false_eq_true, if_false, List.reverse_cons, List.reverse_nil, List.nil_append]
  have hlen : (ics l).length = n := by rw [ics_length, hl]
  have hlen2 : (ics (srtI l)).length = n := by rw [ics_length]; show (srtN l _).length = n; rw [srtN_length, hl]
  rw [hm]
  simp only [stH] at hr
  have h2 : newsF [(0, ⟨.row, ics (srtI l)⟩)] (.tup []) 1 = [] := rfl
  simp only [focus, AM.apart, List.elem_nil, Bool.not_false, Bool.and_self, if_true, renL, ren, posF, foc, hH, renB, hr, backF, List.length_cons, List.length_nil, Nat.zero_add, h2, baseF, freeL, outF, Nat.lt_one_iff, List.getElem?_cons_zero, List.range_one, List.append_nil, unf, hget_c, goodB, BS.open_]
  rfl
end Go.AM.Ytfmnoohhhokicaa
end

section
namespace Go.AM
theorem hg_mem : ∀ {H : AHeap} {k : Nat} {b : Blk}, (k, b) ∈ H → (hget H k).isSome = true
  | (j, c) :: t, k, b, h => by
    rw [hget_c]
    cases hj : Nat.beq j k with
    | true => rfl
    | false =>
      rcases List.mem_cons.1 h with e | h
      · injection e with e1 e2; subst e1; rw [Nat.beq_refl] at hj; exact absurd hj (by simp)
      · exact hg_mem h
/-- A loop of n rounds, whatever was there at the call's begin. -/
theorem loopE {E0 : AHeap} {f : St → XR} (st : Nat → St) (n : Nat) (h : ∀ i, i < n → ∃ s', f (st i) = some (.normal, s') ∧ headA E0 s' = st (i + 1)) (h0 : headA E0 (st 0) = st 0) (hn : n < 1000) {e : Ex} {se : St} (he : f (st n) = some (e, se)) (hne : e ≠ .normal) :
    iterA f (headA E0) 1000 (st 0) = some (e, se) :=
  iter_all st n 1000 0 (st 0) h0 hn (fun i _ hi => h i (by omega)) (by rw [Nat.zero_add]; exact he) hne
end Go.AM
end

section
namespace Go.AM
section
variable {k : Nat} {c : List AV} {T : AHeap}
theorem mark_box (hc : refsL c = []) : ∀ (n : Nat) (todo seen : List Nat), mark ((k, ⟨.box, c⟩) :: T) n todo seen = mark ((k, ⟨.box, []⟩) :: T) n todo seen
  | 0, _, _ => rfl
  | n + 1, [], _ => rfl
  | n + 1, i :: todo, seen => by
    simp only [mark, hget_cons']
    by_cases hs : seen.contains i = true
    · rw [if_pos hs, if_pos hs]; exact mark_box hc n todo seen
    · rw [if_neg hs, if_neg hs]
      by_cases e : k = i
      · rw [if_pos e, if_pos e]
        simp only [hc]
        exact mark_box hc n _ _
      · rw [if_neg e, if_neg e]
        cases hget T i with
        | none => exact mark_box hc n _ _
        | some b =>
          obtain ⟨st, cs⟩ := b
          cases st <;> exact mark_box hc n _ _
theorem held_box (S : AHeap) : ∀ l : List Nat, allHeld ((k, ⟨.box, c⟩) :: S) l = allHeld ((k, ⟨.box, []⟩) :: S) l
  | [] => rfl
  | i :: l => by
    simp only [allHeld, hget_cons', held_box S l]
    by_cases e : k = i
    · rw [if_pos e, if_pos e]; rfl
    · rw [if_neg e, if_neg e]
theorem closed_box (S : AHeap) : ∀ K : AHeap, closedH ((k, ⟨.box, c⟩) :: S) K = closedH ((k, ⟨.box, []⟩) :: S) K
  | [] => rfl
  | (i, ⟨st, cs⟩) :: K => by
    cases st <;> simp only [closedH, held_box, closed_box S K]
theorem headA_box (hc : refsL c = []) {φ : AFr} {T' : AHeap} (hT : hget T k = none) (h : headA [] (φ, (k, ⟨.box, []⟩) :: T) = (φ, (k, ⟨.box, []⟩) :: T')) : headA [] (φ, (k, ⟨.box, c⟩) :: T) = (φ, (k, ⟨.box, c⟩) :: T') := by
  simp only [headA, mark_box hc] at h ⊢
  generalize mark ((k, ⟨.box, []⟩) :: T) 1000 (refsF φ) [] = keep at *
  simp only [keepB] at h ⊢
  have hno : ∀ b, (k, b) ∉ T := by
    intro b hb
    have := hg_mem hb
    rw [hT] at this
    simp at this
  have hsub : ∀ (S : AHeap) (p : Nat × Blk), p ∈ keepB [] keep S → p ∈ S := by
    intro S
    induction S with
    | nil => intro p hp; exact hp
    | cons q S ih =>
      intro p hp
      obtain ⟨i, b⟩ := q
      simp only [keepB] at hp
      cases hcnd : (keep.elem i || (hget [] i).isSome) with
      | true =>
        rw [hcnd, cond_true] at hp
        rcases List.mem_cons.1 hp with e | hp
        · simp [e]
        · exact List.mem_cons_of_mem _ (ih p hp)
      | false =>
        rw [hcnd, cond_false] at hp
        exact List.mem_cons_of_mem _ (ih p hp)
  have hclosed : ∀ S, closedB φ ((k, ⟨.box, c⟩) :: S) = closedB φ ((k, ⟨.box, []⟩) :: S) := by
    intro S
    simp only [closedB, held_box, closedH, hc, closed_box, refsL, allHeld]
  cases hcnd : (keep.elem k || (hget [] k).isSome) with
  | true =>
    rw [hcnd] at h
    simp only [cond_true, gcIf, hclosed] at h ⊢
    cases hcl : closedB φ ((k, ⟨.box, []⟩) :: keepB [] keep T) with
    | true =>
      rw [hcl] at h
      simp only [Prod.mk.injEq, List.cons.injEq, true_and] at h ⊢
      exact h
    | false =>
      rw [hcl] at h
      simp only [Prod.mk.injEq, List.cons.injEq, true_and] at h ⊢
      exact h
  | false =>
    rw [hcnd] at h
    simp only [cond_false, gcIf] at h ⊢
    cases hcl : closedB φ (keepB [] keep T) with
    | true =>
      rw [hcl] at h
      simp only [Prod.mk.injEq, true_and] at h
      exfalso
      exact hno ⟨.box, []⟩ (hsub T _ (by rw [h]; simp))
    | false =>
      rw [hcl] at h
      simp only [Prod.mk.injEq, List.cons.injEq, true_and] at h ⊢
      exact h
end
end Go.AM
end

section
namespace Go.AM.Ytfmnoohhhokicaa
open Go Go.AM Go.AM.Rub
set_option maxRecDepth 100000
set_option maxHeartbeats 4000000
/-- Bytes. -/
def u8s (l : List Int) : List AV := l.map (AV.int .u8)
theorem u8s_len (l : List Int) : (u8s l).length = l.length := by simp [u8s]
theorem u8s_at {l : List Int} {k : Nat} (h : k < l.length) : (u8s l)[k]? = some (.int .u8 (rowF l k)) := by simp [u8s, rowF_at h]
theorem u8s_refs : ∀ l : List Int, refsL (u8s l) = []
  | [] => rfl
  | a :: l => by
    have := u8s_refs l
    unfold u8s at this ⊢
    simp only [List.map_cons, refsL, refsOf, this, List.append_nil]
/-- A pile's numbers. -/
structure Pl (zs : List Int) : Prop where
  len : zs.length = 8
  b : ∀ k, k < 8 → 0 ≤ rowF zs k ∧ rowF zs k ≤ 255
theorem pl_of {zs : List Int} (h : zs.length = 8 ∧ ∀ (i : Nat) (z : Int), zs[i]? = some z → 0 ≤ z ∧ z ≤ 255) : Pl zs := ⟨h.1, fun k hk => h.2 k _ (rowF_at (by rw [h.1]; exact hk))⟩
/-- How many stones, and their thicknesses, unsorted. -/
def mdN (zs : List Int) (m : Int) : Nat := (1 + (rowF zs 0).tmod m).toNat
def mdP (zs : List Int) (t : Int) (i : Nat) : List Int := (List.range i).map fun k => (rowF zs (2 + k)).tmod (1 + (rowF zs 1).tmod t + 1)
theorem mdP_len (zs : List Int) (t : Int) (i : Nat) : (mdP zs t i).length = i := by simp [mdP]
theorem mdP_snoc (zs : List Int) (t : Int) (i : Nat) : mdP zs t (i + 1) = mdP zs t i ++ [(rowF zs (2 + i)).tmod (1 + (rowF zs 1).tmod t + 1)] := by simp [mdP, List.range_succ]
theorem tmod_b {a b : Int} (ha : 0 ≤ a) (hb : 0 < b) : 0 ≤ a.tmod b ∧ a.tmod b < b := ⟨Int.tmod_nonneg _ ha, Int.tmod_lt_of_pos _ hb⟩
theorem mdN_b {zs : List Int} (h : Pl zs) {m : Int} (h0 : 0 < m) (_ : m ≤ 6) : 0 < mdN zs m ∧ (mdN zs m : Int) ≤ m ∧ (mdN zs m : Int) = 1 + (rowF zs 0).tmod m := by
  have := tmod_b (h.b 0 (by omega)).1 h0
  unfold mdN
  omega
theorem mdP_b {zs : List Int} (h : Pl zs) {t : Int} (h0 : 0 < t) {i : Nat} (hi : i ≤ 6) {k : Nat} (hk : k < i) : 0 ≤ rowF (mdP zs t i) k ∧ rowF (mdP zs t i) k ≤ t := by
  have h1 := tmod_b (h.b 1 (by omega)).1 h0
  have h2 := tmod_b (a := rowF zs (2 + k)) (b := 1 + (rowF zs 1).tmod t + 1) (h.b (2 + k) (by omega)).1 (by omega)
  have e : rowF (mdP zs t i) k = (rowF zs (2 + k)).tmod (1 + (rowF zs 1).tmod t + 1) := by
    simp only [rowF, mdP, List.getD_eq_getElem?_getD, List.getElem?_map]
    rw [List.getElem?_range hk]; rfl
  rw [e]; omega
/-- The row of a pile. -/
def mdR (zs : List Int) (m t : Int) : List Int := srtI (mdP zs t (mdN zs m))
theorem mdR_row {zs : List Int} (h : Pl zs) {m t : Int} (hm : 0 < m) (h6 : m ≤ 6) (ht : 0 < t) (h8 : t ≤ 8) : Rw (mdN zs m) (mdR zs m t) ∧ ∀ x ∈ mdR zs m t, x ≤ t := by
  obtain ⟨n0, n1, _⟩ := mdN_b h hm h6
  have hl := mdP_len zs t (mdN zs m)
  obtain ⟨hp, hd⟩ := srtI_spec (l := mdP zs t (mdN zs m)) (by omega)
  have hx : ∀ x ∈ srtI (mdP zs t (mdN zs m)), 0 ≤ x ∧ x ≤ t := by
    intro x hx
    have hx := hp.mem_iff.1 hx
    obtain ⟨k, hk, rfl⟩ := List.getElem_of_mem hx
    have := mdP_b h ht (i := mdN zs m) (by omega) (k := k) (by omega)
    rw [show rowF (mdP zs t (mdN zs m)) k = (mdP zs t (mdN zs m))[k] by simp [rowF, hk]] at this
    exact this
  exact ⟨⟨by show (srtI _).length = _; rw [hp.length_eq, hl], descP_row (fun x h => by have := hx x h; omega) hd⟩, fun x h => (hx x h).2⟩
noncomputable abbrev mdS (zs : List Int) (n : Nat) (t : Int) (i : Nat) : St :=
  ([(19, .int .i64 i), (18, .int .i64 n), (17, .ref 3 2 n 6 8 1 true), (7, oV 35 1 i), (3, .ptr 3 0 8), (2, .int .i64 t)], (3, ⟨.box, u8s zs⟩) :: oH 35 (ics (mdP zs t i)))
theorem md_go {C : Callee} {zs : List Int} {n : Nat} {t : Int} (h : Pl zs) (hn : n ≤ 6) (h0 : 0 < t) (h8 : t ≤ 8) (i : Nat) (hi : i < n) :
    ∃ s', (execA E C (fg 56) 0 40 [] 1000000 c56_9) (mdS zs n t i) = some (.normal, s') ∧ headA [] s' = mdS zs n t (i + 1) := by
  have hlz : (u8s zs).length = 8 := by rw [u8s_len, h.len]
  have hat := u8s_at (l := zs) (k := 2 + i) (by rw [h.len]; omega)
  have hat1 := u8s_at (l := zs) (k := 1) (by rw [h.len]; omega)
  have b1 := h.b 1 (by omega)
  have b2 := h.b (2 + i) (by omega)
  have m1 := tmod_b b1.1 h0
  have m2 := tmod_b (a := rowF zs (2 + i)) (b := 1 + (rowF zs 1).tmod t + 1) b2.1 (by omega)
  have hsn := ics_snoc (mdP zs t i) ((rowF zs (2 + i)).tmod (1 + (rowF zs 1).tmod t + 1))
  have hrl : (ics (mdP zs t i)).length = i := by rw [ics_length, mdP_len]
  have g1 : (i : Int) < n := by omega
  have t0 : ¬ t = 0 := by omega
  have hz := u8s_refs zs
  simp only [mdS]
  rw [ov_pos (show 0 < i + 1 by omega), ohi_pos (l := mdP zs t (i + 1)) (by rw [mdP_len]; omega), mdP_snoc, ← hsn]
  have w1 : wrp .i64 (rowF zs (2 + i)) = rowF zs (2 + i) := wrp64 (by omega)
  have w2 : wrp .i64 (rowF zs 1) = rowF zs 1 := wrp64 (by omega)
  generalize rowF zs (2 + i) = x at *
  generalize rowF zs 1 = y at *
  generalize u8s zs = Z at *
  generalize hq : y.tmod t = q at *
  have w3 : wrp .i64 (1 + q) = 1 + q := wrp64 (by omega)
  have w4 : wrp .i64 (1 + q + 1) = 1 + q + 1 := wrp64 (by omega)
  have q0 : ¬ 1 + q + 1 = 0 := by omega
  rcases Nat.eq_zero_or_pos i with hp | hp
  · subst hp
    have e0 : ics (mdP zs t 0) = [] := rfl
    rw [e0, ov_zero]
    have oh0 : oH 35 [] = [] := rfl
    rw [oh0]
    simp (disch := omega) only [ZF, stp, justO, just, Rd.bind, Rd.run, Rd.opt, upds, acells, zeroCells, tsz, elemT, rdCells, fieldOf, aFieldAddr, aLoad, fresh, aIndexAddr, aNum, aBuiltin, aBin, aInt, putC, evO, Nat.reduceAdd, Nat.reduceLT, Nat.reduceBEq, Nat.reduceEqDiff, Nat.reduceLeDiff, ↓reduceIte, reduceCtorEq, aBuildSlice, aBuildAt, partsOf, fillA, repC, isSliceT, aAppend, srcOf, window, snaps, aConv, Int.reduceLE, Int.reduceToNat, ZT, F_56, hlz, hat, hat1, t0, q0, hq, w1, w2, w3, w4, cl0, if_pos, room22 (show 1 ≤ 1000000 by omega)]
    exact ⟨_, rfl, headA_box hz rfl rfl⟩
  · rw [ov_pos hp, ohi_pos (by rw [mdP_len]; exact hp)]
    have htk : List.take i (ics (mdP zs t i)) = ics (mdP zs t i) := List.take_of_length_le (by omega)
    have hno : ¬ i + 1 ≤ i := by omega
    generalize ics (mdP zs t i) = L at *
    simp (disch := omega) only [ZF, stp, justO, just, Rd.bind, Rd.run, Rd.opt, upds, acells, zeroCells, tsz, elemT, rdCells, fieldOf, aFieldAddr, aLoad, fresh, aIndexAddr, aNum, aBuiltin, aBin, aInt, putC, evO, Nat.reduceAdd, Nat.reduceLT, Nat.reduceBEq, Nat.reduceEqDiff, Nat.reduceLeDiff, ↓reduceIte, reduceCtorEq, aBuildSlice, aBuildAt, partsOf, fillA, repC, isSliceT, aAppend, srcOf, window, snaps, aConv, ZT, F_56, g1, hlz, hat, hat1, t0, q0, hq, w1, w2, w3, w4, hrl, htk, hno, room22 (show i + 1 ≤ 1000000 by omega), wrp_succ (show i < 1000000 by omega)]
    exact ⟨_, rfl, headA_box hz rfl rfl⟩
theorem made_run {d : Nat} {zs : List Int} {m t : Int} (h : Pl zs) (hm : 0 < m) (h6 : m ≤ 6) (h0 : 0 < t) (h8 : t ≤ 8) :
    ∃ H, bodyA E (kF (d + 6)) fg 1000000 56 [.agg (u8s zs), .int .i64 m, .int .i64 t] [] 0 = some (.ref 35 0 (mdN zs m) (mdN zs m) (mdN zs m) 1 false, H) ∧ hget H 35 = some ⟨.row, ics (mdR zs m t)⟩ := by
  obtain ⟨n0, n1, n2⟩ := mdN_b h hm h6
  have hlz : (u8s zs).length = 8 := by rw [u8s_len, h.len]
  have hat0 := u8s_at (l := zs) (k := 0) (by rw [h.len]; omega)
  have b0 := h.b 0 (by omega)
  have hz := u8s_refs zs
  have hpl := mdP_len zs t (mdN zs m)
  have hso := fun B => sorted_call (d := d) (B := B) (k := 35) (l := mdP zs t (mdN zs m)) (n := mdN zs m) (H := [(3, ⟨.box, u8s zs⟩), (35, ⟨.row, ics (mdP zs t (mdN zs m))⟩)]) hpl n0 (by omega) (fun k hk => by
    have := mdP_b h h0 (i := mdN zs m) (by omega) (k := k) (by omega)
    omega) rfl
  have hh : ∀ b : Blk, hset [(3, ⟨.box, u8s zs⟩), (35, ⟨.row, ics (mdP zs t (mdN zs m))⟩)] 35 b = [(3, ⟨.box, u8s zs⟩), (35, b)] := fun _ => rfl
  simp only [hh] at hso
  have er : srtI (mdP zs t (mdN zs m)) = mdR zs m t := rfl
  rw [er] at hso
  have hloop := loopM (f := execA E (kF (d + 6)) (fg 56) 0 40 [] 1000000 c56_9) (E0 := []) (mdS zs (mdN zs m) t) (mdN zs m) (fun i hi => md_go h (by omega) h0 h8 i hi) (headA_box hz rfl rfl) (by omega)
    (e := .exit 0) (se := ([(20, .bool false), (19, .int .i64 (mdN zs m)), (18, .int .i64 (mdN zs m)), (17, .ref 3 2 (mdN zs m) 6 8 1 true), (7, .ref 35 0 (mdN zs m) (mdN zs m) (mdN zs m) 1 false), (3, .ptr 3 0 8), (2, .int .i64 t)], [(3, ⟨.box, u8s zs⟩), (35, ⟨.row, ics (mdP zs t (mdN zs m))⟩)]))
    (by
      simp only [mdS]
      rw [ov_pos n0, ohi_pos (by rw [hpl]; exact n0)]
      simp (disch := omega) only [ZF, stp, just, Rd.bind, Rd.run, Rd.opt, upds, aBin, aInt, Nat.reduceEqDiff, Nat.reduceLeDiff, ↓reduceIte, F_56]) (by simp)
  have e0 : oH 35 (ics (mdP zs t 0)) = [] := rfl
  simp only [mdS, cl0, e0, ov_zero] at hloop
  have w1 : wrp .i64 (rowF zs 0) = rowF zs 0 := wrp64 (by omega)
  have w2 : wrp .i64 (1 + (rowF zs 0).tmod m) = (mdN zs m : Int) := by rw [← n2]; exact wrp64 (by omega)
  have hm0 : ¬ m = 0 := by omega
  have sp := fun d => snaps_flat (u8s zs) (d + 10) (by simp [u8s]) (by rw [hlz]; omega)
  generalize kF (d + 6) = C at *
  generalize mdN zs m = n at *
  generalize mdR zs m t = R at *
  generalize ics (mdP zs t n) = L at *
  generalize rowF zs 0 = x at *
  generalize u8s zs = Z at *
  have g1 : (0 : Int) ≤ n ∧ (n : Int) ≤ 6 := by omega
  simp (disch := omega) only [ZF, frame0, stp, opBox, justO, just, Rd.bind, Rd.run, Rd.opt, upds, acells, tsz, rdCells, fieldOf, aFieldAddr, aLoad, resA, resL, fresh, aNum, aLen, aBuiltin, aBin, aInt, Nat.reduceAdd, Nat.reduceMul, Nat.reduceLT, Nat.reduceBEq, Nat.reduceEqDiff, Nat.reduceLeDiff, ↓reduceIte, reduceCtorEq, mutX, aConv, aSlice, aBounds, bMax, bHigh, bLow, ZT, F_56, hlz, hat0, w1, w2, hm0, g1, hloop, hso, if_pos]
  exact ⟨_, rfl, rfl⟩
theorem made_call {d : Nat} {site : Nat → Nat} {seen : List Nat} {zs : List Int} {m t : Int} (h : Pl zs) (hm : 0 < m) (h6 : m ≤ 6) (h0 : 0 < t) (h8 : t ≤ 8) : aBack site true seen (thaw (kF (d + 7)) 56 [.agg (u8s zs), .int .i64 m, .int .i64 t] [] 0) =
    back1 (site 0) seen (fun k => .ref k 0 (mdN zs m) (mdN zs m) (mdN zs m) 1 false) ⟨.row, ics (mdR zs m t)⟩ := by
  obtain ⟨H, h1, h2⟩ := made_run (d := d) h hm h6 h0 h8
  exact aBack_refc (by rw [kF_no rfl]; exact h1) h2 (by rw [ics_length]; exact (mdR_row h hm h6 h0 h8).1.len)
end Go.AM.Ytfmnoohhhokicaa
end

section
namespace Go.AM.Ytfmnoohhhokicaa
open Go Go.AM Go.AM.Rub
set_option maxRecDepth 100000
set_option maxHeartbeats 4000000
theorem iv_al {l : List Int} {a : AV} (h : IV l a) : aLen E.T 22 a = .pure (.int .i64 (l.length : Int)) := by
  rcases h with ⟨rfl, rfl⟩ | ⟨ex, rfl⟩ <;> (simp only [aLen, T_22] <;> rfl)
/-- The first place where two lists differ. -/
def dfE (l m : List Int) (i : Nat) : Int := if rowF l i = rowF m i then 0 else 1
theorem list_ext {l m : List Int} (hl : l.length = m.length) : fe (dfE l m) 0 l.length = 0 ↔ l = m := by
  rw [fe_zero]
  constructor
  · intro h
    refine row_ext hl fun i hi => ?_
    have := h i (by omega) (by omega)
    unfold dfE at this
    split at this
    · assumption
    · exact absurd this (by decide)
  · rintro rfl i _ _
    exact if_pos rfl
abbrev saS (a b : AV) (i : Nat) : St := ([(5, .int .i64 i), (1, b), (0, a)], [])
theorem same_run {C : Callee} {l m : List Int} {a b : AV} (ha : IV l a) (hb : IV m b) (hl : l.length ≤ 1000) : rsOf (bodyA E C fg 1000000 24 [a, b] [] 0) = some (.bool (decide (l = m))) := by
  have la := iv_al ha
  have lb := iv_al hb
  by_cases hlm : l.length = m.length
  · have g1 : ¬ (l.length : Int) ≠ m.length := by omega
    have g2 : ((l.length : Int) != m.length) = false := by rw [bne_eq_false_iff_eq]; omega
    have g3 : (l.length : Int) = m.length := by omega
    by_cases h0 : l.length = 0
    · have e1 : l = [] := List.length_eq_zero_iff.1 h0
      have e2 : m = [] := List.length_eq_zero_iff.1 (by omega)
      subst e1 e2
      rw [decide_eq_true rfl]
      have hloop := loopM0 (f := (execA E C (fg 24) 0 26 [] 1000000 c24_15)) (E0 := []) (s0 := saS a b 0) (by rcases ha with ⟨_, rfl⟩ | ⟨_, rfl⟩ <;> rcases hb with ⟨_, rfl⟩ | ⟨_, rfl⟩ <;> rfl) (e := .exit 0) (se := ([(14, .bool false), (5, .int .i64 0), (1, b), (0, a)], []))
        (by simp (disch := omega) only [ZF, stp, just, Rd.bind, Rd.run, Rd.opt, upds, aBuiltin, aBin, aInt, Nat.reduceBEq, Nat.reduceEqDiff, Nat.reduceLeDiff, ↓reduceIte, reduceCtorEq, F_24, la, saS, cl0]) (by simp)
      simp only [saS, cl0] at hloop
      simp (disch := omega) only [ZF, frame0, stp, just, Rd.bind, Rd.run, Rd.opt, upds, resA, resL, aBuiltin, aBin, aInt, Nat.reduceBEq, Nat.reduceEqDiff, Nat.reduceLeDiff, ↓reduceIte, reduceCtorEq, F_24, la, lb, hloop]
    · obtain ⟨ea, rfl⟩ := iv_ne ha (by omega)
      obtain ⟨eb, rfl⟩ := iv_ne hb (by omega)
      have hlen := ics_length l
      have hlen2 := ics_length m
      have hloop := loopE (f := (execA E C (fg 24) 0 26 [] 1000000 c24_15)) (e := dfE l m) (R := fun _ H => ([(4, .bool false)], H)) (saS (.imm (ics l) l.length ea) (.imm (ics m) m.length eb)) l.length (E0 := []) rfl (by omega) (x := .exit 0) (se := ([(14, .bool false), (5, .int .i64 l.length), (1, .imm (ics m) m.length eb), (0, .imm (ics l) l.length ea)], [])) (by simp)
        (fun i hi _ he => by
          have a1 := icr_at (l := l) (k := i) hi
          have a2 := icr_at (l := m) (k := i) (by omega)
          have k1 : (i : Int) < l.length := by omega
          have k2 : (i : Int) < m.length := by omega
          have hq : rowF l i = rowF m i := by
            unfold dfE at he
            split at he
            · assumption
            · exact absurd he (by decide)
          rw [hq] at a1
          simp (disch := omega) only [ZF, stp, just, Rd.bind, Rd.run, Rd.opt, upds, tsz, rdCells, aLoad, aIndexAddr, aNum, aLen, aBuiltin, aBin, aInt, Nat.reduceAdd, Nat.reduceLT, Nat.reduceBEq, Nat.reduceEqDiff, Nat.reduceLeDiff, ↓reduceIte, reduceCtorEq, stpT, Rd.foot, writing, touching, Tr.empty, dynPairs, ZT, F_24, saS, k1, k2, a1, a2, hlen, hlen2, wrp_succ (show i < 1000000 by omega)]
          exact ⟨_, rfl, rfl⟩)
        (fun i hi _ he => by
          have a1 := icr_at (l := l) (k := i) hi
          have a2 := icr_at (l := m) (k := i) (by omega)
          have k1 : (i : Int) < l.length := by omega
          have k2 : (i : Int) < m.length := by omega
          have hq : ¬ rowF l i = rowF m i := fun h => he (if_pos h)
          have hq2 : (rowF l i != rowF m i) = true := by rw [bne_iff_ne]; exact hq
          simp (disch := omega) only [ZF, stp, just, Rd.bind, Rd.run, Rd.opt, upds, tsz, rdCells, aLoad, aIndexAddr, aNum, aLen, aBuiltin, aBin, aInt, Nat.reduceAdd, Nat.reduceLT, Nat.reduceBEq, Nat.reduceEqDiff, Nat.reduceLeDiff, ↓reduceIte, reduceCtorEq, stpT, Rd.foot, writing, touching, Tr.empty, dynPairs, ZT, F_24, saS, k1, k2, a1, a2, hlen, hlen2, hq2]
          exact ⟨_, rfl⟩)
        (fun _ => by simp (disch := omega) only [ZF, stp, just, Rd.bind, Rd.run, Rd.opt, upds, aLen, aBuiltin, aBin, aInt, Nat.reduceBEq, Nat.reduceEqDiff, Nat.reduceLeDiff, ↓reduceIte, reduceCtorEq, ZT, F_24, saS])
      simp only [saS, cl0] at hloop
      rcases hloop with ⟨hz, hloop⟩ | ⟨hz, H, hloop⟩
      · rw [decide_eq_true ((list_ext hlm).1 hz)]
        simp (disch := omega) only [ZF, frame0, stp, just, Rd.bind, Rd.run, Rd.opt, upds, resA, resL, aLen, aBuiltin, aBin, aInt, Nat.reduceBEq, Nat.reduceEqDiff, Nat.reduceLeDiff, ↓reduceIte, reduceCtorEq, ZT, F_24, hloop, g3]
      · rw [decide_eq_false fun e => hz ((list_ext hlm).2 e)]
        simp (disch := omega) only [ZF, frame0, stp, just, Rd.bind, Rd.run, Rd.opt, upds, resA, resL, aLen, aBuiltin, aBin, aInt, Nat.reduceBEq, Nat.reduceEqDiff, Nat.reduceLeDiff, ↓reduceIte, reduceCtorEq, ZT, F_24, hloop, g3]
  · rw [decide_eq_false fun e => hlm (by rw [e])]
    have g1 : (l.length : Int) ≠ m.length := by omega
    have g2 : ((l.length : Int) != m.length) = true := by rw [bne_iff_ne]; omega
    have g3 : ¬ (l.length : Int) = m.length := by omega
    simp (disch := omega) only [ZF, frame0, stp, just, Rd.bind, Rd.run, Rd.opt, upds, resA, resL, aBuiltin, aBin, aInt, Nat.reduceBEq, Nat.reduceEqDiff, Nat.reduceLeDiff, ↓reduceIte, reduceCtorEq, F_24, la, lb, g2]
theorem same_call {d : Nat} {site : Nat → Nat} {seen : List Nat} {l m : List Int} {a b : AV} (ha : IV l a) (hb : IV m b) (hl : l.length ≤ 1000) : aBack site true seen (thaw (kF (d + 1)) 24 [a, b] [] 0) = .pure (.bool (decide (l = m)), []) :=
  aBack_bool (kF_ex rfl (same_run ha hb hl))
end Go.AM.Ytfmnoohhhokicaa
end

section
namespace Go.AM.Ytfmnoohhhokicaa
open Go Go.AM Go.AM.Rub
set_option maxRecDepth 100000
set_option maxHeartbeats 4000000
/-- The cells of a list of rows. -/
def lcs (L : List (List Int)) : List AV := L.map fun l => .imm (ics l) l.length false
theorem lcs_length (L : List (List Int)) : (lcs L).length = L.length := by simp [lcs]
theorem lcs_at {L : List (List Int)} {k : Nat} {l : List Int} (h : L[k]? = some l) : (lcs L)[k]? = some (.imm (ics l) l.length false) := by simp [lcs, h]
theorem lcs_snoc (L : List (List Int)) (l : List Int) : lcs L ++ [.imm (ics l) l.length false] = lcs (L ++ [l]) := by simp [lcs]
theorem lcs_takeA (L : List (List Int)) : (lcs L).take L.length = lcs L := List.take_of_length_le (by rw [lcs_length]; exact Nat.le_refl _)
theorem room39 {n : Nat} (h : n ≤ 1000000) : roomOk E.T 22 n = true := by
  simp only [roomOk, T_22, decide_eq_true_eq]; exact ⟨by decide, rfl, by omega⟩
theorem ohl_pos {k : Nat} {L : List (List Int)} (h : 0 < L.length) : oH k (lcs L) = [(k, ⟨.row, lcs L⟩)] := oH_ne k (by rw [lcs_length]; exact h)
/-- A list of rows as it is handed over. -/
def LV (L : List (List Int)) (a : AV) : Prop := (L = [] ∧ a = .nilsl) ∨ ∃ ex, a = .imm (lcs L) L.length ex
theorem clone_run {C : Callee} {l : List Int} {n : Nat} {ex : Bool} (hl : l.length = n) (h0 : 0 < n) (h9 : n ≤ 1000) : ∃ H, bodyA E C fg 1000000 66 [.imm (ics l) n ex] [] 0 = some (.ref 5 0 n n n 1 false, H) ∧ hget H 5 = some ⟨.row, ics l⟩ := by
  have hlen : (ics l).length = n := by rw [ics_length, hl]
  have htk : List.take n (ics l) = ics l := List.take_of_length_le (by omega)
  have hn0 : ¬ n = 0 := by omega
  have hn1 : ¬ n ≤ 0 := by omega
  simp (disch := omega) only [ZF, frame0, stp, just, Rd.bind, Rd.run, upds, zeroCells, tsz, elemT, resA, resL, fresh, aBuiltin, aBin, Nat.reduceAdd, Nat.reduceLT, Nat.reduceBEq, Nat.reduceEqDiff, Nat.reduceLeDiff, ↓reduceIte, reduceCtorEq, aBuildSlice, aBuildAt, partsOf, fillA, repC, isSliceT, aAppend, srcOf, window, snaps, ZT, F_66, aNil, srcOf, hlen, hn0, hn1, room22 (show n ≤ 1000000 by omega)]
  exact ⟨_, rfl, rfl⟩
theorem clone_call {d : Nat} {site : Nat → Nat} {seen : List Nat} {l : List Int} {n : Nat} {ex : Bool} (hl : l.length = n) (h0 : 0 < n) (h9 : n ≤ 1000) : aBack site true seen (thaw (kF (d + 1)) 66 [.imm (ics l) n ex] [] 0) =
    back1 (site 0) seen (fun k => .ref k 0 n n n 1 false) ⟨.row, ics l⟩ := by
  obtain ⟨H, h1, h2⟩ := clone_run (C := kF d) (ex := ex) hl h0 h9
  exact aBack_refc (by rw [kF_no rfl]; exact h1) h2 (by rw [ics_length, hl])
/-- A closure that tells whether a row is like another one. -/
structure PrC (C : Callee) (f : Nat) (c : AV) (p : List Int → Bool) (L : List (List Int)) : Prop where
  fi : ∃ x, fInfo E f = some x
  mt : ∀ caps args, mutV E (.clo f caps) args = none
  run : ∀ l ∈ L, ∀ (site : Nat → Nat) seen, aBack site true seen (thaw C f [.imm (ics l) l.length false, .iptr [c] 0] [] 0) = .pure (.bool (p l), [])
abbrev ixS (a : AV) (n f : Nat) (c : AV) (i : Nat) : St := ([(8, .int .i64 i), (7, .int .i64 n), (1, .clo f [.iptr [c] 0]), (0, a)], [])
def ixL (p : List Int → Bool) (L : List (List Int)) : Int := if L.findIdx p < L.length then (L.findIdx p : Int) else -1
theorem ix_run {C : Callee} {f : Nat} {c a : AV} {p : List Int → Bool} {L : List (List Int)} (hC : PrC C f c p L) (ha : LV L a) (hl : L.length ≤ 900000) :
    rsOf (bodyA E C fg 1000000 64 [a, .clo f [.iptr [c] 0]] [] 0) = some (.int .i64 (ixL p L)) := by
  obtain ⟨⟨fi, hfi⟩, hm, hr⟩ := hC
  rcases ha with ⟨rfl, rfl⟩ | ⟨ex, rfl⟩
  · have hloop := loopM0 (f := (execA E C (fg 64) 0 19 [] 1000000 c64_7)) (E0 := []) (s0 := ixS .nilsl 0 f c 0) rfl (e := .exit 0) (se := ([(9, .bool false), (8, .int .i64 0), (7, .int .i64 0), (1, .clo f [.iptr [c] 0]), (0, .nilsl)], []))
      (by simp (disch := omega) only [ZF, stp, just, Rd.bind, Rd.run, Rd.opt, upds, aBin, aInt, Nat.reduceEqDiff, Nat.reduceLeDiff, ↓reduceIte, F_64, ixS, cl0]) (by simp)
    simp only [ixS, cl0] at hloop
    have e : ixL p [] = -1 := rfl
    rw [e]
    simp (disch := omega) only [ZF, frame0, stp, just, Rd.bind, Rd.run, upds, resA, resL, aLen, aBuiltin, Nat.reduceBEq, Nat.reduceEqDiff, Nat.reduceLeDiff, Int.reduceNeg, ↓reduceIte, reduceCtorEq, ZT, F_64, hloop]
  · have hlen := lcs_length L
    have hgo : ∀ i, i < L.length → L.findIdx p > i → ∃ s', (execA E C (fg 64) 0 19 [] 1000000 c64_7) (ixS (.imm (lcs L) L.length ex) L.length f c i) = some (.normal, s') ∧ headA [] s' = ixS (.imm (lcs L) L.length ex) L.length f c (i + 1) := by
      intro i hi hp
      have hk : L[i]? = some L[i] := List.getElem?_eq_getElem hi
      have hat := lcs_at hk
      have hrr := hr L[i] (List.getElem_mem hi)
      have hno := List.not_of_lt_findIdx hp
      rw [show p L[i] = false by simpa using hno] at hrr
      have g1 : (i : Int) < L.length := by omega
      simp (disch := omega) only [ZF, stp, just, Rd.bind, Rd.run, Rd.opt, upds, tsz, rdCells, aLoad, aIndexAddr, aNum, aBin, aInt, Nat.reduceMul, Nat.reduceLT, Nat.reduceBEq, Nat.reduceEqDiff, Nat.reduceLeDiff, ↓reduceIte, reduceCtorEq, aCall, snaps, opCallV, ZT, F_64, ixS, g1, hat, hlen, callV_eq (hm _ _), hfi, hrr, wrp_succ (show i < 1000000 by omega)]
      exact ⟨_, rfl, rfl⟩
    unfold ixL
    by_cases hlt : L.findIdx p < L.length
    · rw [if_pos hlt]
      have hk : L[L.findIdx p]? = some L[L.findIdx p] := List.getElem?_eq_getElem hlt
      have hat := lcs_at hk
      have hrr := hr _ (List.getElem_mem hlt)
      rw [List.findIdx_getElem (w := hlt)] at hrr
      have hloop := loopM (f := (execA E C (fg 64) 0 19 [] 1000000 c64_7)) (E0 := []) (ixS (.imm (lcs L) L.length ex) L.length f c) (L.findIdx p) (fun i hi => hgo i (by omega) hi) rfl (by omega) (e := .ret) (se := ([(4, .int .i64 (L.findIdx p : Nat))], []))
        (by
          generalize L.findIdx p = m at *
          have g1 : (m : Int) < L.length := by omega
          simp (disch := omega) only [ZF, stp, just, Rd.bind, Rd.run, Rd.opt, upds, tsz, rdCells, aLoad, aIndexAddr, aNum, aBin, aInt, Nat.reduceMul, Nat.reduceLT, Nat.reduceBEq, Nat.reduceEqDiff, Nat.reduceLeDiff, ↓reduceIte, reduceCtorEq, aCall, snaps, opCallV, ZT, F_64, ixS, g1, hat, hlen, callV_eq (hm _ _), hfi, hrr]) (by simp)
      simp only [ixS, cl0] at hloop
      simp (disch := omega) only [ZF, frame0, stp, just, Rd.bind, Rd.run, upds, resA, resL, aLen, aBuiltin, Nat.reduceBEq, Nat.reduceEqDiff, Nat.reduceLeDiff, ↓reduceIte, reduceCtorEq, ZT, F_64, hloop]
    · rw [if_neg hlt]
      have hle := List.findIdx_le_length (xs := L) (p := p)
      have hloop := loopM (f := (execA E C (fg 64) 0 19 [] 1000000 c64_7)) (E0 := []) (ixS (.imm (lcs L) L.length ex) L.length f c) L.length (fun i hi => hgo i hi (by omega)) rfl (by omega) (e := .exit 0) (se := ([(9, .bool false), (8, .int .i64 L.length), (7, .int .i64 L.length), (1, .clo f [.iptr [c] 0]), (0, .imm (lcs L) L.length ex)], []))
        (by simp (disch := omega) only [ZF, stp, just, Rd.bind, Rd.run, Rd.opt, upds, aBin, aInt, Nat.reduceEqDiff, Nat.reduceLeDiff, ↓reduceIte, F_64, ixS]) (by simp)
      simp only [ixS, cl0] at hloop
      simp (disch := omega) only [ZF, frame0, stp, just, Rd.bind, Rd.run, upds, resA, resL, aLen, aBuiltin, Nat.reduceBEq, Nat.reduceEqDiff, Nat.reduceLeDiff, Int.reduceNeg, ↓reduceIte, reduceCtorEq, ZT, F_64, hloop]
theorem ix_call {d : Nat} {f : Nat} {c a : AV} {p : List Int → Bool} {L : List (List Int)} (hC : PrC (kF d) f c p L) (ha : LV L a) (hl : L.length ≤ 900000) {site : Nat → Nat} {seen : List Nat} :
    aBack site true seen (thaw (kF (d + 1)) 64 [a, .clo f [.iptr [c] 0]] [] 0) = .pure (.int .i64 (ixL p L), []) :=
  aBack_int (kF_ex rfl (ix_run hC ha hl))
theorem ixL_any (p : List Int → Bool) (L : List (List Int)) : decide (ixL p L ≥ 0) = L.any p := by
  unfold ixL
  by_cases h : L.findIdx p < L.length
  · rw [if_pos h, decide_eq_true (by omega)]
    rw [eq_comm, List.any_eq_true]
    exact List.findIdx_lt_length.1 h
  · rw [if_neg h, decide_eq_false (by omega), eq_comm, List.any_eq_false]
    intro x hx hp
    exact h (List.findIdx_lt_length.2 ⟨x, hx, hp⟩)
theorem con_run {d : Nat} {f : Nat} {c a : AV} {p : List Int → Bool} {L : List (List Int)} (hC : PrC (kF d) f c p L) (ha : LV L a) (hl : L.length ≤ 900000) (_ : ∀ e, snap (e + 8) c = .pure (c, [])) :
    rsOf (bodyA E (kF (d + 1)) fg 1000000 73 [a, .clo f [.iptr [c] 0]] [] 0) = some (.bool (L.any p)) := by
  have hi := fun (site : Nat → Nat) seen => ix_call (site := site) (seen := seen) hC ha hl
  have sn : ∀ e, snap (e + 1) a = .pure (a, []) := by intro e; rcases ha with ⟨_, rfl⟩ | ⟨_, rfl⟩ <;> rfl
  generalize kF (d + 1) = C at *
  rw [← ixL_any]
  generalize ixL p L = z at *
  simp (disch := omega) only [ZF, frame0, stp, just, Rd.bind, Rd.run, Rd.opt, upds, resA, resL, aBin, aInt, Nat.reduceBEq, Nat.reduceEqDiff, Nat.reduceLeDiff, ↓reduceIte, reduceCtorEq, aCall, snaps, F_73, hi, sn]
theorem con_call {d : Nat} {f : Nat} {c a : AV} {p : List Int → Bool} {L : List (List Int)} (hC : PrC (kF d) f c p L) (ha : LV L a) (hl : L.length ≤ 900000) (hs : ∀ e, snap (e + 8) c = .pure (c, [])) {site : Nat → Nat} {seen : List Nat} :
    aBack site true seen (thaw (kF (d + 2)) 73 [a, .clo f [.iptr [c] 0]] [] 0) = .pure (.bool (L.any p), []) :=
  aBack_bool (kF_ex rfl (con_run hC ha hl hs))
end Go.AM.Ytfmnoohhhokicaa
end

section
namespace Go.AM.Rub
set_option maxRecDepth 100000
theorem cnt_mv {l : List Int} {i j : Nat} (hij : i ≠ j) (hi : i < l.length) (hj : j < l.length) (b : Int) :
    (mvL l i j).count b = l.count b - (if rowF l i == b then 1 else 0) + (if rowF l i - 1 == b then 1 else 0) - (if rowF l j == b then 1 else 0) + (if rowF l j + 1 == b then 1 else 0) := by
  unfold mvL
  have e1 : rowF l i = l[i] := by simp [rowF, hi]
  have e2 : rowF l j = l[j] := by simp [rowF, hj]
  rw [List.count_set (h := by rw [List.length_set]; exact hj), List.count_set (h := hi), List.getElem_set_ne hij, e1, e2]
theorem perm_mv {l : List Int} {i j i' j' : Nat} (hij : i ≠ j) (hij' : i' ≠ j') (hi : i < l.length) (hj : j < l.length) (hi' : i' < l.length) (hj' : j' < l.length) (e1 : rowF l i = rowF l i') (e2 : rowF l j = rowF l j') : (mvL l i j).Perm (mvL l i' j') := by
  rw [List.perm_iff_count]
  intro b
  rw [cnt_mv hij hi hj, cnt_mv hij' hi' hj', e1, e2]
/-- A rubbing and sorting, or a rubbing at the right places: it is the same. -/
theorem srt_rub {n : Nat} {l : List Int} (h : Rw n l) {i j : Nat} (r : Rb n l i j) : srtI (mvL l i j) = rubL l i j := by
  have hl := h.len
  have hij := r.lt
  have hj := r.lj
  obtain ⟨re, _⟩ := rub_ends h r
  have a1 := re.lt
  have a2 := re.lj
  have hd := row_desc h.row
  rw [h.len] at hd
  obtain ⟨p, q⟩ := srtI_spec (l := mvL l i j) (by rw [mvL_length]; omega)
  have s1 := (lastEq_spec (l := l) (by rw [hl]; exact hd) l.length i (by omega) (by omega)).2.2.1
  have s2 := (firstEq_spec (l := l) (by rw [hl]; exact hd) j (by omega)).2.1
  have hr := (rub_row h r).1
  refine desc_unique q (row_descP hr.row) (p.trans ?_)
  exact perm_mv (by omega) (by omega) (by omega) (by omega) (by omega) (by omega) s1.symm s2.symm
/-- One row more, if it is not there. -/
def ad (out : List (List Int)) (l : List Int) : List (List Int) := if l ∈ out then out else out ++ [l]
/-- Of stone i the first stones j; of the first stones all. -/
def rbI (row : List Int) (i : Nat) (out : List (List Int)) : Nat → List (List Int)
  | 0 => out
  | j + 1 => if rowF row i - rowF row j ≥ 2 then ad (rbI row i out j) (rubL row i j) else rbI row i out j
def rbO (row : List Int) (n : Nat) : Nat → List (List Int)
  | 0 => []
  | i + 1 => rbI row i (rbO row n i) n
theorem ad_mem (out : List (List Int)) (l y : List Int) : y ∈ ad out l ↔ y ∈ out ∨ y = l := by
  unfold ad
  split
  · rename_i h
    exact ⟨.inl, fun hh => hh.elim id fun e => e ▸ h⟩
  · simp
theorem ad_len (out : List (List Int)) (l : List Int) : (ad out l).length ≤ out.length + 1 := by
  unfold ad; split <;> simp
theorem rbI_mem (row : List Int) (i : Nat) (out : List (List Int)) (y : List Int) : ∀ m, y ∈ rbI row i out m ↔ y ∈ out ∨ ∃ j, j < m ∧ rowF row i - rowF row j ≥ 2 ∧ y = rubL row i j
  | 0 => by simp [rbI]
  | m + 1 => by
    simp only [rbI]
    have ih := rbI_mem row i out y m
    split
    · rename_i h
      rw [ad_mem, ih]
      constructor
      · rintro ((h1 | ⟨j, h1, h2⟩) | e)
        · exact .inl h1
        · exact .inr ⟨j, by omega, h2⟩
        · exact .inr ⟨m, by omega, h, e⟩
      · rintro (h1 | ⟨j, h1, h2⟩)
        · exact .inl (.inl h1)
        · by_cases hj : j = m
          · subst hj; exact .inr h2.2
          · exact .inl (.inr ⟨j, by omega, h2⟩)
    · rename_i h
      rw [ih]
      constructor
      · rintro (h1 | ⟨j, h1, h2⟩)
        · exact .inl h1
        · exact .inr ⟨j, by omega, h2⟩
      · rintro (h1 | ⟨j, h1, h2⟩)
        · exact .inl h1
        · refine .inr ⟨j, ?_, h2⟩
          by_cases hj : j = m
          · subst hj; exact absurd h2.1 h
          · omega
theorem rbI_len (row : List Int) (i : Nat) (out : List (List Int)) : ∀ m, (rbI row i out m).length ≤ out.length + m
  | 0 => by simp [rbI]
  | m + 1 => by
    have := rbI_len row i out m
    simp only [rbI]
    split
    · have := ad_len (rbI row i out m) (rubL row i m); omega
    · omega
theorem rbO_len (row : List Int) (n : Nat) : ∀ i, (rbO row n i).length ≤ i * n
  | 0 => by simp [rbO]
  | i + 1 => by
    have := rbO_len row n i
    have := rbI_len row i (rbO row n i) n
    simp only [rbO]
    rw [Nat.succ_mul]; omega
theorem rbO_mem (row : List Int) (n : Nat) (y : List Int) : ∀ i, y ∈ rbO row n i ↔ ∃ k j, k < i ∧ j < n ∧ rowF row k - rowF row j ≥ 2 ∧ y = rubL row k j
  | 0 => by simp [rbO]
  | i + 1 => by
    simp only [rbO]
    rw [rbI_mem, rbO_mem row n y i]
    constructor
    · rintro (⟨k, j, h1, h2⟩ | ⟨j, h1, h2⟩)
      · exact ⟨k, j, by omega, h2⟩
      · exact ⟨i, j, by omega, h1, h2⟩
    · rintro ⟨k, j, h1, h2⟩
      by_cases hk : k = i
      · subst hk; exact .inr ⟨j, h2⟩
      · exact .inl ⟨k, j, by omega, h2⟩
/-- All rows to which one rubbing leads. -/
def rbL (row : List Int) : List (List Int) := rbO row row.length row.length
theorem rb_of {n : Nat} {l : List Int} (h : Rw n l) {i j : Nat} (hi : i < n) (hj : j < n) (hd : rowF l i - rowF l j ≥ 2) : Rb n l i j := by
  refine ⟨?_, hj, hd⟩
  rcases Nat.lt_or_ge i j with h1 | h1
  · exact h1
  · have hdd := row_desc h.row
    rw [h.len] at hdd
    have := desc_ij hdd h1 hi
    omega
theorem rbL_mem {n : Nat} {l : List Int} (h : Rw n l) (y : List Int) : y ∈ rbL l ↔ ∃ i j, Rb n l i j ∧ y = rubL l i j := by
  unfold rbL
  rw [rbO_mem, h.len]
  constructor
  · rintro ⟨k, j, h1, h2, h3, h4⟩
    exact ⟨k, j, rb_of h h1 h2 h3, h4⟩
  · rintro ⟨k, j, r, e⟩
    have := r.lt
    have := r.lj
    exact ⟨k, j, by omega, r.lj, r.df, e⟩
theorem rbL_row {n : Nat} {l y : List Int} (h : Rw n l) (hy : y ∈ rbL l) : Rw n y := by
  obtain ⟨i, j, r, rfl⟩ := (rbL_mem h y).1 hy
  exact (rub_row h r).1
theorem rbO_row {n : Nat} {l y : List Int} (h : Rw n l) {i : Nat} (hi : i ≤ n) (hy : y ∈ rbO l n i) : Rw n y := by
  obtain ⟨k, j, h1, h2, h3, rfl⟩ := (rbO_mem l n y i).1 hy
  exact (rub_row h (rb_of h (by omega) h2 h3)).1
theorem rbI_row {n : Nat} {l y : List Int} (h : Rw n l) {i m : Nat} (hi : i < n) (hm : m ≤ n) (hy : y ∈ rbI l i (rbO l n i) m) : Rw n y := by
  rcases (rbI_mem l i (rbO l n i) y m).1 hy with h1 | ⟨j, h1, h2, rfl⟩
  · exact rbO_row h (by omega) h1
  · exact (rub_row h (rb_of h hi (by omega) h2)).1
end Go.AM.Rub
end

section
namespace Go.AM.Ytfmnoohhhokicaa
open Go Go.AM Go.AM.Rub
set_option maxRecDepth 100000
set_option maxHeartbeats 8000000
theorem pr1_run {d : Nat} {l m : List Int} {x : Bool} (hl : l.length ≤ 1000) : rsOf (bodyA E (kF (d + 1)) fg 1000000 120 [.imm (ics l) l.length x, .iptr [.imm (ics m) m.length false] 0] [] 0) = some (.bool (decide (l = m))) := by
  have hs := fun (site : Nat → Nat) seen => same_call (d := d) (site := site) (seen := seen) (iv_imm l x) (iv_imm m false) hl
  generalize kF (d + 1) = C at *
  simp (disch := omega) only [ZF, frame0, stp, just, Rd.bind, Rd.run, Rd.opt, upds, rdCells, aLoad, resA, resL, Nat.reduceBEq, Nat.reduceEqDiff, Nat.reduceLeDiff, ↓reduceIte, reduceCtorEq, aCall, snaps, ZT, F_120, hs]
theorem pr1 (d : Nat) (m : List Int) {L : List (List Int)} (hL : ∀ l ∈ L, l.length ≤ 1000) : PrC (kF (d + 2)) 120 (.imm (ics m) m.length false) (fun l => decide (l = m)) L :=
  ⟨⟨_, fi_120⟩, fun _ _ => rfl, fun l hl _ _ => aBack_bool (kF_ex rfl (pr1_run (hL l hl)))⟩
theorem any_eq (m : List Int) (L : List (List Int)) : L.any (fun l => decide (l = m)) = decide (m ∈ L) := by
  rw [Bool.eq_iff_iff, List.any_eq_true, decide_eq_true_eq]
  constructor
  · rintro ⟨x, hx, e⟩; rw [← of_decide_eq_true e]; exact hx
  · intro h; exact ⟨m, h, decide_eq_true rfl⟩
theorem con1 {d : Nat} {m : List Int} {a : AV} {L : List (List Int)} (ha : LV L a) (hL : ∀ l ∈ L, l.length ≤ 1000) (hl : L.length ≤ 900000) {site : Nat → Nat} {seen : List Nat} :
    aBack site true seen (thaw (kF (d + 4)) 73 [a, .clo 120 [.iptr [.imm (ics m) m.length false] 0]] [] 0) = .pure (.bool (decide (m ∈ L)), []) := by
  have := con_call (site := site) (seen := seen) (pr1 d m hL) ha hl (fun _ => rfl)
  rw [any_eq] at this
  exact this
noncomputable abbrev rbS (row : List Int) (n : Nat) (x : Bool) (i : Nat) (out : List (List Int)) (j : Nat) : St :=
  ([(14, .int .i64 j), (13, .int .i64 n), (9, .int .i64 i), (8, .int .i64 n), (4, .int .i64 i), (3, oV 50 1 out.length), (0, .imm (ics row) n x)], oH 50 (lcs out))
/-- What a round needs of the calls. -/
structure RbC (C : Callee) (row : List Int) (n : Nat) : Prop where
  cl : ∀ (site : Nat → Nat) seen x, aBack site true seen (thaw C 66 [.imm (ics row) n x] [] 0) = back1 (site 0) seen (fun k => .ref k 0 n n n 1 false) ⟨.row, ics row⟩
  so : ∀ (H : AHeap) B k l, l.length = n → BdI l → hget H k = some ⟨.row, ics l⟩ → C 67 [.ref k 0 n n n 1 false] H B = some (.tup [], hset H k ⟨.row, ics (srtI l)⟩)
  co : ∀ (site : Nat → Nat) seen m a L, LV L a → (∀ l ∈ L, l.length ≤ 1000) → L.length ≤ 900000 → m.length = n → aBack site true seen (thaw C 73 [a, .clo 120 [.iptr [.imm (ics m) n false] 0]] [] 0) = .pure (.bool (decide (m ∈ L)), [])
theorem rbC (d : Nat) {row : List Int} {n : Nat} (hl : row.length = n) (h0 : 0 < n) (h6 : n ≤ 6) : RbC (kF (d + 6)) row n :=
  ⟨fun _ _ _ => clone_call hl h0 (by omega), fun H B k l h1 h2 h3 => sorted_call h1 h0 h6 h2 h3, fun site seen m a L h1 h2 h3 h4 => by subst h4; exact con1 (d := d + 2) h1 h2 h3⟩
theorem rb_go {C : Callee} {row : List Int} {n : Nat} {x : Bool} (hC : RbC C row n) (h : Rw n row) (h6 : n ≤ 6) {i : Nat} (hi : i < n) {out : List (List Int)} (ho : out.length ≤ 100) (hol : ∀ l ∈ out, l.length ≤ 1000) (j : Nat) (hj : j < n) :
    ∃ s', (execA E C (fg 106) 0 54 [] 1000000 c106_23) (rbS row n x i out j) = some (.normal, s') ∧ headA [] s' = rbS row n x i (if rowF row i - rowF row j ≥ 2 then ad out (rubL row i j) else out) (j + 1) := by
  have hl := h.len
  have hlen : (ics row).length = n := by rw [ics_length, hl]
  have a1 := icr_at (l := row) (k := i) (by omega)
  have a2 := icr_at (l := row) (k := j) (by omega)
  have b1 := rw_b h hi
  have b2 := rw_b h hj
  have g1 : (i : Int) < n := by omega
  have g2 : (j : Int) < n := by omega
  have w : wrp .i64 (rowF row i - rowF row j) = rowF row i - rowF row j := wrp64 (by omega)
  by_cases hd : rowF row i - rowF row j ≥ 2
  · rw [if_pos hd]
    have r := rb_of h hi hj hd
    have hij := r.lt
    have hno : ¬ rowF row i - rowF row j < 2 := by omega
    have hcl := hC.cl
    have w1 : wrp .i64 (rowF row i - 1) = rowF row i - 1 := wrp64 (by omega)
    have w2 : wrp .i64 (rowF row j + 1) = rowF row j + 1 := wrp64 (by omega)
    have e1 := ics_set row i (rowF row i - 1)
    have l1 : (ics (row.set i (rowF row i - 1))).length = n := by rw [ics_length, List.length_set, hl]
    have a3 : (ics (row.set i (rowF row i - 1)))[j]? = some (.int .i64 (rowF row j)) := by
      refine ics_at ?_
      rw [List.getElem?_set_ne (by omega)]
      exact rowF_at (by omega)
    have e2 := ics_set (row.set i (rowF row i - 1)) j (rowF row j + 1)
    have e3 : (row.set i (rowF row i - 1)).set j (rowF row j + 1) = mvL row i j := rfl
    rw [e3] at e2
    have l2 : (ics (mvL row i j)).length = n := by rw [ics_length, mvL_length, hl]
    have hso := fun (H : AHeap) B k => hC.so H B k (mvL row i j) (by rw [mvL_length, hl]) (fun k hk => by
      rw [mvL_length, hl] at hk
      rw [rowF_mv hij (by omega)]
      have := rw_b h hk
      unfold mvF
      split
      · omega
      · split <;> omega)
    rw [srt_rub h r] at hso
    have hrl : (rubL row i j).length = n := by show (mvL row _ _).length = n; rw [mvL_length, hl]
    have l3 : (ics (rubL row i j)).length = n := by rw [ics_length, hrl]
    have t3 : List.take n (ics (rubL row i j)) = ics (rubL row i j) := List.take_of_length_le (by omega)
    have hsn := lcs_snoc out (rubL row i j)
    rw [hrl] at hsn
    have hco := fun (site : Nat → Nat) seen a ha => hC.co site seen (rubL row i j) a out ha hol (by omega) hrl
    have hlo := lcs_length out
    have hto := lcs_takeA out
    have had : ad out (rubL row i j) = if rubL row i j ∈ out then out else out ++ [rubL row i j] := rfl
    rw [had]
    generalize rubL row i j = R at *
    generalize ics R = RI at *
    generalize ics (mvL row i j) = M2 at *
    generalize ics (row.set i (rowF row i - 1)) = M1 at *
    simp only [rbS]
    cases hn : out with
    | nil =>
      subst hn
      have hco := fun (site : Nat → Nat) seen => hco site seen .nilsl (.inl ⟨rfl, rfl⟩)
      have hm : ¬ R ∈ ([] : List (List Int)) := by simp
      rw [decide_eq_false hm] at hco
      rw [if_neg hm]
      have oh0 : oH 50 (lcs []) = [] := rfl
      rw [List.nil_append] at hsn ⊢
      have hln : lcs [] = [] := rfl
      rw [hln, List.nil_append] at hsn
      rw [ohl_pos (L := [R]) (by simp), ← hsn, oh0, List.length_nil, ov_zero, List.length_singleton, ov_pos (show 0 < 1 by omega)]
      have h1 := hso [(6, ⟨.box, [.ref 28 0 n n n 1 false]⟩), (28, ⟨.row, M2⟩)] 432 28 rfl
      simp only [hset_cons', hset_nil', Nat.reduceEqDiff, if_true, if_false, Nat.reduceLeDiff] at h1
      simp (disch := omega) only [ZF, stp, opBox, justO, just, Rd.bind, Rd.run, Rd.opt, upds, acells, zeroCells, tsz, elemT, rdCells, aLoad, aStore, opStore, fresh, aIndexAddr, aNum, aBuiltin, aBin, aInt, putC, evO, Nat.reduceAdd, Nat.reduceMul, Nat.reduceLT, Nat.reduceBEq, Nat.reduceEqDiff, Nat.reduceLeDiff, ↓reduceIte, reduceCtorEq, stpT, Rd.foot, writing, touching, Tr.empty, dynPairs, aBuildSlice, aBuildAt, partsOf, fillA, repC, isSliceT, aAppend, srcOf, window, aUn, mutX, aCall, snaps, ZT, F_106, hlen, a1, a2, a3, g1, g2, w, w1, w2, hno, hcl, e1, e2, l1, l3, t3, h1, hco, if_pos, room39 (show 1 ≤ 1000000 by omega), wrp_succ (show j < 1000000 by omega)]
      exact ⟨_, rfl, rfl⟩
    | cons y ys =>
      rw [← hn]
      have h0 : 0 < out.length := by rw [hn]; simp
      have hco := fun (site : Nat → Nat) seen ex => hco site seen (.imm (lcs out) out.length ex) (.inr ⟨ex, rfl⟩)
      rw [ov_pos h0, ohl_pos h0]
      have h1 := hso [(6, ⟨.box, [.ref 28 0 n n n 1 false]⟩), (28, ⟨.row, M2⟩), (50, ⟨.row, lcs out⟩)] 432 28 rfl
      simp only [hset_cons', hset_nil', Nat.reduceEqDiff, if_true, if_false, Nat.reduceLeDiff] at h1
      by_cases hm : R ∈ out
      · rw [decide_eq_true hm] at hco
        rw [if_pos hm, ov_pos h0, ohl_pos h0]
        generalize lcs out = LO at *
        generalize out.length = m at *
        simp (disch := omega) only [ZF, stp, opBox, justO, just, Rd.bind, Rd.run, Rd.opt, upds, acells, zeroCells, tsz, elemT, rdCells, aLoad, aStore, opStore, fresh, aIndexAddr, aNum, aBuiltin, aBin, aInt, putC, evO, Nat.reduceAdd, Nat.reduceMul, Nat.reduceLT, Nat.reduceBEq, Nat.reduceEqDiff, Nat.reduceLeDiff, ↓reduceIte, reduceCtorEq, stpT, Rd.foot, writing, touching, Tr.empty, dynPairs, aBuildSlice, aBuildAt, partsOf, fillA, repC, isSliceT, aAppend, srcOf, window, aUn, mutX, aCall, snaps, ZT, F_106, hlen, a1, a2, a3, g1, g2, w, w1, w2, hno, hcl, e1, e2, l1, l3, t3, h1, hco, hlo, hto, if_pos, wrp_succ (show j < 1000000 by omega)]
        exact ⟨_, rfl, rfl⟩
      · rw [decide_eq_false hm] at hco
        rw [if_neg hm, List.length_append, List.length_singleton, ov_pos (show 0 < out.length + 1 by omega), ohl_pos (L := out ++ [R]) (by simp), ← hsn]
        have hno2 : ¬ out.length + 1 ≤ out.length := by omega
        generalize lcs out = LO at *
        generalize out.length = m at *
        simp (disch := omega) only [ZF, stp, opBox, justO, just, Rd.bind, Rd.run, Rd.opt, upds, acells, zeroCells, tsz, elemT, rdCells, aLoad, aStore, opStore, fresh, aIndexAddr, aNum, aBuiltin, aBin, aInt, putC, evO, Nat.reduceAdd, Nat.reduceMul, Nat.reduceLT, Nat.reduceBEq, Nat.reduceEqDiff, Nat.reduceLeDiff, ↓reduceIte, reduceCtorEq, stpT, Rd.foot, writing, touching, Tr.empty, dynPairs, aBuildSlice, aBuildAt, partsOf, fillA, repC, isSliceT, aAppend, srcOf, window, aUn, mutX, aCall, snaps, ZT, F_106, hlen, a1, a2, a3, g1, g2, w, w1, w2, hno, hno2, hcl, e1, e2, l1, l3, t3, h1, hco, hlo, hto, if_pos, room39 (show m + 1 ≤ 1000000 by omega), wrp_succ (show j < 1000000 by omega)]
        exact ⟨_, rfl, rfl⟩
  · rw [if_neg hd]
    have hlt : rowF row i - rowF row j < 2 := by omega
    simp only [rbS]
    cases hn : out with
    | nil =>
      have oh0 : oH 50 (lcs []) = [] := rfl
      rw [oh0, List.length_nil, ov_zero]
      simp (disch := omega) only [ZF, stp, just, Rd.bind, Rd.run, Rd.opt, upds, tsz, rdCells, aLoad, aIndexAddr, aNum, aBin, aInt, Nat.reduceAdd, Nat.reduceLT, Nat.reduceBEq, Nat.reduceEqDiff, Nat.reduceLeDiff, ↓reduceIte, reduceCtorEq, stpT, Rd.foot, writing, touching, Tr.empty, dynPairs, ZT, F_106, hlen, a1, a2, g1, g2, w, hlt, wrp_succ (show j < 1000000 by omega)]
      exact ⟨_, rfl, rfl⟩
    | cons y ys =>
      rw [← hn]
      have h0 : 0 < out.length := by rw [hn]; simp
      rw [ov_pos h0, ohl_pos h0]
      generalize lcs out = LO at *
      generalize out.length = m at *
      simp (disch := omega) only [ZF, stp, just, Rd.bind, Rd.run, Rd.opt, upds, tsz, rdCells, aLoad, aIndexAddr, aNum, aBin, aInt, Nat.reduceAdd, Nat.reduceLT, Nat.reduceBEq, Nat.reduceEqDiff, Nat.reduceLeDiff, ↓reduceIte, reduceCtorEq, stpT, Rd.foot, writing, touching, Tr.empty, dynPairs, ZT, F_106, hlen, a1, a2, g1, g2, w, hlt, wrp_succ (show j < 1000000 by omega)]
      exact ⟨_, rfl, rfl⟩
end Go.AM.Ytfmnoohhhokicaa
end

section
namespace Go.AM.Rub
set_option maxRecDepth 100000
theorem ps_map_mv (g : Int → Int) {a : Nat → Int} {i j : Nat} (hij : i < j) : ∀ n, ps (fun k => g (mvF a i j k)) n = ps (fun k => g (a k)) n + (if i < n then g (a i - 1) - g (a i) else 0) + (if j < n then g (a j + 1) - g (a j) else 0)
  | 0 => by simp [ps]
  | n + 1 => by
    simp only [ps, ps_map_mv g hij n]
    have e : mvF a i j n = (if n = i then a n - 1 else if n = j then a n + 1 else a n) := rfl
    rw [e]
    by_cases h1 : n = i
    · subst h1
      simp only [if_true, if_pos (Nat.lt_succ_self n), if_neg (Nat.lt_irrefl n), if_neg (show ¬ j < n by omega), if_neg (show ¬ j < n + 1 by omega)]; omega
    · by_cases h2 : n = j
      · subst h2
        simp only [if_neg h1, if_true, if_pos (show i < n by omega), if_pos (show i < n + 1 by omega), if_neg (Nat.lt_irrefl n), if_pos (Nat.lt_succ_self n)]; omega
      · have e1 : (i < n + 1) = (i < n) := by apply propext; omega
        have e2 : (j < n + 1) = (j < n) := by apply propext; omega
        simp only [if_neg h1, if_neg h2, e1, e2]; omega
/-- The sum of a function over a row. -/
def sumG (g : Int → Int) : List Int → Int
  | [] => 0
  | x :: l => g x + sumG g l
theorem sumG_ps (g : Int → Int) : ∀ l : List Int, sumG g l = ps (fun k => g (rowF l k)) l.length
  | [] => rfl
  | x :: l => by
    have : ∀ k, ps (fun k => g (rowF (x :: l) k)) (k + 1) = g x + ps (fun k => g (rowF l k)) k := by
      intro k
      induction k with
      | zero => simp [ps, rowF]
      | succ k ih => rw [ps, ih, ps]; simp [rowF]; omega
    rw [sumG, sumG_ps g l, List.length_cons, this]
theorem sumG_mv (g : Int → Int) {n : Nat} {l : List Int} (h : Rw n l) {i j : Nat} (r : Rb n l i j) : sumG g (mvL l i j) = sumG g l + (g (rowF l i - 1) - g (rowF l i)) + (g (rowF l j + 1) - g (rowF l j)) := by
  have hl := h.len
  have hj : j < l.length := by have := r.lj; omega
  rw [sumG_ps, sumG_ps, mvL_length]
  have : ps (fun k => g (rowF (mvL l i j) k)) l.length = ps (fun k => g (mvF (rowF l) i j k)) l.length := ps_congr _ fun k _ => by rw [rowF_mv r.lt hj]
  rw [this, ps_map_mv g r.lt, if_pos (by have := r.lt; omega), if_pos hj]
/-- Convex from 0 to 8. -/
def Conv (g : Int → Int) : Prop := ∀ x y : Int, 0 ≤ y → x ≤ 8 → x - y ≥ 2 → g (x - 1) + g (y + 1) ≤ g x + g y
def SConv (g : Int → Int) : Prop := ∀ x y : Int, 0 ≤ y → x ≤ 8 → x - y ≥ 2 → g (x - 1) + g (y + 1) < g x + g y
theorem conv_le {g : Int → Int} (hg : Conv g) {n : Nat} {b : List Int} (hb : Rw n b) : ∀ (d : Nat) (a : List Int), Rw n a → MajL a b → apL a b = d → sumG g b ≤ sumG g a := by
  intro d
  induction d with
  | zero =>
    intro a ha h hd
    have c := apL_cast a b
    have z := (ap_zero (a := rowF a) (b := rowF b) a.length).1 (by omega)
    rw [row_ext (by rw [ha.len, hb.len]) (eq_of_le z h.eq)]
    exact Int.le_refl _
  | succ d ih =>
    intro a ha h hd
    have hne : a ≠ b := fun e => by
      subst e
      have := (ap_zero (a := rowF a) (b := rowF a) a.length).2 fun k _ => Int.le_refl _
      unfold apL at hd; omega
    obtain ⟨i, j, r, h1, h2, h3, h4⟩ := step_down ha hb h hne
    have := ih _ h1 h2 (by omega)
    have e := sumG_mv g ha r
    have x := isRow_at ha.row i (by have := r.lt; have := r.lj; have := ha.len; omega)
    have y := isRow_at ha.row j (by have := r.lj; have := ha.len; omega)
    have := hg (rowF a i) (rowF a j) y.1 x.2 r.df
    omega
theorem conv_lt {g : Int → Int} (hg : SConv g) {n : Nat} {a b : List Int} (ha : Rw n a) (hb : Rw n b) (h : MajL a b) (hne : a ≠ b) : sumG g b < sumG g a := by
  obtain ⟨i, j, r, h1, h2, h3, h4⟩ := step_down ha hb h hne
  have := conv_le (g := g) (fun x y a b c => by have := hg x y a b c; omega) hb _ _ h1 h2 rfl
  have e := sumG_mv g ha r
  have x := isRow_at ha.row i (by have := r.lt; have := r.lj; have := ha.len; omega)
  have y := isRow_at ha.row j (by have := r.lj; have := ha.len; omega)
  have := hg (rowF a i) (rowF a j) y.1 x.2 r.df
  omega
def pw (x : Int) : Nat → Int
  | 0 => 1
  | k + 1 => pw x k * x
theorem pw_conv {p : Nat} (h2 : 2 ≤ p) (h4 : p ≤ 4) : SConv (fun x => pw x p) := by
  have key : ∀ p ∈ [2, 3, 4], ∀ y ∈ [0, 1, 2, 3, 4, 5, 6, 7, 8], ∀ x ∈ [0, 1, 2, 3, 4, 5, 6, 7, 8], (x : Int) - y ≥ 2 → pw (x - 1) p + pw (y + 1) p < pw x p + pw y p := by decide
  intro x y hy hx hd
  have mem : ∀ z : Int, 0 ≤ z → z ≤ 8 → z ∈ ([0, 1, 2, 3, 4, 5, 6, 7, 8] : List Int) := fun z h1 h2 => by
    have : z = 0 ∨ z = 1 ∨ z = 2 ∨ z = 3 ∨ z = 4 ∨ z = 5 ∨ z = 6 ∨ z = 7 ∨ z = 8 := by omega
    simpa using this
  have hp : p ∈ [2, 3, 4] := by
    have : p = 2 ∨ p = 3 ∨ p = 4 := by omega
    simpa using this
  exact key p hp y (mem y hy (by omega)) x (mem x (by omega) hx) hd
end Go.AM.Rub
end

section
namespace Go.AM.Rub
set_option maxRecDepth 100000
theorem majL_tot {a b : List Int} (hl : a.length = b.length) : MajL a b → totL a = totL b := fun h => by
  have := h.eq
  rw [ps_tot, hl, ps_tot] at this
  exact this
end Go.AM.Rub
end

section
namespace Go.AM.Rub
set_option maxRecDepth 100000
theorem addN_snoc {α : Type} [DecidableEq α] (l : α) : ∀ (ls all : List α), addN all (ls ++ [l]) = if l ∈ addN all ls then addN all ls else addN all ls ++ [l]
  | [], all => by by_cases h : l ∈ all <;> simp [addN, h]
  | x :: ls, all => by
    simp only [List.cons_append, addN]
    split
    · exact addN_snoc l ls all
    · exact addN_snoc l ls _
/-- What was found behind some rounds. -/
def bfR (a : List Int) : Nat → List (List Int)
  | 0 => [a]
  | i + 1 => match (bfR a i)[i]? with
    | some x => addN (bfR a i) (rbL x)
    | none => bfR a i
def DwR (n : Nat) (a : List Int) : List Int → Prop := fun b => Rw n b ∧ MajL a b
theorem lev {n : Nat} {a : List Int} (ha : Rw n a) : Lev (DwR n a) rbL (apL a) a := rub_lev ha rbL fun _ hx y => rbL_mem hx y
theorem bfR_inv {n : Nat} {a : List Int} (ha : Rw n a) : ∀ i, (∀ j, j < i → j < (bfR a j).length) → BInv (DwR n a) rbL (apL a) a (bfR a i) i
  | 0, _ => inv_start (lev ha)
  | i + 1, h => by
    have ih := bfR_inv ha i fun j hj => h j (by omega)
    have hi := h i (by omega)
    have hx : (bfR a i)[i]? = some (bfR a i)[i] := List.getElem?_eq_getElem hi
    simp only [bfR, hx]
    exact (inv_step (lev ha) ih hx).1
theorem dw_sub {n : Nat} {a : List Int} (ha : Rw n a) {L : List (List Int)} (hn : L.Nodup) (hs : ∀ x ∈ L, DwR n a x) : L.length ≤ 9 ^ n := by
  refine Nat.le_trans (nodup_len L (rowsL n (totL a) 8) hn fun x hx => ?_) (rowsL_len n _ 8 (by omega))
  obtain ⟨h1, h2⟩ := hs x hx
  rw [mem_rowsL]
  exact ⟨h1.len, (majL_tot (by rw [ha.len, h1.len]) h2).symm, h1.row⟩
theorem bfR_stop {n : Nat} {a : List Int} (ha : Rw n a) : ∃ N, (∀ j, j < N → j < (bfR a j).length) ∧ (bfR a N).length ≤ N := by
  have key : ∀ m i : Nat, i + m = 9 ^ n + 1 → (∀ j, j < i → j < (bfR a j).length) → ∃ N, (∀ j, j < N → j < (bfR a j).length) ∧ (bfR a N).length ≤ N := by
    intro m
    induction m with
    | zero =>
      intro i hi h
      have inv := bfR_inv ha i h
      have := dw_sub ha inv.nd inv.sub
      have := inv.le
      omega
    | succ m ih =>
      intro i hi h
      by_cases hlt : i < (bfR a i).length
      · exact ih (i + 1) (by omega) fun j hj => if e : j = i then by rw [e]; exact hlt else h j (by omega)
      · exact ⟨i, h, by omega⟩
  exact key (9 ^ n + 1) 0 (by omega) fun j hj => by omega
noncomputable def reN (a : List Int) : Nat := Classical.epsilon fun N : Nat => (∀ j, j < N → j < (bfR a j).length) ∧ (bfR a N).length ≤ N
theorem reN_spec {n : Nat} {a : List Int} (ha : Rw n a) : (∀ j, j < reN a → j < (bfR a j).length) ∧ (bfR a (reN a)).length ≤ reN a := by
  exact Classical.epsilon_spec (bfR_stop ha)
/-- All rows that a row can become. -/
noncomputable def reL (a : List Int) : List (List Int) := bfR a (reN a)
theorem reL_len {n : Nat} {a : List Int} (ha : Rw n a) : (reL a).length = reN a := by
  obtain ⟨h1, h2⟩ := reN_spec ha
  have := (bfR_inv ha _ h1).le
  unfold reL; omega
structure Rch (n : Nat) (a : List Int) (all : List (List Int)) : Prop where
  nd : all.Nodup
  mem : ∀ y, y ∈ all ↔ Rw n y ∧ MajL a y
  hd : all[0]? = some a
  srt : ∀ (k m : Nat) (x y : List Int), k ≤ m → all[k]? = some x → all[m]? = some y → apL a x ≤ apL a y
  len : all.length ≤ 9 ^ n
  pos : 0 < all.length
theorem reL_ok {n : Nat} {a : List Int} (ha : Rw n a) : Rch n a (reL a) := by
  obtain ⟨h1, _⟩ := reN_spec ha
  have inv := bfR_inv ha _ h1
  have hl := reL_len ha
  have inv' : BInv (DwR n a) rbL (apL a) a (reL a) (reL a).length := by rw [hl]; exact inv
  refine ⟨inv.nd, inv_mem (lev ha) inv', inv.hd, inv.srt, dw_sub ha inv.nd inv.sub, ?_⟩
  exact (List.getElem?_eq_some_iff.1 inv.hd).1
/-- A row that is found is one rubbing farther. -/
theorem bfR_far {n : Nat} {a : List Int} (ha : Rw n a) {i : Nat} (h : ∀ j, j < i → j < (bfR a j).length) {x : List Int} (hx : (bfR a i)[i]? = some x) {l : List Int} (hl : l ∈ rbL x) (hno : l ∉ bfR a i) : apL a l = apL a x + 1 := by
  have inv := bfR_inv ha i h
  have hs := (inv_step (lev ha) inv hx).2
  obtain ⟨new, e, _, _, c⟩ := addN_spec (rbL x) (bfR a i)
  have hm := c l hl
  rw [List.mem_append] at hm
  exact hs new e l (hm.resolve_left hno)
theorem ap_le {a b : Nat → Int} : ∀ n, (∀ k, k < n → 0 ≤ b k ∧ 0 ≤ a k ∧ a k ≤ 8) → ap a b n ≤ 8 * n
  | 0, _ => by simp [ap, ps]
  | n + 1, h => by
    have ih := ap_le (a := a) (b := b) n fun k hk => h k (by omega)
    have := h n (by omega)
    unfold ap at ih ⊢
    simp only [ps]
    omega
theorem apL_le {n : Nat} {a b : List Int} (ha : Rw n a) (hb : Rw n b) : apL a b ≤ 8 * n := by
  have c := apL_cast a b
  have h := ap_le (a := rowF a) (b := rowF b) a.length fun k hk => by
    rw [ha.len] at hk
    have h1 := isRow_at ha.row k (by rw [ha.len]; exact hk)
    have h2 := isRow_at hb.row k (by rw [hb.len]; exact hk)
    omega
  rw [ha.len] at h
  rw [ha.len] at c
  omega
end Go.AM.Rub
end

section
namespace Go.AM.Ytfmnoohhhokicaa
open Go Go.AM Go.AM.Rub
set_option maxRecDepth 100000
set_option maxHeartbeats 8000000
noncomputable abbrev rbT (row : List Int) (n : Nat) (x : Bool) (out : List (List Int)) (i : Nat) : St :=
  ([(9, .int .i64 i), (8, .int .i64 n), (3, oV 50 1 out.length), (0, .imm (ics row) n x)], oH 50 (lcs out))
theorem ocvL (k : Nat) (L : List (List Int)) : (L = [] ∧ oV k 1 L.length = .nilsl ∧ oH k (lcs L) = []) ∨ (0 < L.length ∧ oV k 1 L.length = .ref k 0 L.length L.length L.length 1 false ∧ oH k (lcs L) = [(k, ⟨.row, lcs L⟩)]) := by
  cases L with
  | nil => exact .inl ⟨rfl, rfl, rfl⟩
  | cons x L => exact .inr ⟨by simp, ov_pos (by simp), ohl_pos (by simp)⟩
theorem rb_out {C : Callee} {row : List Int} {n : Nat} {x : Bool} (hC : RbC C row n) (h : Rw n row) (h6 : n ≤ 6) (i : Nat) (hi : i < n) :
    ∃ s', (execA E C (fg 106) 0 54 [] 1000000 c106_9) (rbT row n x (rbO row n i) i) = some (.normal, s') ∧ headA [] s' = rbT row n x (rbO row n (i + 1)) (i + 1) := by
  have hl := h.len
  have hlen : (ics row).length = n := by rw [ics_length, hl]
  have b0 := rbO_len row n i
  have hb : ∀ m, m ≤ n → (rbI row i (rbO row n i) m).length ≤ 100 := fun m hm => by
    have := rbI_len row i (rbO row n i) m
    have : i * n ≤ 6 * 6 := Nat.mul_le_mul (by omega) h6
    omega
  have hloop := loopM (f := (execA E C (fg 106) 0 54 [] 1000000 c106_23)) (E0 := []) (fun j => rbS row n x i (rbI row i (rbO row n i) j) j) n (fun j hj => rb_go hC h h6 hi (hb j (by omega)) (fun l hl => by
      have := (rbI_row h hi (by omega) hl).len; omega) j hj) (by
      simp only [rbS, rbI]
      rcases ocvL 50 (rbO row n i) with ⟨_, o1, o2⟩ | ⟨_, o1, o2⟩ <;> rw [o1, o2] <;> rfl) (by omega)
    (e := .exit 2) (se := ([(15, .bool false), (14, .int .i64 n), (13, .int .i64 n), (9, .int .i64 i), (8, .int .i64 n), (4, .int .i64 i), (3, oV 50 1 (rbO row n (i + 1)).length), (0, .imm (ics row) n x)], oH 50 (lcs (rbO row n (i + 1)))))
    (by
      have e : rbI row i (rbO row n i) n = rbO row n (i + 1) := rfl
      simp only [rbS, e]
      rcases ocvL 50 (rbO row n (i + 1)) with ⟨_, o1, o2⟩ | ⟨_, o1, o2⟩ <;> rw [o1, o2] <;> simp (disch := omega) only [ZF, stp, just, Rd.bind, Rd.run, Rd.opt, upds, aBin, aInt, Nat.reduceEqDiff, Nat.reduceLeDiff, ↓reduceIte, F_106]) (by simp)
  have g1 : (i : Int) < n := by omega
  simp only [rbS, rbI, cl0] at hloop
  simp only [rbT]
  generalize rbO row n (i + 1) = L2 at *
  generalize rbO row n i = L1 at *
  rcases ocvL 50 L1 with ⟨_, o1, o2⟩ | ⟨_, o1, o2⟩ <;> rw [o1, o2] at hloop ⊢ <;> rcases ocvL 50 L2 with ⟨_, p1, p2⟩ | ⟨_, p1, p2⟩ <;> rw [p1, p2] at hloop ⊢ <;>
    simp (disch := omega) only [ZF, stp, just, Rd.bind, Rd.run, Rd.opt, upds, aLen, aBuiltin, aBin, aInt, Nat.reduceBEq, Nat.reduceEqDiff, Nat.reduceLeDiff, ↓reduceIte, reduceCtorEq, ZT, F_106, g1, hloop, wrp_succ (show i < 1000000 by omega)] <;> exact ⟨_, rfl, rfl⟩
theorem rubbedL_run {C : Callee} {row : List Int} {n : Nat} {x : Bool} (hC : RbC C row n) (h : Rw n row) (h6 : n ≤ 6) :
    (rbL row = [] ∧ ∃ H, bodyA E C fg 1000000 106 [.imm (ics row) n x] [] 0 = some (.nilsl, H)) ∨
    (0 < (rbL row).length ∧ ∃ H, bodyA E C fg 1000000 106 [.imm (ics row) n x] [] 0 = some (.ref 50 0 (rbL row).length (rbL row).length (rbL row).length 1 false, H) ∧ hget H 50 = some ⟨.row, lcs (rbL row)⟩) := by
  have hl := h.len
  have hlen : (ics row).length = n := by rw [ics_length, hl]
  have eL : rbL row = rbO row n n := by unfold rbL; rw [hl]
  have hloop := loopM (f := (execA E C (fg 106) 0 54 [] 1000000 c106_9)) (E0 := []) (fun i => rbT row n x (rbO row n i) i) n (fun i hi => rb_out hC h h6 i hi) rfl (by omega)
    (e := .exit 0) (se := ([(10, .bool false), (9, .int .i64 n), (8, .int .i64 n), (3, oV 50 1 (rbL row).length), (0, .imm (ics row) n x)], oH 50 (lcs (rbL row))))
    (by
      rw [eL]
      simp only [rbT]
      rcases ocvL 50 (rbO row n n) with ⟨_, o1, o2⟩ | ⟨_, o1, o2⟩ <;> rw [o1, o2] <;> simp (disch := omega) only [ZF, stp, just, Rd.bind, Rd.run, Rd.opt, upds, aBin, aInt, Nat.reduceEqDiff, Nat.reduceLeDiff, ↓reduceIte, F_106]) (by simp)
  have e0 : oH 50 (lcs (rbO row n 0)) = [] := rfl
  have e1 : oV 50 1 (rbO row n 0).length = .nilsl := rfl
  simp only [rbT, e0, e1, cl0] at hloop
  rcases ocvL 50 (rbL row) with ⟨hn, o1, o2⟩ | ⟨hp, o1, o2⟩ <;> rw [o1, o2] at hloop
  · refine .inl ⟨hn, ?_⟩
    simp (disch := omega) only [ZF, frame0, stp, just, Rd.bind, Rd.run, upds, resA, resL, aLen, aBuiltin, Nat.reduceBEq, Nat.reduceEqDiff, Nat.reduceLeDiff, ↓reduceIte, reduceCtorEq, ZT, F_106, hloop]
    exact ⟨_, rfl⟩
  · refine .inr ⟨hp, ?_⟩
    simp (disch := omega) only [ZF, frame0, stp, just, Rd.bind, Rd.run, upds, resA, resL, aLen, aBuiltin, Nat.reduceBEq, Nat.reduceEqDiff, Nat.reduceLeDiff, ↓reduceIte, reduceCtorEq, ZT, F_106, hloop]
    exact ⟨_, rfl, rfl⟩
theorem rubbedL_call {d : Nat} {site : Nat → Nat} {seen : List Nat} {row : List Int} {n : Nat} {x : Bool} (h : Rw n row) (h0 : 0 < n) (h6 : n ≤ 6) : aBack site true seen (thaw (kF (d + 7)) 106 [.imm (ics row) n x] [] 0) =
    if rbL row = [] then .pure (.nilsl, []) else back1 (site 0) seen (fun k => .ref k 0 (rbL row).length (rbL row).length (rbL row).length 1 false) ⟨.row, lcs (rbL row)⟩ := by
  rcases rubbedL_run (x := x) (rbC d h.len h0 h6) h h6 with ⟨e, H, h1⟩ | ⟨hp, H, h1, h2⟩
  · rw [if_pos e]
    exact aBack_nil ⟨H, by rw [kF_no rfl]; exact h1⟩
  · rw [if_neg (fun e => by rw [e] at hp; simp at hp)]
    exact aBack_refc (by rw [kF_no rfl]; exact h1) h2 (lcs_length _)
end Go.AM.Ytfmnoohhhokicaa
end

section
namespace Go.AM.Ytfmnoohhhokicaa
open Go Go.AM Go.AM.Rub
set_option maxRecDepth 100000
set_option maxHeartbeats 8000000
theorem pr2_run {d : Nat} {l m : List Int} {x : Bool} (hl : m.length ≤ 1000) : rsOf (bodyA E (kF (d + 1)) fg 1000000 107 [.imm (ics l) l.length x, .iptr [.imm (ics m) m.length false] 0] [] 0) = some (.bool (decide (m = l))) := by
  have hs := fun (site : Nat → Nat) seen => same_call (d := d) (site := site) (seen := seen) (iv_imm m false) (iv_imm l x) hl
  generalize kF (d + 1) = C at *
  simp (disch := omega) only [ZF, frame0, stp, just, Rd.bind, Rd.run, Rd.opt, upds, rdCells, aLoad, resA, resL, Nat.reduceBEq, Nat.reduceEqDiff, Nat.reduceLeDiff, ↓reduceIte, reduceCtorEq, aCall, snaps, ZT, F_107, hs]
theorem pr2 (d : Nat) (m : List Int) {L : List (List Int)} (hL : m.length ≤ 1000) : PrC (kF (d + 2)) 107 (.imm (ics m) m.length false) (fun l => decide (m = l)) L :=
  ⟨⟨_, fi_107⟩, fun _ _ => rfl, fun _ _ _ _ => aBack_bool (kF_ex rfl (pr2_run hL))⟩
theorem any_eq2 (m : List Int) (L : List (List Int)) : L.any (fun l => decide (m = l)) = decide (m ∈ L) := by
  rw [Bool.eq_iff_iff, List.any_eq_true, decide_eq_true_eq]
  constructor
  · rintro ⟨x, hx, e⟩; rw [of_decide_eq_true e]; exact hx
  · intro h; exact ⟨m, h, decide_eq_true rfl⟩
theorem con2 {d : Nat} {m : List Int} {a : AV} {L : List (List Int)} (ha : LV L a) (hL : m.length ≤ 1000) (hl : L.length ≤ 900000) {site : Nat → Nat} {seen : List Nat} :
    aBack site true seen (thaw (kF (d + 4)) 73 [a, .clo 107 [.iptr [.imm (ics m) m.length false] 0]] [] 0) = .pure (.bool (decide (m ∈ L)), []) := by
  have := con_call (site := site) (seen := seen) (pr2 d m (L := L) hL) ha hl (fun _ => rfl)
  rw [any_eq2] at this
  exact this
/-- What a round needs of the calls. -/
structure ReC (C : Callee) (n : Nat) : Prop where
  co : ∀ (site : Nat → Nat) seen m a L, LV L a → L.length ≤ 900000 → m.length = n → aBack site true seen (thaw C 73 [a, .clo 107 [.iptr [.imm (ics m) n false] 0]] [] 0) = .pure (.bool (decide (m ∈ L)), [])
  rb : ∀ (site : Nat → Nat) seen row x, Rw n row → aBack site true seen (thaw C 106 [.imm (ics row) n x] [] 0) = if rbL row = [] then .pure (.nilsl, []) else back1 (site 0) seen (fun k => .ref k 0 (rbL row).length (rbL row).length (rbL row).length 1 false) ⟨.row, lcs (rbL row)⟩
theorem reC (d : Nat) {n : Nat} (h0 : 0 < n) (h6 : n ≤ 6) : ReC (kF (d + 7)) n :=
  ⟨fun site seen m a L h1 h2 h3 => by subst h3; exact con2 (d := d + 3) h1 (by omega) h2, fun site seen row x h => rubbedL_call (d := d) h h0 h6⟩
/-- How far rows are. -/
def farL (a : List Int) (L : List (List Int)) : List Int := L.map fun b => (apL a b : Int)
theorem farL_len (a : List Int) (L : List (List Int)) : (farL a L).length = L.length := by simp [farL]
theorem farL_at {a : List Int} {L : List (List Int)} {k : Nat} {b : List Int} (h : L[k]? = some b) : (farL a L)[k]? = some (apL a b : Int) := by simp [farL, h]
noncomputable abbrev riI (a : List Int) (nbs all : List (List Int)) (i k : Nat) : St :=
  ([(24, .int .i64 k), (23, .int .i64 nbs.length), (22, .ref 22 0 nbs.length nbs.length nbs.length 1 false), (6, .int .i64 i), (5, .ref 11 0 all.length all.length all.length 1 false), (4, .ref 10 0 all.length all.length all.length 1 false)],
    [(10, ⟨.row, lcs all⟩), (11, ⟨.row, ics (farL a all)⟩), (22, ⟨.row, lcs nbs⟩)])
theorem re_in {C : Callee} {n : Nat} {a x : List Int} {nbs all : List (List Int)} (hC : ReC C n) (ha : all.length ≤ 800000) (hn : nbs.length ≤ 100) {i : Nat} (hi : i < all.length) (hx : all[i]? = some x) (hxf : apL a x ≤ 1000) (k : Nat) {l : List Int} (hk : nbs[k]? = some l) (hl : l.length = n) (hD : l ∉ all → apL a l = apL a x + 1) :
    ∃ s', (execA E C (fg 63) 0 47 [] 1000000 c63_21) (riI a nbs all i k) = some (.normal, s') ∧ headA [] s' = riI a nbs (ad all l) i (k + 1) := by
  have hkl := (List.getElem?_eq_some_iff.1 hk).1
  have hat := lcs_at hk
  rw [hl] at hat
  have hln := lcs_length nbs
  have hla := lcs_length all
  have hta := lcs_takeA all
  have hfl : (ics (farL a all)).length = all.length := by rw [ics_length, farL_len]
  have htf : List.take all.length (ics (farL a all)) = ics (farL a all) := List.take_of_length_le (by omega)
  have hfa := ics_at (farL_at (a := a) hx)
  have hco := fun (site : Nat → Nat) seen ex => hC.co site seen l (.imm (lcs all) all.length ex) all (.inr ⟨ex, rfl⟩) (by omega) hl
  have g1 : (k : Int) < nbs.length := by omega
  have g2 : (i : Int) < all.length := by omega
  have w : wrp .i64 ((apL a x : Int) + 1) = (apL a x : Int) + 1 := wrp64 (by omega)
  have had : ad all l = if l ∈ all then all else all ++ [l] := rfl
  rw [had]
  by_cases hm : l ∈ all
  · rw [if_pos hm]
    rw [decide_eq_true hm] at hco
    simp only [riI]
    generalize ics (farL a all) = F at *
    generalize lcs all = A at *
    generalize all.length = m at *
    generalize lcs nbs = NB at *
    generalize nbs.length = nn at *
    simp (disch := omega) only [ZF, stp, opBox, justO, just, Rd.bind, Rd.run, Rd.opt, upds, acells, zeroCells, tsz, elemT, rdCells, aLoad, aStore, opStore, fresh, aIndexAddr, aNum, aBuiltin, aBin, aInt, putC, evO, Nat.reduceAdd, Nat.reduceLT, Nat.reduceBEq, Nat.reduceEqDiff, Nat.reduceLeDiff, ↓reduceIte, reduceCtorEq, stpT, Rd.foot, aBuildSlice, aBuildAt, partsOf, fillA, repC, isSliceT, aAppend, srcOf, window, aUn, aCall, snaps, ZT, F_63, hat, hln, hla, hta, hco, g1, wrp_succ (show k < 1000000 by omega)]
    exact ⟨_, rfl, rfl⟩
  · rw [if_neg hm]
    rw [decide_eq_false hm] at hco
    have s1 := lcs_snoc all l
    rw [hl] at s1
    have s2 := ics_snoc (farL a all) ((apL a x : Int) + 1)
    have e2 : farL a all ++ [(apL a x : Int) + 1] = farL a (all ++ [l]) := by
      have := hD hm
      simp only [farL, List.map_append, List.map_cons, List.map_nil, this]
      simp
    rw [e2] at s2
    have hno : ¬ all.length + 1 ≤ all.length := by omega
    simp only [riI, List.length_append, List.length_singleton]
    rw [← s1, ← s2]
    generalize ics (farL a all) = F at *
    generalize lcs all = A at *
    generalize all.length = m at *
    generalize lcs nbs = NB at *
    generalize nbs.length = nn at *
    simp (disch := omega) only [ZF, stp, opBox, justO, just, Rd.bind, Rd.run, Rd.opt, upds, acells, zeroCells, tsz, elemT, rdCells, aLoad, aStore, opStore, fresh, aIndexAddr, aNum, aBuiltin, aBin, aInt, putC, evO, Nat.reduceAdd, Nat.reduceLT, Nat.reduceBEq, Nat.reduceEqDiff, Nat.reduceLeDiff, ↓reduceIte, reduceCtorEq, stpT, Rd.foot, writing, touching, Tr.empty, dynPairs, apartT, disj, aBuildSlice, aBuildAt, partsOf, fillA, repC, isSliceT, aAppend, srcOf, window, aUn, aCall, snaps, ZT, F_63, hat, hln, hla, hta, hfl, htf, hfa, hco, g1, g2, w, hno, room39 (show m + 1 ≤ 1000000 by omega), room22 (show m + 1 ≤ 1000000 by omega), wrp_succ (show k < 1000000 by omega)]
    exact ⟨_, rfl, rfl⟩
noncomputable abbrev reS (a : List Int) (all : List (List Int)) (i : Nat) : St :=
  ([(6, .int .i64 i), (5, .ref 11 0 all.length all.length all.length 1 false), (4, .ref 10 0 all.length all.length all.length 1 false)], [(10, ⟨.row, lcs all⟩), (11, ⟨.row, ics (farL a all)⟩)])
theorem ad_addN (all : List (List Int)) (ls : List (List Int)) (l : List Int) : addN all (ls ++ [l]) = ad (addN all ls) l := by
  rw [addN_snoc]; unfold ad; by_cases h : l ∈ addN all ls <;> simp [h]
theorem addN_len : ∀ (ls all : List (List Int)), (addN all ls).length ≤ all.length + ls.length
  | [], all => by simp [addN]
  | l :: ls, all => by
    simp only [addN, List.length_cons]
    split
    · have := addN_len ls all; omega
    · have := addN_len ls (all ++ [l]); rw [List.length_append, List.length_singleton] at this; omega
theorem re_go {C : Callee} {n : Nat} {a : List Int} (hC : ReC C n) (h : Rw n a) (h6 : n ≤ 6) {i : Nat} (hs : ∀ j, j ≤ i → j < (bfR a j).length) :
    ∃ s', (execA E C (fg 63) 0 47 [] 1000000 c63_9) (reS a (bfR a i) i) = some (.normal, s') ∧ headA [] s' = reS a (bfR a (i + 1)) (i + 1) := by
  have inv := bfR_inv h i fun j hj => hs j (by omega)
  have hi := hs i (Nat.le_refl _)
  have hx : (bfR a i)[i]? = some (bfR a i)[i] := List.getElem?_eq_getElem hi
  have e : bfR a (i + 1) = addN (bfR a i) (rbL (bfR a i)[i]) := by simp only [bfR, hx]
  have hfar := fun l => bfR_far h (fun j hj => hs j (by omega)) hx (l := l)
  rw [e]
  have hxr := (inv.sub _ (List.mem_of_getElem? hx)).1
  have hxf := apL_le h hxr
  have hlen := dw_sub h inv.nd inv.sub
  have h9 : 9 ^ n ≤ 531441 := by have := Nat.pow_le_pow_right (n := 9) (by omega) h6; omega
  generalize bfR a i = all at *
  generalize hxx : all[i] = x at *
  clear hxx
  have hnb : (rbL x).length ≤ 100 := by
    have := rbO_len x x.length x.length
    have h1 := hxr.len
    have h2 : x.length * x.length ≤ 6 * 6 := Nat.mul_le_mul (by omega) (by omega)
    unfold rbL; omega
  have hla := lcs_length all
  have hat := lcs_at hx
  rw [hxr.len] at hat
  have hrb := fun (site : Nat → Nat) seen y => hC.rb site seen x y hxr
  have g1 : (i : Int) < all.length := by omega
  by_cases hn : rbL x = []
  · rw [hn]
    have e2 : addN all [] = all := rfl
    rw [e2]
    simp only [if_pos hn] at hrb
    have hloop := loopM0 (f := (execA E C (fg 63) 0 47 [] 1000000 c63_21)) (E0 := []) (s0 := ([(24, .int .i64 0), (23, .int .i64 0), (22, .nilsl), (6, .int .i64 i), (5, .ref 11 0 all.length all.length all.length 1 false), (4, .ref 10 0 all.length all.length all.length 1 false)], [(10, ⟨.row, lcs all⟩), (11, ⟨.row, ics (farL a all)⟩)])) rfl
      (e := .exit 2) (se := ([(25, .bool false), (24, .int .i64 0), (23, .int .i64 0), (22, .nilsl), (6, .int .i64 i), (5, .ref 11 0 all.length all.length all.length 1 false), (4, .ref 10 0 all.length all.length all.length 1 false)], [(10, ⟨.row, lcs all⟩), (11, ⟨.row, ics (farL a all)⟩)]))
      (by simp (disch := omega) only [ZF, stp, just, Rd.bind, Rd.run, Rd.opt, upds, aBin, aInt, Nat.reduceEqDiff, Nat.reduceLeDiff, ↓reduceIte, F_63]) (by simp)
    simp only [reS]
    generalize ics (farL a all) = F at *
    generalize lcs all = A at *
    generalize all.length = m at *
    simp (disch := omega) only [ZF, stp, just, Rd.bind, Rd.run, Rd.opt, upds, tsz, rdCells, aLoad, aIndexAddr, aNum, aLen, aBuiltin, aBin, aInt, Nat.reduceLT, Nat.reduceBEq, Nat.reduceEqDiff, Nat.reduceLeDiff, ↓reduceIte, aCall, snaps, ZT, F_63, hla, hat, hrb, hloop, g1, wrp_succ (show i < 1000000 by omega)]
    exact ⟨_, rfl, rfl⟩
  · simp only [if_neg hn] at hrb
    have key : ∀ k, k ≤ (rbL x).length → (addN all ((rbL x).take k)).length ≤ all.length + k ∧ (∀ l ∈ all, l ∈ addN all ((rbL x).take k)) ∧ (addN all ((rbL x).take k))[i]? = some x := by
      intro k hk
      obtain ⟨new, e, _, _, _⟩ := addN_spec ((rbL x).take k) all
      have hle := addN_len ((rbL x).take k) all
      rw [List.length_take] at hle
      refine ⟨by omega, fun l hl => by rw [e]; exact List.mem_append_left _ hl, ?_⟩
      rw [e, List.getElem?_append_left hi]; exact hx
    have hloop := loopM (f := (execA E C (fg 63) 0 47 [] 1000000 c63_21)) (E0 := []) (fun k => riI a (rbL x) (addN all ((rbL x).take k)) i k) (rbL x).length (fun k hk => by
        obtain ⟨q1, q2, q3⟩ := key k (by omega)
        have hk2 : (rbL x)[k]? = some (rbL x)[k] := List.getElem?_eq_getElem hk
        have h1 : (rbL x).take (k + 1) = (rbL x).take k ++ [(rbL x)[k]] := by rw [List.take_add_one, hk2]; rfl
        have hm := List.mem_of_getElem? hk2
        simp only [h1, ad_addN]
        exact re_in hC (by omega) hnb (List.getElem?_eq_some_iff.1 q3).1 q3 (by omega) k hk2 (rbL_row hxr hm).len (fun hno => hfar _ hm fun hh => hno (q2 _ hh))) rfl (by omega)
      (e := .exit 2) (se := ([(25, .bool false), (24, .int .i64 (rbL x).length), (23, .int .i64 (rbL x).length), (22, .ref 22 0 (rbL x).length (rbL x).length (rbL x).length 1 false), (6, .int .i64 i), (5, .ref 11 0 (addN all (rbL x)).length (addN all (rbL x)).length (addN all (rbL x)).length 1 false), (4, .ref 10 0 (addN all (rbL x)).length (addN all (rbL x)).length (addN all (rbL x)).length 1 false)], [(10, ⟨.row, lcs (addN all (rbL x))⟩), (11, ⟨.row, ics (farL a (addN all (rbL x)))⟩), (22, ⟨.row, lcs (rbL x)⟩)]))
      (by
        simp only [riI, List.take_length]
        simp (disch := omega) only [ZF, stp, just, Rd.bind, Rd.run, Rd.opt, upds, aBin, aInt, Nat.reduceEqDiff, Nat.reduceLeDiff, ↓reduceIte, F_63]) (by simp)
    have e2 : addN all [] = all := rfl
    have hln := lcs_length (rbL x)
    simp only [riI, List.take_zero, e2, cl0] at hloop
    simp only [reS]
    generalize ics (farL a (addN all (rbL x))) = F2 at *
    generalize lcs (addN all (rbL x)) = A2 at *
    generalize (addN all (rbL x)).length = m2 at *
    generalize ics (farL a all) = F at *
    generalize lcs all = A at *
    generalize all.length = m at *
    simp (disch := omega) only [ZF, stp, just, Rd.bind, Rd.run, Rd.opt, upds, tsz, rdCells, aLoad, aIndexAddr, aNum, aLen, aBuiltin, aBin, aInt, Nat.reduceLT, Nat.reduceBEq, Nat.reduceEqDiff, Nat.reduceLeDiff, ↓reduceIte, aCall, snaps, ZT, F_63, hla, hat, hrb, hln, hloop, g1, wrp_succ (show i < 1000000 by omega)]
    exact ⟨_, rfl, rfl⟩
theorem reached_run {C : Callee} {n : Nat} {a : List Int} (hC : ReC C n) (h : Rw n a) (h6 : n ≤ 6) :
    ∃ H, bodyA E C fg 1000000 63 [.imm (ics a) n false] [] 0 = some (.tup [.ref 10 0 (reL a).length (reL a).length (reL a).length 1 false, .ref 11 0 (reL a).length (reL a).length (reL a).length 1 false], H) ∧ hget H 10 = some ⟨.row, lcs (reL a)⟩ ∧ hget H 11 = some ⟨.row, ics (farL a (reL a))⟩ := by
  obtain ⟨h1, h2⟩ := reN_spec h
  have hl := reL_len h
  have ok := reL_ok h
  have h9 : 9 ^ n ≤ 531441 := by have := Nat.pow_le_pow_right (n := 9) (by omega) h6; omega
  have := ok.len
  have hloop := loopM (f := (execA E C (fg 63) 0 47 [] 1000000 c63_9)) (E0 := []) (fun i => reS a (bfR a i) i) (reN a) (fun i hi => re_go hC h h6 fun j hj => h1 j (by omega)) rfl (by omega)
    (e := .exit 0) (se := ([(15, .bool false), (6, .int .i64 (reN a)), (5, .ref 11 0 (reL a).length (reL a).length (reL a).length 1 false), (4, .ref 10 0 (reL a).length (reL a).length (reL a).length 1 false)], [(10, ⟨.row, lcs (reL a)⟩), (11, ⟨.row, ics (farL a (reL a))⟩)]))
    (by
      have e : bfR a (reN a) = reL a := rfl
      have hla := lcs_length (reL a)
      simp only [reS, e]
      have g1 : ¬ ((reN a : Nat) : Int) < (reL a).length := by omega
      generalize ics (farL a (reL a)) = F at *
      generalize lcs (reL a) = A at *
      generalize (reL a).length = m at *
      simp (disch := omega) only [ZF, stp, just, Rd.bind, Rd.run, Rd.opt, upds, aLen, aBuiltin, aBin, aInt, Nat.reduceBEq, Nat.reduceEqDiff, Nat.reduceLeDiff, ↓reduceIte, ZT, F_63, hla, g1]) (by simp)
  have e0 : lcs (bfR a 0) = [.imm (ics a) n false] := by show [AV.imm (ics a) a.length false] = _; rw [h.len]
  have e1 : ics (farL a (bfR a 0)) = [.int .i64 0] := by
    have : apL a a = 0 := by
      have := (lev h).d0
      exact this
    show [AV.int .i64 (apL a a : Int)] = _
    rw [this]; rfl
  have e2 : (bfR a 0).length = 1 := rfl
  simp only [reS, e0, e1, e2, cl0] at hloop
  generalize ics (farL a (reL a)) = F at *
  generalize lcs (reL a) = A at *
  generalize (reL a).length = m at *
  simp (disch := omega) only [ZF, frame0, stp, Rd.bind, Rd.run, upds, acells, zeroCells, tsz, elemT, resA, resL, fresh, putC, evO, ofV, ofV1, Nat.reduceAdd, Nat.reduceLT, Nat.reduceBEq, Nat.reduceEqDiff, Nat.reduceLeDiff, ↓reduceIte, reduceCtorEq, aBuildSlice, aBuildAt, partsOf, fillA, repC, snaps, ZT, F_63, hloop]
  exact ⟨_, rfl, rfl, rfl⟩
theorem reached_call {d : Nat} {site : Nat → Nat} {seen : List Nat} {n : Nat} {a : List Int} (h : Rw n a) (h0 : 0 < n) (h6 : n ≤ 6) (hs : site 1 ≠ site 0) : aBack site true seen (thaw (kF (d + 8)) 63 [.imm (ics a) n false] [] 0) =
    back2 (site 0) (site 1) seen (fun k k' => .tup [.ref k 0 (reL a).length (reL a).length (reL a).length 1 false, .ref k' 0 (reL a).length (reL a).length (reL a).length 1 false]) ⟨.row, lcs (reL a)⟩ ⟨.row, ics (farL a (reL a))⟩ := by
  obtain ⟨H, h1, h2, h3⟩ := reached_run (reC d h0 h6) h h6
  have l1 := lcs_length (reL a)
  have l2 : (ics (farL a (reL a))).length = (reL a).length := by rw [ics_length, farL_len]
  have := aBack_ref2 (site := site) (seen := seen) (C := kF (d + 8)) (f := 63) (args := [.imm (ics a) n false]) (id := 10) (id' := 11) (n := (reL a).length) (n' := (reL a).length) (sz := 1) (sz' := 1) (cells := lcs (reL a)) (cells' := ics (farL a (reL a))) (H' := H) (by rw [kF_no rfl, l1, l2]; exact h1) h2 h3 (by decide) hs
  rw [l1, l2] at this
  exact this
end Go.AM.Ytfmnoohhhokicaa
end

section
namespace Go.AM.Ytfmnoohhhokicaa
open Go Go.AM
set_option maxRecDepth 100000
variable {C : Callee} {B N : Nat} {E0 : AHeap} (φ : AFr) (H : AHeap) (s : St)
noncomputable def c54_0 : Code := kBody Proofs.Try.f54
noncomputable def c54_1 : Code := kL c54_0
noncomputable def r54_0 : Array Oper := kO c54_1
noncomputable def o54_0_0 : Oper := opN r54_0 0
noncomputable def o54_0_1 : Oper := opN r54_0 1
theorem x54_1 : execA E C (fg 54) B 44 E0 N c54_1 s = regX (runA E C B 44 r54_0 r54_0.toList s) (fun s => gcM E0 [4, 5] (forget s.1 [4, 5], s.2)) := x_reg (ops := r54_0) (by rfl) (by rfl) s
theorem r54_0_l : r54_0.toList = [o54_0_0, o54_0_1] := nrfl rfl
theorem s54_0_0 : stepA E C B 44 r54_0 o54_0_0 (φ, H) = some (fput φ 4 (.int .i64 0), H) := nrfl rfl
theorem s54_0_1 : stepA E C B 44 r54_0 o54_0_1 (φ, H) = some (fput φ 5 (.int .i64 0), H) := nrfl rfl
noncomputable def c54_2 : Code := kR c54_0
noncomputable def c54_3 : Code := kL c54_2
noncomputable def r54_1 : Array Oper := kO c54_3
noncomputable def o54_1_0 : Oper := opN r54_1 0
noncomputable def o54_1_1 : Oper := opN r54_1 1
noncomputable def o54_1_2 : Oper := opN r54_1 2
theorem x54_3 : execA E C (fg 54) B 44 E0 N c54_3 s = regX (runA E C B 44 r54_1 r54_1.toList s) (fun s => gcM E0 [11, 12] (forget s.1 [11, 12], s.2)) := x_reg (ops := r54_1) (by rfl) (by rfl) s
theorem r54_1_l : r54_1.toList = [o54_1_0, o54_1_1, o54_1_2] := nrfl rfl
theorem s54_1_0 : stepA E C B 44 r54_1 o54_1_0 (φ, H) = some (fput φ 11 (fget φ 0), H) := nrfl rfl
theorem s54_1_1 : stepA E C B 44 r54_1 o54_1_1 (φ, H) = stp (some 12) φ H (aCall C (fun j => B + j * 44 + 12) true 25 [(fget φ 11)]) := nrfl rfl
theorem s54_1_2 : stepA E C B 44 r54_1 o54_1_2 (φ, H) = some (fput φ 6 (fget φ 12), H) := nrfl rfl
noncomputable def c54_4 : Code := kR c54_2
noncomputable def c54_5 : Code := kL c54_4
noncomputable def c54_6 : Code := kB c54_5
noncomputable def c54_7 : Code := kL c54_6
noncomputable def r54_2 : Array Oper := kO c54_7
noncomputable def o54_2_0 : Oper := opN r54_2 0
noncomputable def o54_2_1 : Oper := opN r54_2 1
noncomputable def o54_2_2 : Oper := opN r54_2 2
theorem x54_7 : execA E C (fg 54) B 44 E0 N c54_7 s = regX (runA E C B 44 r54_2 r54_2.toList s) (fun s => gcM E0 [14, 15] (forget s.1 [14, 15], s.2)) := x_reg (ops := r54_2) (by rfl) (by rfl) s
theorem r54_2_l : r54_2.toList = [o54_2_0, o54_2_1, o54_2_2] := nrfl rfl
theorem s54_2_0 : stepA E C B 44 r54_2 o54_2_0 (φ, H) = some (fput φ 14 (fget φ 6), H) := nrfl rfl
theorem s54_2_1 : stepA E C B 44 r54_2 o54_2_1 (φ, H) = stp (some 15) φ H (just (aBin E.T .neq 24 (fget φ 14) (.int .i64 0))) := nrfl rfl
theorem s54_2_2 : stepA E C B 44 r54_2 o54_2_2 (φ, H) = some (fput φ 13 (fget φ 15), H) := nrfl rfl
noncomputable def c54_8 : Code := kR c54_6
noncomputable def c54_9 : Code := kT c54_8
noncomputable def c54_10 : Code := kL c54_9
noncomputable def r54_3 : Array Oper := kO c54_10
noncomputable def o54_3_0 : Oper := opN r54_3 0
noncomputable def o54_3_1 : Oper := opN r54_3 1
noncomputable def o54_3_2 : Oper := opN r54_3 2
theorem x54_10 : execA E C (fg 54) B 44 E0 N c54_10 s = regX (runA E C B 44 r54_3 r54_3.toList s) (fun s => gcM E0 [0, 1, 6, 13, 16] (forget s.1 [0, 1, 6, 13, 16], s.2)) := x_reg (ops := r54_3) (by rfl) (by rfl) s
theorem r54_3_l : r54_3.toList = [o54_3_0, o54_3_1, o54_3_2] := nrfl rfl
theorem s54_3_0 : stepA E C B 44 r54_3 o54_3_0 (φ, H) = some (fput φ 16 (fget φ 6), H) := nrfl rfl
theorem s54_3_1 : stepA E C B 44 r54_3 o54_3_1 (φ, H) = some (fput φ 4 (.int .i64 0), H) := nrfl rfl
theorem s54_3_2 : stepA E C B 44 r54_3 o54_3_2 (φ, H) = some (fput φ 5 (fget φ 16), H) := nrfl rfl
noncomputable def c54_11 : Code := kR c54_9
theorem x54_11 : execA E C (fg 54) B 44 E0 N c54_11 s = some (.ret, s) := x_ret (by rfl) s
theorem x54_9 : execA E C (fg 54) B 44 E0 N c54_9 s = seqX (execA E C (fg 54) B 44 E0 N c54_10 s) (execA E C (fg 54) B 44 E0 N c54_11) := x_seq (by rfl) s
noncomputable def c54_12 : Code := kE c54_8
noncomputable def c54_13 : Code := kL c54_12
noncomputable def r54_4 : Array Oper := kO c54_13
noncomputable def o54_4_0 : Oper := opN r54_4 0
noncomputable def o54_4_1 : Oper := opN r54_4 1
noncomputable def o54_4_2 : Oper := opN r54_4 2
noncomputable def o54_4_3 : Oper := opN r54_4 3
noncomputable def o54_4_4 : Oper := opN r54_4 4
noncomputable def o54_4_5 : Oper := opN r54_4 5
noncomputable def o54_4_6 : Oper := opN r54_4 6
theorem x54_13 : execA E C (fg 54) B 44 E0 N c54_13 s = regX (runA E C B 44 r54_4 r54_4.toList s) (fun s => gcM E0 [6, 13, 18, 19, 20, 21, 22, 23] (forget s.1 [6, 13, 18, 19, 20, 21, 22, 23], s.2)) := x_reg (ops := r54_4) (by rfl) (by rfl) s
theorem r54_4_l : r54_4.toList = [o54_4_0, o54_4_1, o54_4_2, o54_4_3, o54_4_4, o54_4_5, o54_4_6] := nrfl rfl
theorem s54_4_0 : stepA E C B 44 r54_4 o54_4_0 (φ, H) = some (fput φ 18 (fget φ 1), H) := nrfl rfl
theorem s54_4_1 : stepA E C B 44 r54_4 o54_4_1 (φ, H) = stp (some 19) φ H (just (aBin E.T .lss 3 (fget φ 18) (.int .i64 1))) := nrfl rfl
theorem s54_4_2 : stepA E C B 44 r54_4 o54_4_2 (φ, H) = some (fput φ 20 (fget φ 19), H) := nrfl rfl
theorem s54_4_3 : stepA E C B 44 r54_4 o54_4_3 (φ, H) = gd φ 20 false (fun φ => some (fput φ 21 (.tup []), H)) (fun φ => some (fput φ 21 (fget φ 1), H)) := s_gd (j := 2) (oj := o54_4_2) rfl rfl rfl (fun _ => rfl) (fun _ => rfl)
theorem s54_4_4 : stepA E C B 44 r54_4 o54_4_4 (φ, H) = gd φ 20 false (fun φ => some (fput φ 22 (.tup []), H)) (fun φ => stp (some 22) φ H (just (aBin E.T .gtr 3 (fget φ 21) (.int .i64 4)))) := s_gd (j := 2) (oj := o54_4_2) rfl rfl rfl (fun _ => rfl) (fun _ => rfl)
theorem s54_4_5 : stepA E C B 44 r54_4 o54_4_5 (φ, H) = stp (some 23) φ H (opPick (fget φ 20) (.bool true) (fget φ 22)) := nrfl rfl
theorem s54_4_6 : stepA E C B 44 r54_4 o54_4_6 (φ, H) = some (fput φ 17 (fget φ 23), H) := nrfl rfl
noncomputable def c54_14 : Code := kR c54_12
noncomputable def c54_15 : Code := kT c54_14
noncomputable def c54_16 : Code := kL c54_15
noncomputable def r54_5 : Array Oper := kO c54_16
noncomputable def o54_5_0 : Oper := opN r54_5 0
noncomputable def o54_5_1 : Oper := opN r54_5 1
theorem x54_16 : execA E C (fg 54) B 44 E0 N c54_16 s = regX (runA E C B 44 r54_5 r54_5.toList s) (fun s => gcM E0 [0, 1, 17] (forget s.1 [0, 1, 17], s.2)) := x_reg (ops := r54_5) (by rfl) (by rfl) s
theorem r54_5_l : r54_5.toList = [o54_5_0, o54_5_1] := nrfl rfl
theorem s54_5_0 : stepA E C B 44 r54_5 o54_5_0 (φ, H) = some (fput φ 4 (.int .i64 0), H) := nrfl rfl
theorem s54_5_1 : stepA E C B 44 r54_5 o54_5_1 (φ, H) = some (fput φ 5 (.int .i64 1), H) := nrfl rfl
noncomputable def c54_17 : Code := kR c54_15
theorem x54_17 : execA E C (fg 54) B 44 E0 N c54_17 s = some (.ret, s) := x_ret (by rfl) s
theorem x54_15 : execA E C (fg 54) B 44 E0 N c54_15 s = seqX (execA E C (fg 54) B 44 E0 N c54_16 s) (execA E C (fg 54) B 44 E0 N c54_17) := x_seq (by rfl) s
noncomputable def c54_18 : Code := kE c54_14
theorem x54_18 : execA E C (fg 54) B 44 E0 N c54_18 s = some (.normal, s) := x_skip (by rfl) s
theorem x54_14 : execA E C (fg 54) B 44 E0 N c54_14 (φ, H) = condX (fget φ 17) (execA E C (fg 54) B 44 E0 N c54_15 (φ, H)) (execA E C (fg 54) B 44 E0 N c54_18 (φ, H)) := x_cond (by rfl) _
theorem x54_12 : execA E C (fg 54) B 44 E0 N c54_12 s = seqX (execA E C (fg 54) B 44 E0 N c54_13 s) (execA E C (fg 54) B 44 E0 N c54_14) := x_seq (by rfl) s
theorem x54_8 : execA E C (fg 54) B 44 E0 N c54_8 (φ, H) = condX (fget φ 13) (execA E C (fg 54) B 44 E0 N c54_9 (φ, H)) (execA E C (fg 54) B 44 E0 N c54_12 (φ, H)) := x_cond (by rfl) _
theorem x54_6 : execA E C (fg 54) B 44 E0 N c54_6 s = seqX (execA E C (fg 54) B 44 E0 N c54_7 s) (execA E C (fg 54) B 44 E0 N c54_8) := x_seq (by rfl) s
theorem x54_5 : execA E C (fg 54) B 44 E0 N c54_5 s = blockX 0 (fun s => (forget s.1 [17], s.2)) (execA E C (fg 54) B 44 E0 N c54_6 s) := x_block (by rfl) (by rfl) s
noncomputable def c54_19 : Code := kR c54_4
noncomputable def c54_20 : Code := kL c54_19
noncomputable def r54_6 : Array Oper := kO c54_20
noncomputable def o54_6_0 : Oper := opN r54_6 0
theorem x54_20 : execA E C (fg 54) B 44 E0 N c54_20 s = regX (runA E C B 44 r54_6 r54_6.toList s) (fun s => gcM E0 [] (forget s.1 [], s.2)) := x_reg (ops := r54_6) (by rfl) (by rfl) s
theorem r54_6_l : r54_6.toList = [o54_6_0] := nrfl rfl
theorem s54_6_0 : stepA E C B 44 r54_6 o54_6_0 (φ, H) = some (fput φ 7 (.int .i64 0), H) := nrfl rfl
noncomputable def c54_21 : Code := kR c54_19
noncomputable def c54_22 : Code := kL c54_21
noncomputable def c54_23 : Code := kL c54_22
noncomputable def r54_7 : Array Oper := kO c54_23
noncomputable def o54_7_0 : Oper := opN r54_7 0
noncomputable def o54_7_1 : Oper := opN r54_7 1
noncomputable def o54_7_2 : Oper := opN r54_7 2
theorem x54_23 : execA E C (fg 54) B 44 E0 N c54_23 s = regX (runA E C B 44 r54_7 r54_7.toList s) (fun s => gcM E0 [0] (forget s.1 [0], s.2)) := x_reg (ops := r54_7) (by rfl) (by rfl) s
theorem r54_7_l : r54_7.toList = [o54_7_0, o54_7_1, o54_7_2] := nrfl rfl
theorem s54_7_0 : stepA E C B 44 r54_7 o54_7_0 (φ, H) = some (fput φ 24 (fget φ 0), H) := nrfl rfl
theorem s54_7_1 : stepA E C B 44 r54_7 o54_7_1 (φ, H) = stp (some 25) φ H (aBuiltin E.T (B + 25) .len #[22] [(fget φ 24)]) := nrfl rfl
theorem s54_7_2 : stepA E C B 44 r54_7 o54_7_2 (φ, H) = some (fput φ 26 (.int .i64 0), H) := nrfl rfl
noncomputable def c54_24 : Code := kR c54_22
noncomputable def c54_25 : Code := kB c54_24
noncomputable def c54_26 : Code := kB c54_25
noncomputable def c54_27 : Code := kL c54_26
noncomputable def r54_8 : Array Oper := kO c54_27
noncomputable def o54_8_0 : Oper := opN r54_8 0
theorem x54_27 : execA E C (fg 54) B 44 E0 N c54_27 s = regX (runA E C B 44 r54_8 r54_8.toList s) (fun s => gcM E0 [] (forget s.1 [], s.2)) := x_reg (ops := r54_8) (by rfl) (by rfl) s
theorem r54_8_l : r54_8.toList = [o54_8_0] := nrfl rfl
theorem s54_8_0 : stepA E C B 44 r54_8 o54_8_0 (φ, H) = stp (some 27) φ H (just (aBin E.T .lss 3 (fget φ 26) (fget φ 25))) := nrfl rfl
noncomputable def c54_28 : Code := kR c54_26
noncomputable def c54_29 : Code := kL c54_28
noncomputable def c54_30 : Code := kT c54_29
theorem x54_30 : execA E C (fg 54) B 44 E0 N c54_30 s = some (.normal, s) := x_skip (by rfl) s
noncomputable def c54_31 : Code := kE c54_29
theorem x54_31 : execA E C (fg 54) B 44 E0 N c54_31 s = some (.exit 1, s) := x_exit (by rfl) s
theorem x54_29 : execA E C (fg 54) B 44 E0 N c54_29 (φ, H) = condX (fget φ 27) (execA E C (fg 54) B 44 E0 N c54_30 (φ, H)) (execA E C (fg 54) B 44 E0 N c54_31 (φ, H)) := x_cond (by rfl) _
noncomputable def c54_32 : Code := kR c54_28
noncomputable def c54_33 : Code := kL c54_32
noncomputable def c54_34 : Code := kB c54_33
noncomputable def c54_35 : Code := kL c54_34
noncomputable def r54_9 : Array Oper := kO c54_35
noncomputable def o54_9_0 : Oper := opN r54_9 0
noncomputable def o54_9_1 : Oper := opN r54_9 1
noncomputable def o54_9_2 : Oper := opN r54_9 2
theorem x54_35 : execA E C (fg 54) B 44 E0 N c54_35 s = regX (runA E C B 44 r54_9 r54_9.toList s) (fun s => gcM E0 [27, 28, 29] (forget s.1 [27, 28, 29], s.2)) := x_reg (ops := r54_9) (by rfl) (by rfl) s
theorem r54_9_l : r54_9.toList = [o54_9_0, o54_9_1, o54_9_2] := nrfl rfl
theorem s54_9_0 : stepA E C B 44 r54_9 o54_9_0 (φ, H) = stp (some 28) φ H (just (aIndexAddr E.T 22 (fget φ 24) (fget φ 26))) := nrfl rfl
theorem s54_9_1 : stepA E C B 44 r54_9 o54_9_1 (φ, H) = stp (some 29) φ H (just (aLoad E.T 3 (fget φ 28))) := nrfl rfl
theorem s54_9_2 : stepA E C B 44 r54_9 o54_9_2 (φ, H) = some (fput φ 9 (fget φ 29), H) := nrfl rfl
noncomputable def c54_36 : Code := kR c54_34
noncomputable def c54_37 : Code := kL c54_36
noncomputable def r54_10 : Array Oper := kO c54_37
noncomputable def o54_10_0 : Oper := opN r54_10 0
noncomputable def o54_10_1 : Oper := opN r54_10 1
theorem x54_37 : execA E C (fg 54) B 44 E0 N c54_37 s = regX (runA E C B 44 r54_10 r54_10.toList s) (fun s => gcM E0 [30] (forget s.1 [30], s.2)) := x_reg (ops := r54_10) (by rfl) (by rfl) s
theorem r54_10_l : r54_10.toList = [o54_10_0, o54_10_1] := nrfl rfl
theorem s54_10_0 : stepA E C B 44 r54_10 o54_10_0 (φ, H) = some (fput φ 30 (fget φ 9), H) := nrfl rfl
theorem s54_10_1 : stepA E C B 44 r54_10 o54_10_1 (φ, H) = some (fput φ 10 (fget φ 30), H) := nrfl rfl
noncomputable def c54_38 : Code := kR c54_36
noncomputable def c54_39 : Code := kL c54_38
noncomputable def c54_40 : Code := kL c54_39
noncomputable def r54_11 : Array Oper := kO c54_40
noncomputable def o54_11_0 : Oper := opN r54_11 0
noncomputable def o54_11_1 : Oper := opN r54_11 1
noncomputable def o54_11_2 : Oper := opN r54_11 2
theorem x54_40 : execA E C (fg 54) B 44 E0 N c54_40 s = regX (runA E C B 44 r54_11 r54_11.toList s) (fun s => gcM E0 [31] (forget s.1 [31], s.2)) := x_reg (ops := r54_11) (by rfl) (by rfl) s
theorem r54_11_l : r54_11.toList = [o54_11_0, o54_11_1, o54_11_2] := nrfl rfl
theorem s54_11_0 : stepA E C B 44 r54_11 o54_11_0 (φ, H) = some (fput φ 31 (fget φ 1), H) := nrfl rfl
theorem s54_11_1 : stepA E C B 44 r54_11 o54_11_1 (φ, H) = stp (some 32) φ H (just (aBin E.T .sub 3 (fget φ 31) (.int .i64 1))) := nrfl rfl
theorem s54_11_2 : stepA E C B 44 r54_11 o54_11_2 (φ, H) = some (fput φ 33 (.int .i64 0), H) := nrfl rfl
noncomputable def c54_41 : Code := kR c54_39
noncomputable def c54_42 : Code := kB c54_41
noncomputable def c54_43 : Code := kB c54_42
noncomputable def c54_44 : Code := kL c54_43
noncomputable def r54_12 : Array Oper := kO c54_44
noncomputable def o54_12_0 : Oper := opN r54_12 0
theorem x54_44 : execA E C (fg 54) B 44 E0 N c54_44 s = regX (runA E C B 44 r54_12 r54_12.toList s) (fun s => gcM E0 [] (forget s.1 [], s.2)) := x_reg (ops := r54_12) (by rfl) (by rfl) s
theorem r54_12_l : r54_12.toList = [o54_12_0] := nrfl rfl
theorem s54_12_0 : stepA E C B 44 r54_12 o54_12_0 (φ, H) = stp (some 34) φ H (just (aBin E.T .lss 3 (fget φ 33) (fget φ 32))) := nrfl rfl
noncomputable def c54_45 : Code := kR c54_43
noncomputable def c54_46 : Code := kL c54_45
noncomputable def c54_47 : Code := kT c54_46
theorem x54_47 : execA E C (fg 54) B 44 E0 N c54_47 s = some (.normal, s) := x_skip (by rfl) s
noncomputable def c54_48 : Code := kE c54_46
theorem x54_48 : execA E C (fg 54) B 44 E0 N c54_48 s = some (.exit 3, s) := x_exit (by rfl) s
theorem x54_46 : execA E C (fg 54) B 44 E0 N c54_46 (φ, H) = condX (fget φ 34) (execA E C (fg 54) B 44 E0 N c54_47 (φ, H)) (execA E C (fg 54) B 44 E0 N c54_48 (φ, H)) := x_cond (by rfl) _
noncomputable def c54_49 : Code := kR c54_45
noncomputable def c54_50 : Code := kL c54_49
noncomputable def c54_51 : Code := kB c54_50
noncomputable def r54_13 : Array Oper := kO c54_51
noncomputable def o54_13_0 : Oper := opN r54_13 0
noncomputable def o54_13_1 : Oper := opN r54_13 1
noncomputable def o54_13_2 : Oper := opN r54_13 2
noncomputable def o54_13_3 : Oper := opN r54_13 3
theorem x54_51 : execA E C (fg 54) B 44 E0 N c54_51 s = regX (runA E C B 44 r54_13 r54_13.toList s) (fun s => gcM E0 [34, 35, 36, 37] (forget s.1 [34, 35, 36, 37], s.2)) := x_reg (ops := r54_13) (by rfl) (by rfl) s
theorem r54_13_l : r54_13.toList = [o54_13_0, o54_13_1, o54_13_2, o54_13_3] := nrfl rfl
theorem s54_13_0 : stepA E C B 44 r54_13 o54_13_0 (φ, H) = some (fput φ 35 (fget φ 10), H) := nrfl rfl
theorem s54_13_1 : stepA E C B 44 r54_13 o54_13_1 (φ, H) = some (fput φ 36 (fget φ 9), H) := nrfl rfl
theorem s54_13_2 : stepA E C B 44 r54_13 o54_13_2 (φ, H) = stp (some 37) φ H (just (aBin E.T .mul 3 (fget φ 35) (fget φ 36))) := nrfl rfl
theorem s54_13_3 : stepA E C B 44 r54_13 o54_13_3 (φ, H) = some (fput φ 10 (fget φ 37), H) := nrfl rfl
theorem x54_50 : execA E C (fg 54) B 44 E0 N c54_50 s = blockX 4 (fun s => (forget s.1 [], s.2)) (execA E C (fg 54) B 44 E0 N c54_51 s) := x_block (by rfl) (by rfl) s
noncomputable def c54_52 : Code := kR c54_49
noncomputable def r54_14 : Array Oper := kO c54_52
noncomputable def o54_14_0 : Oper := opN r54_14 0
noncomputable def o54_14_1 : Oper := opN r54_14 1
theorem x54_52 : execA E C (fg 54) B 44 E0 N c54_52 s = regX (runA E C B 44 r54_14 r54_14.toList s) (fun s => gcM E0 [38] (forget s.1 [38], s.2)) := x_reg (ops := r54_14) (by rfl) (by rfl) s
theorem r54_14_l : r54_14.toList = [o54_14_0, o54_14_1] := nrfl rfl
theorem s54_14_0 : stepA E C B 44 r54_14 o54_14_0 (φ, H) = stp (some 38) φ H (just (aBin E.T .add 3 (fget φ 33) (.int .i64 1))) := nrfl rfl
theorem s54_14_1 : stepA E C B 44 r54_14 o54_14_1 (φ, H) = some (fput φ 33 (fget φ 38), H) := nrfl rfl
theorem x54_49 : execA E C (fg 54) B 44 E0 N c54_49 s = seqX (execA E C (fg 54) B 44 E0 N c54_50 s) (execA E C (fg 54) B 44 E0 N c54_52) := x_seq (by rfl) s
theorem x54_45 : execA E C (fg 54) B 44 E0 N c54_45 s = seqX (execA E C (fg 54) B 44 E0 N c54_46 s) (execA E C (fg 54) B 44 E0 N c54_49) := x_seq (by rfl) s
theorem x54_43 : execA E C (fg 54) B 44 E0 N c54_43 s = seqX (execA E C (fg 54) B 44 E0 N c54_44 s) (execA E C (fg 54) B 44 E0 N c54_45) := x_seq (by rfl) s
theorem x54_42 : execA E C (fg 54) B 44 E0 N c54_42 s = iterA (execA E C (fg 54) B 44 E0 N c54_43) (headA E0) N s := x_loop (by rfl) s
theorem x54_41 : execA E C (fg 54) B 44 E0 N c54_41 s = blockX 3 (fun s => (forget s.1 [9, 32, 33, 34], s.2)) (execA E C (fg 54) B 44 E0 N c54_42 s) := x_block (by rfl) (by rfl) s
theorem x54_39 : execA E C (fg 54) B 44 E0 N c54_39 s = seqX (execA E C (fg 54) B 44 E0 N c54_40 s) (execA E C (fg 54) B 44 E0 N c54_41) := x_seq (by rfl) s
noncomputable def c54_53 : Code := kR c54_38
noncomputable def r54_15 : Array Oper := kO c54_53
noncomputable def o54_15_0 : Oper := opN r54_15 0
noncomputable def o54_15_1 : Oper := opN r54_15 1
noncomputable def o54_15_2 : Oper := opN r54_15 2
noncomputable def o54_15_3 : Oper := opN r54_15 3
theorem x54_53 : execA E C (fg 54) B 44 E0 N c54_53 s = regX (runA E C B 44 r54_15 r54_15.toList s) (fun s => gcM E0 [10, 39, 40, 41] (forget s.1 [10, 39, 40, 41], s.2)) := x_reg (ops := r54_15) (by rfl) (by rfl) s
theorem r54_15_l : r54_15.toList = [o54_15_0, o54_15_1, o54_15_2, o54_15_3] := nrfl rfl
theorem s54_15_0 : stepA E C B 44 r54_15 o54_15_0 (φ, H) = some (fput φ 39 (fget φ 7), H) := nrfl rfl
theorem s54_15_1 : stepA E C B 44 r54_15 o54_15_1 (φ, H) = some (fput φ 40 (fget φ 10), H) := nrfl rfl
theorem s54_15_2 : stepA E C B 44 r54_15 o54_15_2 (φ, H) = stp (some 41) φ H (just (aBin E.T .add 3 (fget φ 39) (fget φ 40))) := nrfl rfl
theorem s54_15_3 : stepA E C B 44 r54_15 o54_15_3 (φ, H) = some (fput φ 7 (fget φ 41), H) := nrfl rfl
theorem x54_38 : execA E C (fg 54) B 44 E0 N c54_38 s = seqX (execA E C (fg 54) B 44 E0 N c54_39 s) (execA E C (fg 54) B 44 E0 N c54_53) := x_seq (by rfl) s
theorem x54_36 : execA E C (fg 54) B 44 E0 N c54_36 s = seqX (execA E C (fg 54) B 44 E0 N c54_37 s) (execA E C (fg 54) B 44 E0 N c54_38) := x_seq (by rfl) s
theorem x54_34 : execA E C (fg 54) B 44 E0 N c54_34 s = seqX (execA E C (fg 54) B 44 E0 N c54_35 s) (execA E C (fg 54) B 44 E0 N c54_36) := x_seq (by rfl) s
theorem x54_33 : execA E C (fg 54) B 44 E0 N c54_33 s = blockX 2 (fun s => (forget s.1 [], s.2)) (execA E C (fg 54) B 44 E0 N c54_34 s) := x_block (by rfl) (by rfl) s
noncomputable def c54_54 : Code := kR c54_32
noncomputable def r54_16 : Array Oper := kO c54_54
noncomputable def o54_16_0 : Oper := opN r54_16 0
noncomputable def o54_16_1 : Oper := opN r54_16 1
theorem x54_54 : execA E C (fg 54) B 44 E0 N c54_54 s = regX (runA E C B 44 r54_16 r54_16.toList s) (fun s => gcM E0 [42] (forget s.1 [42], s.2)) := x_reg (ops := r54_16) (by rfl) (by rfl) s
theorem r54_16_l : r54_16.toList = [o54_16_0, o54_16_1] := nrfl rfl
theorem s54_16_0 : stepA E C B 44 r54_16 o54_16_0 (φ, H) = stp (some 42) φ H (just (aBin E.T .add 3 (fget φ 26) (.int .i64 1))) := nrfl rfl
theorem s54_16_1 : stepA E C B 44 r54_16 o54_16_1 (φ, H) = some (fput φ 26 (fget φ 42), H) := nrfl rfl
theorem x54_32 : execA E C (fg 54) B 44 E0 N c54_32 s = seqX (execA E C (fg 54) B 44 E0 N c54_33 s) (execA E C (fg 54) B 44 E0 N c54_54) := x_seq (by rfl) s
theorem x54_28 : execA E C (fg 54) B 44 E0 N c54_28 s = seqX (execA E C (fg 54) B 44 E0 N c54_29 s) (execA E C (fg 54) B 44 E0 N c54_32) := x_seq (by rfl) s
theorem x54_26 : execA E C (fg 54) B 44 E0 N c54_26 s = seqX (execA E C (fg 54) B 44 E0 N c54_27 s) (execA E C (fg 54) B 44 E0 N c54_28) := x_seq (by rfl) s
theorem x54_25 : execA E C (fg 54) B 44 E0 N c54_25 s = iterA (execA E C (fg 54) B 44 E0 N c54_26) (headA E0) N s := x_loop (by rfl) s
theorem x54_24 : execA E C (fg 54) B 44 E0 N c54_24 s = blockX 1 (fun s => (forget s.1 [1, 24, 25, 26, 27], s.2)) (execA E C (fg 54) B 44 E0 N c54_25 s) := x_block (by rfl) (by rfl) s
theorem x54_22 : execA E C (fg 54) B 44 E0 N c54_22 s = seqX (execA E C (fg 54) B 44 E0 N c54_23 s) (execA E C (fg 54) B 44 E0 N c54_24) := x_seq (by rfl) s
noncomputable def c54_55 : Code := kR c54_21
noncomputable def c54_56 : Code := kL c54_55
noncomputable def r54_17 : Array Oper := kO c54_56
noncomputable def o54_17_0 : Oper := opN r54_17 0
noncomputable def o54_17_1 : Oper := opN r54_17 1
noncomputable def o54_17_2 : Oper := opN r54_17 2
theorem x54_56 : execA E C (fg 54) B 44 E0 N c54_56 s = regX (runA E C B 44 r54_17 r54_17.toList s) (fun s => gcM E0 [7, 43] (forget s.1 [7, 43], s.2)) := x_reg (ops := r54_17) (by rfl) (by rfl) s
theorem r54_17_l : r54_17.toList = [o54_17_0, o54_17_1, o54_17_2] := nrfl rfl
theorem s54_17_0 : stepA E C B 44 r54_17 o54_17_0 (φ, H) = some (fput φ 43 (fget φ 7), H) := nrfl rfl
theorem s54_17_1 : stepA E C B 44 r54_17 o54_17_1 (φ, H) = some (fput φ 4 (fget φ 43), H) := nrfl rfl
theorem s54_17_2 : stepA E C B 44 r54_17 o54_17_2 (φ, H) = some (fput φ 5 (.int .i64 0), H) := nrfl rfl
noncomputable def c54_57 : Code := kR c54_55
theorem x54_57 : execA E C (fg 54) B 44 E0 N c54_57 s = some (.ret, s) := x_ret (by rfl) s
theorem x54_55 : execA E C (fg 54) B 44 E0 N c54_55 s = seqX (execA E C (fg 54) B 44 E0 N c54_56 s) (execA E C (fg 54) B 44 E0 N c54_57) := x_seq (by rfl) s
theorem x54_21 : execA E C (fg 54) B 44 E0 N c54_21 s = seqX (execA E C (fg 54) B 44 E0 N c54_22 s) (execA E C (fg 54) B 44 E0 N c54_55) := x_seq (by rfl) s
theorem x54_19 : execA E C (fg 54) B 44 E0 N c54_19 s = seqX (execA E C (fg 54) B 44 E0 N c54_20 s) (execA E C (fg 54) B 44 E0 N c54_21) := x_seq (by rfl) s
theorem x54_4 : execA E C (fg 54) B 44 E0 N c54_4 s = seqX (execA E C (fg 54) B 44 E0 N c54_5 s) (execA E C (fg 54) B 44 E0 N c54_19) := x_seq (by rfl) s
theorem x54_2 : execA E C (fg 54) B 44 E0 N c54_2 s = seqX (execA E C (fg 54) B 44 E0 N c54_3 s) (execA E C (fg 54) B 44 E0 N c54_4) := x_seq (by rfl) s
theorem x54_0 : execA E C (fg 54) B 44 E0 N c54_0 s = seqX (execA E C (fg 54) B 44 E0 N c54_1 s) (execA E C (fg 54) B 44 E0 N c54_2) := x_seq (by rfl) s
theorem fi_54 : fInfo E 54 = some ⟨44, #[.tmp 4, .tmp 5], c54_0⟩ := nrfl rfl
theorem b_54 (args : List AV) : bodyA E C fg N 54 args H B = bodyX E [.tmp 4, .tmp 5] (execA E C (fg 54) B 44 H N c54_0 (frame0 args 0 [], H)) := bodyA_eq fi_54 args H
abbrev F_54 := And.intro (And.intro (And.intro (And.intro (And.intro (And.intro @x54_1 (And.intro @r54_0_l @s54_0_0)) (And.intro (And.intro @s54_0_1 @x54_3) (And.intro @r54_1_l @s54_1_0))) (And.intro (And.intro (And.intro @s54_1_1 @s54_1_2) (And.intro @x54_7 @r54_2_l)) (And.intro (And.intro @s54_2_0 @s54_2_1) (And.intro @s54_2_2 @x54_10)))) (And.intro (And.intro (And.intro (And.intro @r54_3_l @s54_3_0) (And.intro @s54_3_1 @s54_3_2)) (And.intro (And.intro @x54_11 @x54_9) (And.intro @x54_13 @r54_4_l))) (And.intro (And.intro (And.intro @s54_4_0 @s54_4_1) (And.intro @s54_4_2 @s54_4_3)) (And.intro (And.intro @s54_4_4 @s54_4_5) (And.intro @s54_4_6 @x54_16))))) (And.intro (And.intro (And.intro (And.intro (And.intro @r54_5_l @s54_5_0) (And.intro @s54_5_1 @x54_17)) (And.intro (And.intro @x54_15 @x54_18) (And.intro @x54_14 @x54_12))) (And.intro (And.intro (And.intro @x54_8 @x54_6) (And.intro @x54_5 @x54_20)) (And.intro (And.intro @r54_6_l @s54_6_0) (And.intro @x54_23 @r54_7_l)))) (And.intro (And.intro (And.intro (And.intro @s54_7_0 @s54_7_1) (And.intro @s54_7_2 @x54_27)) (And.intro (And.intro @r54_8_l @s54_8_0) (And.intro @x54_30 @x54_31))) (And.intro (And.intro (And.intro @x54_29 @x54_35) (And.intro @r54_9_l @s54_9_0)) (And.intro (And.intro @s54_9_1 @s54_9_2) (And.intro @x54_37 @r54_10_l)))))) (And.intro (And.intro (And.intro (And.intro (And.intro @s54_10_0 (And.intro @s54_10_1 @x54_40)) (And.intro (And.intro @r54_11_l @s54_11_0) (And.intro @s54_11_1 @s54_11_2))) (And.intro (And.intro (And.intro @x54_44 @r54_12_l) (And.intro @s54_12_0 @x54_47)) (And.intro (And.intro @x54_48 @x54_46) (And.intro @x54_51 @r54_13_l)))) (And.intro (And.intro (And.intro (And.intro @s54_13_0 @s54_13_1) (And.intro @s54_13_2 @s54_13_3)) (And.intro (And.intro @x54_50 @x54_52) (And.intro @r54_14_l @s54_14_0))) (And.intro (And.intro (And.intro @s54_14_1 @x54_49) (And.intro @x54_45 @x54_43)) (And.intro (And.intro @x54_42 @x54_41) (And.intro @x54_39 @x54_53))))) (And.intro (And.intro (And.intro (And.intro (And.intro @r54_15_l @s54_15_0) (And.intro @s54_15_1 @s54_15_2)) (And.intro (And.intro @s54_15_3 @x54_38) (And.intro @x54_36 @x54_34))) (And.intro (And.intro (And.intro @x54_33 @x54_54) (And.intro @r54_16_l @s54_16_0)) (And.intro (And.intro @s54_16_1 @x54_32) (And.intro @x54_28 @x54_26)))) (And.intro (And.intro (And.intro (And.intro @x54_25 @x54_24) (And.intro @x54_22 @x54_56)) (And.intro (And.intro @r54_17_l @s54_17_0) (And.intro @s54_17_1 @s54_17_2))) (And.intro (And.intro (And.intro @x54_57 @x54_55) (And.intro @x54_21 @x54_19)) (And.intro (And.intro @x54_4 @x54_2) (And.intro @x54_0 @b_54))))))
end Go.AM.Ytfmnoohhhokicaa
end

section
namespace Go.AM.Ytfmnoohhhokicaa
open Go Go.AM Go.AM.Rub
set_option maxRecDepth 100000
set_option maxHeartbeats 4000000
theorem pw_b {x : Int} (h : 0 ≤ x ∧ x ≤ 8) : ∀ k : Nat, k ≤ 4 → 0 ≤ pw x k ∧ pw x k ≤ 4096 ∧ (k ≤ 3 → pw x k ≤ 512) ∧ (k ≤ 2 → pw x k ≤ 64) ∧ (k ≤ 1 → pw x k ≤ 8) ∧ (k = 0 → pw x k ≤ 1)
  | 0, _ => by simp [pw]
  | k + 1, hk => by
    obtain ⟨h1, h2, h3, h4, h5, h6⟩ := pw_b h k (by omega)
    simp only [pw]
    have n1 := Int.mul_nonneg h1 h.1
    have up : ∀ M : Int, pw x k ≤ M → 0 ≤ M → pw x k * x ≤ M * 8 := fun M hM h0 => Int.mul_le_mul hM h.2 h.1 h0
    have := up 4096 h2 (by omega)
    refine ⟨n1, ?_, fun hh => ?_, fun hh => ?_, fun hh => ?_, fun hh => by omega⟩
    · have := up 512 (h3 (by omega)) (by omega); omega
    · have := up 64 (h4 (by omega)) (by omega); omega
    · have := up 8 (h5 (by omega)) (by omega); omega
    · have := up 1 (h6 (by omega)) (by omega); omega
def poF (l : List Int) (p : Nat) (k : Nat) : Int := pw (rowF l k) p
theorem po_b {n : Nat} {l : List Int} (h : Rw n l) {p : Nat} (hp : p ≤ 4) : ∀ k, k ≤ n → 0 ≤ ps (poF l p) k ∧ ps (poF l p) k ≤ 4096 * k
  | 0, _ => by simp [ps]
  | k + 1, hk => by
    have := po_b h hp k (by omega)
    have := pw_b (rw_b h (k := k) (by omega)) p hp
    simp only [ps, poF] at *; omega
def powE (l : List Int) (p : Int) : Int := if chkR l ≠ 0 then chkR l else if p < 1 ∨ p > 4 then 1 else 0
def powV (l : List Int) (p : Int) : Int := if powE l p = 0 then ps (poF l p.toNat) l.length else 0
abbrev pwI (a : AV) (p : Nat) (n i : Nat) (s x : Int) (j : Nat) : St := ([(33, .int .i64 j), (32, .int .i64 ((p : Int) - 1)), (26, .int .i64 i), (25, .int .i64 n), (24, a), (10, .int .i64 (pw x (j + 1))), (9, .int .i64 x), (7, .int .i64 s), (1, .int .i64 p)], [])
abbrev pwS (a : AV) (p : Nat) (n i : Nat) (s : Int) : St := ([(26, .int .i64 i), (25, .int .i64 n), (24, a), (7, .int .i64 s), (1, .int .i64 p)], [])
theorem pw_go {C : Callee} {n : Nat} {l : List Int} {ex : Bool} (h : Rw n l) (h6 : n ≤ 6) {p : Nat} (h1 : 1 ≤ p) (h4 : p ≤ 4) (i : Nat) (hi : i < n) :
    ∃ s', (execA E C (fg 54) 0 44 [] 1000000 c54_26) (pwS (.imm (ics l) n ex) p n i (ps (poF l p) i)) = some (.normal, s') ∧ headA [] s' = pwS (.imm (ics l) n ex) p n (i + 1) (ps (poF l p) (i + 1)) := by
  have hl := h.len
  have hlen : (ics l).length = n := by rw [ics_length, hl]
  have hat := icr_at (l := l) (k := i) (by omega)
  have bx := rw_b h hi
  have bs := po_b h h4 i (by omega)
  have hpx := pw_b bx p h4
  have hps : ps (poF l p) (i + 1) = ps (poF l p) i + pw (rowF l i) p := rfl
  rw [hps]
  generalize ps (poF l p) i = s at *
  generalize rowF l i = x at *
  have g1 : (i : Int) < n := by omega
  have w0 : wrp .i64 ((p : Int) - 1) = (p : Int) - 1 := wrp64 (by omega)
  have hloop := loopM (f := (execA E C (fg 54) 0 44 [] 1000000 c54_43)) (E0 := []) (pwI (.imm (ics l) n ex) p n i s x) (p - 1) (fun j hj => by
      have hq := pw_b bx (j + 1) (by omega)
      have hq2 := pw_b bx (j + 1 + 1) (by omega)
      have e : pw x (j + 1 + 1) = pw x (j + 1) * x := rfl
      have w1 : wrp .i64 (pw x (j + 1) * x) = pw x (j + 1) * x := by rw [← e]; exact wrp64 (by omega)
      have g2 : (j : Int) < (p : Int) - 1 := by omega
      simp only [pwI, e]
      generalize pw x (j + 1) = y at *
      simp (disch := omega) only [ZF, stp, just, Rd.bind, Rd.run, Rd.opt, upds, aBin, aInt, Nat.reduceBEq, Nat.reduceEqDiff, Nat.reduceLeDiff, ↓reduceIte, F_54, g2, w1, wrp_succ (show j < 1000000 by omega)]
      exact ⟨_, rfl, rfl⟩) rfl (by omega)
    (e := .exit 3) (se := ([(34, .bool false), (33, .int .i64 ((p - 1 : Nat) : Int)), (32, .int .i64 ((p : Int) - 1)), (26, .int .i64 i), (25, .int .i64 n), (24, .imm (ics l) n ex), (10, .int .i64 (pw x p)), (9, .int .i64 x), (7, .int .i64 s), (1, .int .i64 p)], []))
    (by
      have e : pw x (p - 1 + 1) = pw x p := by rw [show p - 1 + 1 = p by omega]
      have g2 : ¬ ((p - 1 : Nat) : Int) < (p : Int) - 1 := by omega
      simp only [pwI, e]
      simp (disch := omega) only [ZF, stp, just, Rd.bind, Rd.run, Rd.opt, upds, aBin, aInt, Nat.reduceEqDiff, Nat.reduceLeDiff, ↓reduceIte, F_54, g2]) (by simp)
  have e1 : pw x (0 + 1) = x := by simp [pw]
  simp only [pwI, e1, cl0] at hloop
  have w2 : wrp .i64 (s + pw x p) = s + pw x p := wrp64 (by omega)
  generalize pw x p = y at *
  simp (disch := omega) only [ZF, stp, just, Rd.bind, Rd.run, Rd.opt, upds, tsz, rdCells, aLoad, aIndexAddr, aNum, aBin, aInt, Nat.reduceLT, Nat.reduceBEq, Nat.reduceEqDiff, Nat.reduceLeDiff, ↓reduceIte, ZT, F_54, g1, hat, hlen, w0, w2, hloop, wrp_succ (show i < 1000000 by omega)]
  exact ⟨_, rfl, rfl⟩
theorem power_run {d : Nat} {l : List Int} {a : AV} {p : Int} (ha : IV l a) (hl : l.length ≤ 1000) : rsOf (bodyA E (kF (d + 1)) fg 1000000 54 [a, .int .i64 p] [] 0) = some (.tup [.int .i64 (powV l p), .int .i64 (powE l p)]) := by
  have hc := fun (site : Nat → Nat) seen => check_call (d := d) (site := site) (seen := seen) ha hl
  have sn := iv_snap ha
  unfold powV
  by_cases h0 : chkR l = 0
  · rw [h0] at hc
    obtain ⟨h1, h6, hr⟩ := chkR_zero.1 h0
    obtain ⟨ex, rfl⟩ := iv_ne ha h1
    by_cases hp : p < 1 ∨ p > 4
    · have e : powE l p = 1 := by unfold powE; rw [if_neg (fun e => e h0), if_pos hp]
      rw [e, if_neg (by decide)]
      generalize kF (d + 1) = C at *
      by_cases c1 : p < 1
      · simp (disch := omega) only [ZF, ↓gd, frame0, stp, opPick, just, Rd.bind, Rd.run, Rd.opt, upds, resA, resL, aBin, aInt, Nat.reduceBEq, Nat.reduceEqDiff, Nat.reduceLeDiff, ↓reduceIte, reduceCtorEq, aCall, snaps, F_54, hc, c1]
      · have c2 : p > 4 := by omega
        simp (disch := omega) only [ZF, ↓gd, frame0, stp, opPick, just, Rd.bind, Rd.run, Rd.opt, upds, resA, resL, aBin, aInt, Nat.reduceBEq, Nat.reduceEqDiff, Nat.reduceLeDiff, ↓reduceIte, reduceCtorEq, aCall, snaps, F_54, hc, c1, c2]
    · have e : powE l p = 0 := by unfold powE; rw [if_neg (fun e => e h0), if_neg hp]
      rw [e, if_pos rfl]
      obtain ⟨q, rfl⟩ : ∃ q : Nat, p = q := ⟨p.toNat, by omega⟩
      rw [Int.toNat_natCast]
      have hlen := ics_length l
      have hloop := loopM (f := execA E (kF (d + 1)) (fg 54) 0 44 [] 1000000 c54_26) (E0 := []) (fun i => pwS (.imm (ics l) l.length ex) q l.length i (ps (poF l q) i)) l.length (fun i hi => pw_go hr h6 (by omega) (by omega) i hi) rfl (by omega)
        (e := .exit 1) (se := ([(27, .bool false), (26, .int .i64 l.length), (25, .int .i64 l.length), (24, .imm (ics l) l.length ex), (7, .int .i64 (ps (poF l q) l.length)), (1, .int .i64 q)], []))
        (by
          simp only [pwS]
          simp (disch := omega) only [ZF, stp, just, Rd.bind, Rd.run, Rd.opt, upds, aBin, aInt, Nat.reduceEqDiff, Nat.reduceLeDiff, ↓reduceIte, F_54]) (by simp)
      have e0 : ps (poF l q) 0 = 0 := rfl
      simp only [pwS, e0, cl0] at hloop
      have c1 : ¬ (q : Int) < 1 := by omega
      have c2 : ¬ (q : Int) > 4 := by omega
      generalize kF (d + 1) = C at *
      simp (disch := omega) only [ZF, ↓gd, frame0, stp, opPick, just, Rd.bind, Rd.run, Rd.opt, upds, resA, resL, aLen, aBuiltin, aBin, aInt, Nat.reduceBEq, Nat.reduceEqDiff, Nat.reduceLeDiff, ↓reduceIte, reduceCtorEq, aCall, snaps, ZT, F_54, hc, c1, c2, hloop]
  · have e : powE l p = chkR l := if_pos h0
    rw [e, if_neg h0]
    generalize kF (d + 1) = C at *
    generalize chkR l = z at *
    have h0' : (z == 0) = false := by rw [beq_eq_false_iff_ne]; exact h0
    simp (disch := omega) only [ZF, ↓gd, frame0, stp, opPick, just, Rd.bind, Rd.run, Rd.opt, upds, resA, resL, aBin, aInt, Nat.reduceBEq, Nat.reduceEqDiff, Nat.reduceLeDiff, ↓reduceIte, reduceCtorEq, aCall, snaps, F_54, hc, h0, sn 198]
theorem power_call {d : Nat} {site : Nat → Nat} {seen : List Nat} {l : List Int} {a : AV} {p : Int} (ha : IV l a) (hl : l.length ≤ 1000) : aBack site true seen (thaw (kF (d + 2)) 54 [a, .int .i64 p] [] 0) = .pure (.tup [.int .i64 (powV l p), .int .i64 (powE l p)], []) :=
  aBack_ints (kF_ex rfl (power_run ha hl))
theorem powV_sum {l : List Int} {n : Nat} (h : Rw n l) (h0 : 0 < n) (h6 : n ≤ 6) {p : Nat} (h1 : 1 ≤ p) (h4 : p ≤ 4) : powE l p = 0 ∧ powV l p = sumG (fun x => pw x p) l := by
  have hl := h.len
  have hc : chkR l = 0 := by rw [chkR_zero]; exact ⟨by omega, by omega, by rw [hl]; exact h⟩
  have e : powE l p = 0 := by unfold powE; rw [if_neg (fun e => e hc), if_neg (by omega)]
  refine ⟨e, ?_⟩
  unfold powV
  rw [if_pos e, Int.toNat_natCast, sumG_ps]
  rfl
end Go.AM.Ytfmnoohhhokicaa
end

section
namespace Go.AM.Ytfmnoohhhokicaa
open Go Go.AM Go.AM.Rub
set_option maxRecDepth 100000
set_option maxHeartbeats 8000000
abbrev xbB (_ b : List Int) (n q i : Nat) (x e y f s : Int) : AFr := [(55, .int .i64 i), (54, .int .i64 n), (53, .ref 23 0 n n n 1 false), (14, .int .i64 s), (13, .int .i64 f), (12, .int .i64 y), (11, .int .i64 e), (10, .int .i64 x), (9, .int .i64 q), (8, .imm (ics b) n false), (5, .ref 23 0 n n n 1 false)]
abbrev xbH (a : List Int) : AHeap := [(23, ⟨.froz, ics a⟩)]
theorem xb_mid {C : Callee} {a b : List Int} {n : Nat} (h : Rw n a) (h6 : n ≤ 6) {q : Nat} (hq : q ≤ 4) (x e y f : Int) (i : Nat) (hi : i < n) :
    ∃ s', (execA E C (fg 14) 0 129 [] 1000000 c14_32) (xbB a b n q i x e y f (ps (poF a q) i), xbH a) = some (.normal, s') ∧ headA [] s' = (xbB a b n q (i + 1) x e y f (ps (poF a q) (i + 1)), xbH a) := by
  have hl := h.len
  have hlen : (ics a).length = n := by rw [ics_length, hl]
  have hat := icr_at (l := a) (k := i) (by omega)
  have bx := rw_b h hi
  have bs := po_b h hq i (by omega)
  have hpx := pw_b bx q hq
  have hps : ps (poF a q) (i + 1) = ps (poF a q) i + pw (rowF a i) q := rfl
  rw [hps]
  generalize ps (poF a q) i = s at *
  generalize rowF a i = z at *
  have g1 : (i : Int) < n := by omega
  have hloop := loopM (f := (execA E C (fg 14) 0 129 [] 1000000 c14_49)) (E0 := []) (fun j => ([(60, .int .i64 j), (59, .int .i64 q), (55, .int .i64 i), (54, .int .i64 n), (53, .ref 23 0 n n n 1 false), (17, .int .i64 (pw z j)), (16, .int .i64 z), (14, .int .i64 s), (13, .int .i64 f), (12, .int .i64 y), (11, .int .i64 e), (10, .int .i64 x), (9, .int .i64 q), (8, .imm (ics b) n false), (5, .ref 23 0 n n n 1 false)], [(23, ⟨.froz, ics a⟩)])) q (fun j hj => by
      have hq2 := pw_b bx (j + 1) (by omega)
      have e : pw z (j + 1) = pw z j * z := rfl
      rw [e] at hq2
      have w1 : wrp .i64 (pw z j * z) = pw z j * z := wrp64 (by omega)
      have g2 : (j : Int) < (q : Int) := by omega
      simp only [e]
      generalize pw z j = u at *
      simp (disch := omega) only [ZF, stp, just, Rd.bind, Rd.run, Rd.opt, upds, aBin, aInt, Nat.reduceBEq, Nat.reduceEqDiff, Nat.reduceLeDiff, ↓reduceIte, F_14, g2, w1, wrp_succ (show j < 1000000 by omega)]
      exact ⟨_, rfl, rfl⟩) rfl (by omega)
    (e := .exit 4) (se := ([(61, .bool false), (60, .int .i64 q), (59, .int .i64 q), (55, .int .i64 i), (54, .int .i64 n), (53, .ref 23 0 n n n 1 false), (17, .int .i64 (pw z q)), (16, .int .i64 z), (14, .int .i64 s), (13, .int .i64 f), (12, .int .i64 y), (11, .int .i64 e), (10, .int .i64 x), (9, .int .i64 q), (8, .imm (ics b) n false), (5, .ref 23 0 n n n 1 false)], [(23, ⟨.froz, ics a⟩)]))
    (by
      simp (disch := omega) only [ZF, stp, just, Rd.bind, Rd.run, Rd.opt, upds, aBin, aInt, Nat.reduceEqDiff, Nat.reduceLeDiff, ↓reduceIte, F_14]) (by simp)
  have e1 : pw z 0 = 1 := rfl
  simp only [e1, cl0] at hloop
  have w2 : wrp .i64 (s + pw z q) = s + pw z q := wrp64 (by omega)
  generalize pw z q = u at *
  simp (disch := omega) only [ZF, stp, just, Rd.bind, Rd.run, Rd.opt, upds, tsz, rdCells, aLoad, aIndexAddr, aNum, aBin, aInt, Nat.reduceLT, Nat.reduceBEq, Nat.reduceEqDiff, Nat.reduceLeDiff, ↓reduceIte, ZT, F_14, xbB, xbH, g1, hat, hlen, w2, hloop, wrp_succ (show i < 1000000 by omega)]
  exact ⟨_, rfl, rfl⟩
abbrev xbS (a b : List Int) (n k : Nat) : St := ([(9, .int .i64 ((k + 1 : Nat) : Int)), (8, .imm (ics b) n false), (5, .ref 23 0 n n n 1 false)], [(23, ⟨.froz, ics a⟩)])
structure XbC (C : Callee) (a b : List Int) (n : Nat) : Prop where
  pa : ∀ (site : Nat → Nat) seen p x, aBack site true seen (thaw C 54 [.imm (ics a) n x, .int .i64 p] [] 0) = .pure (.tup [.int .i64 (powV a p), .int .i64 (powE a p)], [])
  pb : ∀ (site : Nat → Nat) seen p x, aBack site true seen (thaw C 54 [.imm (ics b) n x, .int .i64 p] [] 0) = .pure (.tup [.int .i64 (powV b p), .int .i64 (powE b p)], [])
  sm : ∀ (site : Nat → Nat) seen x y, aBack site true seen (thaw C 24 [.imm (ics a) n x, .imm (ics b) n y] [] 0) = .pure (.bool (decide (a = b)), [])
theorem xb_go {C : Callee} {a b : List Int} {n : Nat} (hC : XbC C a b n) (h : Rw n a) (hb : Rw n b) (h0 : 0 < n) (h6 : n ≤ 6) (hm : MajL a b) (k : Nat) (hk : k < 4) :
    ∃ s', (execA E C (fg 14) 0 129 [] 1000000 c14_13) (xbS a b n k) = some (.normal, s') ∧ headA [] s' = xbS a b n (k + 1) := by
  have hl := h.len
  have hlen : (ics a).length = n := by rw [ics_length, hl]
  have hlenb : (ics b).length = n := by rw [ics_length, hb.len]
  have hta : List.take n (ics a) = ics a := List.take_of_length_le (by omega)
  obtain ⟨ea, va⟩ := powV_sum h h0 h6 (p := k + 1) (by omega) (by omega)
  obtain ⟨eb, vb⟩ := powV_sum hb h0 h6 (p := k + 1) (by omega) (by omega)
  have hw : ps (poF a (k + 1)) n = powV a ((k + 1 : Nat) : Int) := by
    unfold powV
    rw [if_pos ea, Int.toNat_natCast, hl]
  have pa := fun (site : Nat → Nat) seen x => hC.pa site seen ((k + 1 : Nat) : Int) x
  have pb := fun (site : Nat → Nat) seen x => hC.pb site seen ((k + 1 : Nat) : Int) x
  have sm := hC.sm
  rw [ea] at pa
  rw [eb] at pb
  have hord : (a = b → powV a ((k + 1 : Nat) : Int) = powV b ((k + 1 : Nat) : Int)) ∧ (k = 0 → powV a ((k + 1 : Nat) : Int) = powV b ((k + 1 : Nat) : Int)) ∧ (0 < k → a ≠ b → powV b ((k + 1 : Nat) : Int) < powV a ((k + 1 : Nat) : Int)) := by
    refine ⟨fun e => by rw [e], fun e => ?_, fun hp hne => ?_⟩
    · subst e
      rw [va, vb]
      have ht := majL_tot (by rw [hl, hb.len]) hm
      have e1 : ∀ l : List Int, sumG (fun x => pw x (0 + 1)) l = totL l := by
        intro l
        induction l with
        | nil => rfl
        | cons x l ih => simp only [sumG, totL, ih]; simp [pw]
      rw [e1, e1, ht]
    · rw [va, vb]
      exact conv_lt (pw_conv (by omega) (by omega)) h hb hm hne
  generalize powV a ((k + 1 : Nat) : Int) = X at *
  generalize powV b ((k + 1 : Nat) : Int) = Y at *
  have hloop := loopM (f := (execA E C (fg 14) 0 129 [] 1000000 c14_32)) (E0 := []) (fun i => (xbB a b n (k + 1) i X 0 Y 0 (ps (poF a (k + 1)) i), xbH a)) n (fun i hi => xb_mid h h6 (by omega) X 0 Y 0 i hi) rfl (by omega)
    (e := .exit 2) (se := ([(56, .bool false), (55, .int .i64 n), (54, .int .i64 n), (53, .ref 23 0 n n n 1 false), (14, .int .i64 X), (13, .int .i64 0), (12, .int .i64 Y), (11, .int .i64 0), (10, .int .i64 X), (9, .int .i64 ((k + 1 : Nat) : Int)), (8, .imm (ics b) n false), (5, .ref 23 0 n n n 1 false)], [(23, ⟨.froz, ics a⟩)]))
    (by
      simp only [xbB, xbH, hw]
      simp (disch := omega) only [ZF, stp, just, Rd.bind, Rd.run, Rd.opt, upds, aBin, aInt, Nat.reduceEqDiff, Nat.reduceLeDiff, ↓reduceIte, F_14]) (by simp)
  have e0 : ps (poF a (k + 1)) 0 = 0 := rfl
  simp only [xbB, xbH, e0, cl0] at hloop
  simp only [xbS]
  obtain ⟨o1, o2, o3⟩ := hord
  have g1 : ((k + 1 : Nat) : Int) ≤ 4 := by omega
  by_cases hk0 : k = 0
  · have e := o2 hk0
    subst e
    subst hk0
    have z1 : ((0 + 1 : Nat) : Int) = 1 := rfl
    simp only [z1] at *
    simp (disch := omega) only [ZF, ↓gd, stp, opPick, justO, just, Rd.bind, Rd.run, Rd.opt, upds, opExtract, aLen, aBuiltin, aBin, aInt, Nat.reduceAdd, Nat.reduceBEq, Nat.reduceEqDiff, Nat.reduceLeDiff, ↓reduceIte, reduceCtorEq, aCall, snaps, ZT, F_14, g1, hlen, hta, pa, pb, hloop]
    exact ⟨_, rfl, rfl⟩
  · have g2 : ¬ ((k + 1 : Nat) : Int) = 1 := by omega
    have g2' : (((k + 1 : Nat) : Int) == 1) = false := by rw [beq_eq_false_iff_ne]; exact g2
    have g3 : ((k + 1 : Nat) : Int) > 1 := by omega
    by_cases hab : a = b
    · have e := o1 hab
      subst e
      rw [decide_eq_true hab] at sm
      simp (disch := omega) only [ZF, ↓gd, stp, opPick, justO, just, Rd.bind, Rd.run, Rd.opt, upds, opExtract, aLen, aBuiltin, aBin, aInt, Nat.reduceBEq, Nat.reduceEqDiff, Nat.reduceLeDiff, ↓reduceIte, aUn, aCall, snaps, ZT, F_14, g1, g2', g3, hlen, hta, pa, pb, sm, hloop, wrp_succ (show k + 1 < 1000000 by omega)]
      exact ⟨_, rfl, rfl⟩
    · have hlt := o3 (by omega) hab
      rw [decide_eq_false hab] at sm
      have g4 : ¬ X ≤ Y := by omega
      simp (disch := omega) only [ZF, ↓gd, stp, opPick, justO, just, Rd.bind, Rd.run, Rd.opt, upds, opExtract, aLen, aBuiltin, aBin, aInt, Nat.reduceBEq, Nat.reduceEqDiff, Nat.reduceLeDiff, ↓reduceIte, aUn, aCall, snaps, ZT, F_14, g1, g2', g3, g4, hlen, hta, pa, pb, sm, hloop, wrp_succ (show k + 1 < 1000000 by omega)]
      exact ⟨_, rfl, rfl⟩
theorem rubPowers_law {zs : List Int} {pick : Int} (hz : zs.length = 8 ∧ ∀ (i : Nat) (z : Int), zs[i]? = some z → 0 ≤ z ∧ z ≤ 255) (hp : 0 ≤ pick ∧ pick ≤ 255) (hw : ∃ H0, kF 40 17 [] [] 0 = some (.bool true, H0)) :
    rsOf (bodyA E (kF 40) fg 1000000 14 [.agg (zs.map (AV.int .u8)), .int .u8 pick] [] 0) = some (.bool true) := by
  have hwk := fun (site : Nat → Nat) seen => aBack_bool (site := site) (seen := seen) hw
  have pl := pl_of hz
  obtain ⟨n0, n1, n2⟩ := mdN_b (m := 6) pl (by omega) (by omega)
  obtain ⟨ra, _⟩ := mdR_row (m := 6) (t := 8) pl (by omega) (by omega) (by omega) (by omega)
  have hmd := fun (site : Nat → Nat) seen => made_call (d := 33) (site := site) (seen := seen) (m := 6) (t := 8) pl (by omega) (by omega) (by omega) (by omega)
  have hre := fun (site : Nat → Nat) seen hs => reached_call (d := 32) (site := site) (seen := seen) ra n0 (by omega) hs
  have ok := reL_ok ra
  have hlz : (u8s zs).length = 8 := by rw [u8s_len, pl.len]
  have htz : List.take 8 (u8s zs) = u8s zs := List.take_of_length_le (by omega)
  have sp := fun d => snaps_flat (u8s zs) (d + 10) (by simp [u8s]) (by rw [hlz]; omega)
  have ez : zs.map (AV.int .u8) = u8s zs := rfl
  rw [ez]
  generalize mdR zs 6 8 = a at *
  generalize mdN zs 6 = n at *
  have h9 : 9 ^ n ≤ 531441 := by have := Nat.pow_le_pow_right (n := 9) (show 0 < 9 by omega) (show n ≤ 6 by omega); omega
  have okl := ok.len
  have okp := ok.pos
  have tb := tmod_b (a := pick) (b := (reL a).length) hp.1 (by omega)
  have hj : pick.tmod (reL a).length = ((pick.tmod (reL a).length).toNat : Int) := by omega
  have hjl : (pick.tmod (reL a).length).toNat < (reL a).length := by omega
  generalize (pick.tmod (reL a).length).toNat = j at *
  have hbj : (reL a)[j]? = some (reL a)[j] := List.getElem?_eq_getElem hjl
  obtain ⟨rb, hm⟩ := (ok.mem _).1 (List.mem_of_getElem? hbj)
  have hat := lcs_at hbj
  rw [rb.len] at hat
  generalize (reL a)[j]'hjl = b at *
  have iva : ∀ x, IV a (.imm (ics a) n x) := fun x => .inr ⟨x, by rw [ra.len]⟩
  have ivb : ∀ x, IV b (.imm (ics b) n x) := fun x => .inr ⟨x, by rw [rb.len]⟩
  have hXC : XbC (kF 40) a b n := ⟨fun site seen p x => power_call (d := 38) (iva x) (by rw [ra.len]; omega), fun site seen p x => power_call (d := 38) (ivb x) (by rw [rb.len]; omega), fun site seen x y => same_call (d := 39) (iva x) (ivb y) (by rw [ra.len]; omega)⟩
  have p0 := fun (site : Nat → Nat) seen x => hXC.pa site seen 0 x
  have p5 := fun (site : Nat → Nat) seen x => hXC.pa site seen 5 x
  have hch : chkR a = 0 := by rw [chkR_zero, ra.len]; exact ⟨n0, by omega, ra⟩
  have e0 : powE a 0 = 1 := by unfold powE; rw [if_neg (fun e => e hch)]; rfl
  have e5 : powE a 5 = 1 := by unfold powE; rw [if_neg (fun e => e hch)]; rfl
  rw [e0] at p0
  rw [e5] at p5
  have hloop := loopMS (f := execA E (kF 40) (fg 14) 0 129 [] 1000000 c14_13) (E0 := []) (s0 := ([(9, .int .i64 1), (8, .imm (ics b) n false), (5, .ref 23 0 n n n 1 false)], [(2, ⟨.box, u8s zs⟩), (23, ⟨.froz, ics a⟩), (26, ⟨.row, lcs (reL a)⟩), (155, ⟨.row, ics (farL a (reL a))⟩)])) (xbS a b n) 4 (fun k hk => xb_go hXC ra rb n0 (by omega) hm k hk) rfl (by omega)
    (e := .exit 0) (se := ([(38, .bool false), (9, .int .i64 5), (8, .imm (ics b) n false), (5, .ref 23 0 n n n 1 false)], [(23, ⟨.froz, ics a⟩)]))
    (by
      have z5 : ((4 + 1 : Nat) : Int) = 5 := rfl
      simp only [xbS, z5]
      simp (disch := omega) only [ZF, stp, just, Rd.bind, Rd.run, Rd.opt, upds, aBin, aInt, Nat.reduceBEq, Nat.reduceEqDiff, Nat.reduceLeDiff, ↓reduceIte, Int.reduceLE, F_14]) (by simp)
  have hla : (ics a).length = n := by rw [ics_length, ra.len]
  have hta : List.take n (ics a) = ics a := List.take_of_length_le (by omega)
  have hll := lcs_length (reL a)
  have hfl : (ics (farL a (reL a))).length = (reL a).length := by rw [ics_length, farL_len]
  have w1 : wrp .i64 pick = pick := wrp64 (by omega)
  have m0 : ¬ ((reL a).length : Int) = 0 := by omega
  have g1 : (j : Int) < (reL a).length := by omega
  generalize powV a 0 = v0 at *
  generalize powV a 5 = v5 at *
  generalize kF 40 = C at *
  generalize ics (farL a (reL a)) = F at *
  generalize lcs (reL a) = A at *
  generalize (reL a).length = m at *
  generalize u8s zs = Z at *
  generalize ics b = IB at *
  generalize ics a = IA at *
  simp (disch := omega) only [ZF, ↓gd, frame0, stp, opPick, opBox, justO, just, Rd.bind, Rd.run, Rd.opt, upds, acells, tsz, rdCells, aLoad, opExtract, resA, resL, fresh, aIndexAddr, aNum, aLen, aBuiltin, aBin, aInt, Nat.reduceAdd, Nat.reduceMul, Nat.reduceLT, Nat.reduceBEq, Nat.reduceEqDiff, Nat.reduceLeDiff, ↓reduceIte, reduceCtorEq, aCall, snaps, aConv, ZT, F_14, hlz, htz, sp, hmd, hre, hla, hta, hll, w1, m0, hj, g1, hat, hloop, p0, p5, hwk]
end Go.AM.Ytfmnoohhhokicaa
end

section
namespace Go.AM.Ytfmnoohhhokicaa
open Go Go.AM
set_option maxRecDepth 1000000
theorem works_runF : isTrue (kF 40 17 [] [] 0) = true := by kernel_rfl
theorem soundK (d : Nat) : CS Proofs.Try.prog E (kF d) := frC_ok (callF_sound envOk mixed fr fg 1000000 d)
theorem soundB : CS Proofs.Try.prog E (bodyA E (kF 40) fg 1000000) := body_ok envOk mixed fg 1000000 (soundK 40)
end Go.AM.Ytfmnoohhhokicaa
end

section
namespace Go.AM.Ytfmnoohhhokicaa
open Go Go.AM Go.RowKit Go.Proofs Go.Proofs.Ytfmnoohhhokicaa Go.ChangeShapes Go.WideShapes Go.ChangeAt Go.AM.Rub
set_option maxRecDepth 1000000
theorem laidOut : laidOutB Try.prog = true := by kernel_rfl
theorem readable_0 : Try.prog.readableRec 49 = true := by kernel_rfl
theorem types_lt_0 : 49 < Try.prog.types.size := of_decide_eq_true (by kernel_rfl)
theorem cellsOf_0 : Try.prog.cellsOf 49 = 8 := by kernel_rfl
theorem cellTypes_0 : Try.prog.cellTypes Try.prog.depth 49 = some (List.replicate 8 5) := by kernel_rfl
theorem readable_1 : Try.prog.readableRec 5 = true := by kernel_rfl
theorem types_lt_1 : 5 < Try.prog.types.size := of_decide_eq_true (by kernel_rfl)
theorem rubPowers_walk {W : World} {zs0 : List Int} {v0 : Value} {x1 : Int} (h0 : zs0.length = 8 ∧ ∀ (i : Nat) (z : Int), zs0[i]? = some z → 0 ≤ z ∧ z ≤ 255) (r0 : (start (fun k => k < W.heap.size) W).R (.agg (zs0.map (AV.int .u8))) v0) (h1 : 0 ≤ x1 ∧ x1 ≤ 255) :
    Calls Try.prog 14 #[v0, .int .u8 x1] W fun e w' => e = .returned (.bool true) ∧ Below W.heap.size W w' := by
  obtain ⟨H0, hw⟩ := isTrue_ok works_runF
  obtain ⟨H1, hr⟩ := rs_ex (rubPowers_law h0 h1 ⟨H0, hw⟩)
  refine law_run soundB hr (fun k h => h) (vs := [v0, .int .u8 x1]) ?_
  simp only [Gh.Rs, VRs]
  exact ⟨v0, _, rfl, r0, _, _, rfl, by simp only [VR], rfl⟩
theorem rubPowers_lifted (os : Os) (started : os.Started) (H : Type) (enc : TypeId × Value → H) :
    ReturnsInHanded {} Try.checked os 14 .any (Rows.rubPowersSpec.pre6 enc Try.prog Try.f14 Rows.rubPowersRow.domain false)
      (Rows.rubPowersSpec.post enc Try.prog Try.f14 false true false false) := by
  refine returnsInHanded_of_change own started (by kernel_rfl) Try.func14 (ChangeSpec.witness6 (enc := enc) (C := Try.checked) false ⟨#[], #[.agg (Array.replicate 8 (.int .u8 0)), .int .u8 0], []⟩ 8 (by kernel_rfl) (by kernel_rfl) (by kernel_rfl) (by kernel_rfl)) ?_
  intro W base args ds gs before hval0 hW _ _
  have hW' := hW
  obtain ⟨p, q, hA0, hV, rfl, hfz, hnd⟩ := hW
  have hA : DataW.TrodAll enc Try.prog W 0 (fun _ => true) true Try.f14.params.toList args.toList ds p := hA0
  rw [Try.params14] at hA
  obtain ⟨w0, vs0, d0, ds0, p0, q0, ha, rfl, rfl, t0, hr0⟩ := trodAll_cons hA
  obtain ⟨w1, vs1, d1, ds1, p1, q1, rfl, rfl, rfl, t1, hr1⟩ := trodAll_cons hr0
  obtain ⟨rfl, rfl, rfl⟩ := trodAll_nil hr1
  obtain rfl : args = #[w0, w1] := by cases args; simp_all
  obtain ⟨rfl, rfl⟩ := trodVars_none hV
  have hval : ∀ (j : Nat) t v, (#[49, 5] : Array TypeId)[j]? = some t → (#[w0, w1] : Array Value)[j]? = some v → Value.okWide Try.prog W .any base t v := by
    intro j t v; have := hval0 j t v; rw [Try.params14] at this; exact this
  obtain ⟨zs0, cs0, rfl, e0, l0, b0⟩ := hand_struct Try.underlying49 Try.underlying5 cellTypes_0 cellsOf_0 (by omega) (hval 0 49 w0 rfl rfl)
  have h0 : zs0.length = 8 ∧ ∀ (i : Nat) (z : Int), zs0[i]? = some z → 0 ≤ z ∧ z ≤ 255 := ⟨l0, b0⟩
  have r0 : (start (fun k => k < W.heap.size) W).R (.agg (zs0.map (AV.int .u8))) (.agg cs0) := vr_u8 _ e0
  obtain ⟨x1, rfl, h1⟩ := hand_u8 Try.underlying5 (hval 1 5 w1 rfl rfl)
  refine (rubPowers_walk h0 r0 h1).mono fun e W' ⟨he, bel⟩ => ?_
  subst he
  exact ⟨_, rfl, _, _, _, [], _, [], hW', trodAll_mk1 (shut_bool Try.underlying4 _),
    trodAll_mk2 (bel.trod' laidOut readable_0 types_lt_0 t0) (bel.trod' laidOut readable_1 types_lt_1 t1), rfl, bel.frame _, fun h => by cases h⟩
theorem rubPowers_holds : Rows.RubPowersSaid :=
  OpenClaim.holds_of_wide 14 Try.f14 rfl rfl rfl rfl rfl rfl rfl ⟨rfl, rfl, rfl, rfl, rfl⟩ rfl rfl rfl rfl rfl (by kernel_rfl) Try.func14 (by kernel_rfl)
    (of_decide_eq_true (by kernel_rfl)) (by unfold Func.isWrapper; first | (rw [if_pos (by decide +kernel)]; kernel_rfl) | (rw [if_neg (by decide +kernel)]; exact ⟨rfl, rfl⟩))
    (fun os started H enc _ => rubPowers_lifted os started H enc)
end Go.AM.Ytfmnoohhhokicaa
namespace Go.Proofs.Ytfmnoohhhokicaa
/-- RubPowers: the law answers true for every input, and the input reads as it did. No condition. -/
theorem rubPowers_holds : Rows.RubPowersSaid := Go.AM.Ytfmnoohhhokicaa.rubPowers_holds
end Go.Proofs.Ytfmnoohhhokicaa
end
#print axioms Go.Proofs.Ytfmnoohhhokicaa.rubPowers_holds
