/- A part of the proof of rubBounds_holds: RsM. Own work of this project; texts printed by own programs among it. -/
import Derived.KernelRfl
import Derived.Test.YtfmnoohhhokicaaYvL
set_option maxRecDepth 1000000
set_option maxHeartbeats 16000000
noncomputable section
noncomputable section
namespace Go.AM.Ytfmnoohhhokicaa
open Go Go.AM Go.AM.Rub
def IL (C : Callee) (f : FuncId) (args : List AV) (e : Int) (l : List Int) (n : Nat) : Prop :=
 (e ≠ 0 ∧ ∀ (site : Nat → Nat) seen, aBack site true seen (thaw C f args [] 0) = .pure (.tup [.nilsl, .int .i64 e], [])) ∨
 (e = 0 ∧ ∀ (site : Nat → Nat) seen, aBack site true seen (thaw C f args [] 0) = (frz seen).bind fun us => .pure (.tup [.imm (ics l) n false, .int .i64 0], us ++ []))
theorem Zba {d : Nat} {l m : List Int} {a b : AV} (ha : IV l a) (hb : IV m b) (hl : l.length ≤ 1000) (hm : m.length ≤ 1000) (down : Bool) : IL (kF (d + 31)) 102 [a, b, .bool down] (pairE l m) (exG down l m) l.length := by
 rcases Zrz (d := d) ha hb hl hm down with ⟨h, H, h1⟩ | ⟨h, H, h1⟩
 · exact .inl ⟨h, fun site seen => Z24 ⟨H, by rw [ZW rfl]; exact h1⟩⟩
 · exact .inr ⟨h, fun site seen => Z3W (by rw [ZW rfl]; exact h1)⟩
theorem ZK2 {d : Nat} {l m : List Int} {a b : AV} (ha : IV l a) (hb : IV m b) (hl : l.length ≤ 1000) (hm : m.length ≤ 1000) : IL (kF (d + 32)) 47 [a, b] (pairE l m) (lowL l m) l.length := by
 have sa := ZI ha
 have sb := ZI hb
 rcases Zba (d := d) ha hb hl hm true with ⟨h, h1⟩ | ⟨h, h1⟩
 · refine .inl ⟨h, fun site seen => ?_⟩
   have key : ∃ H, bodyA E (kF (d + 31)) fg 1000000 47 [a, b] [] 0 = some (.tup [.nilsl, .int .i64 (pairE l m)], H) := by
     generalize kF (d + 31) = C at *
     simp (disch := omega) only [ZF, Z4, stp, justO, Rd.bind, Rd.run, upds, Zc, resA, resL, Nat.reduceBEq, Nat.reduceEqDiff, Nat.reduceLeDiff, ↓reduceIte, reduceCtorEq, aCall, snaps, F_47, h1, sa 198, sb 197]
     exact ⟨_, rfl⟩
   obtain ⟨H, h2⟩ := key
   exact Z24 ⟨H, by rw [ZW rfl]; exact h2⟩
 · refine .inr ⟨h, fun site seen => ?_⟩
   have key : ∃ H, bodyA E (kF (d + 31)) fg 1000000 47 [a, b] [] 0 = some (.tup [.imm (ics (exG true l m)) l.length false, .int .i64 0], H) := by
     generalize kF (d + 31) = C at *
     simp (disch := omega) only [ZF, Z4, stp, justO, Rd.bind, Rd.run, upds, Zc, resA, resL, Nat.reduceBEq, Nat.reduceEqDiff, Nat.reduceLeDiff, ↓reduceIte, reduceCtorEq, aCall, snaps, F_47, h1, sa 198, sb 197]
     exact ⟨_, rfl⟩
   obtain ⟨H, h2⟩ := key
   exact Z3W (by rw [ZW rfl]; exact h2)
theorem ZMT {d : Nat} {l m : List Int} {a b : AV} (ha : IV l a) (hb : IV m b) (hl : l.length ≤ 1000) (hm : m.length ≤ 1000) : IL (kF (d + 32)) 49 [a, b] (pairE l m) (joinL l m) l.length := by
 have sa := ZI ha
 have sb := ZI hb
 rcases Zba (d := d) ha hb hl hm false with ⟨h, h1⟩ | ⟨h, h1⟩
 · refine .inl ⟨h, fun site seen => ?_⟩
   have key : ∃ H, bodyA E (kF (d + 31)) fg 1000000 49 [a, b] [] 0 = some (.tup [.nilsl, .int .i64 (pairE l m)], H) := by
     generalize kF (d + 31) = C at *
     simp (disch := omega) only [ZF, Z4, stp, justO, Rd.bind, Rd.run, upds, Zc, resA, resL, Nat.reduceBEq, Nat.reduceEqDiff, Nat.reduceLeDiff, ↓reduceIte, reduceCtorEq, aCall, snaps, F_49, h1, sa 198, sb 197]
     exact ⟨_, rfl⟩
   obtain ⟨H, h2⟩ := key
   exact Z24 ⟨H, by rw [ZW rfl]; exact h2⟩
 · refine .inr ⟨h, fun site seen => ?_⟩
   have key : ∃ H, bodyA E (kF (d + 31)) fg 1000000 49 [a, b] [] 0 = some (.tup [.imm (ics (exG false l m)) l.length false, .int .i64 0], H) := by
     generalize kF (d + 31) = C at *
     simp (disch := omega) only [ZF, Z4, stp, justO, Rd.bind, Rd.run, upds, Zc, resA, resL, Nat.reduceBEq, Nat.reduceEqDiff, Nat.reduceLeDiff, ↓reduceIte, reduceCtorEq, aCall, snaps, F_49, h1, sa 198, sb 197]
     exact ⟨_, rfl⟩
   obtain ⟨H, h2⟩ := key
   exact Z3W (by rw [ZW rfl]; exact h2)
theorem ZD4 {d : Nat} {n s : Int} : ∃ H, bodyA E (kF (d + 31)) fg 1000000 51 [.int .i64 n, .int .i64 s] [] 0 = some (.tup [.int .i64 (cntY n s), .int .i64 (cntX n s)], H) := by
 unfold cntY cntX
 have hin := fun (site : Nat → Nat) seen x lo hi => Z5f (d := d + 30) (site := site) (seen := seen) (x := x) (lo := lo) (hi := hi)
 by_cases hb : n < 1 ∨ n > 6 ∨ s < 0 ∨ s > n * 8
 · rw [if_pos hb, if_pos hb]
   generalize kF (d + 31) = C at *
   by_cases c1 : 1 ≤ n ∧ n ≤ 6
   · have w : wrp .i64 (n * 8) = n * 8 := Zs (by omega)
     have c2 : ¬ (0 ≤ s ∧ s ≤ n * 8) := by omega
     have d1 : decide (1 ≤ n ∧ n ≤ 6) = true := decide_eq_true c1
     have d2 : decide (0 ≤ s ∧ s ≤ n * 8) = false := decide_eq_false c2
     simp (disch := omega) only [ZF, ↓gd, Z4, stp, opPick, justO, just, Rd.bind, Rd.run, Rd.opt, upds, resA, resL, aBin, aInt, Nat.reduceBEq, Nat.reduceEqDiff, Nat.reduceLeDiff, ↓reduceIte, reduceCtorEq, aUn, aCall, snaps, F_51, hin, d1, d2, w]
     exact ⟨_, rfl⟩
   · have d1 : decide (1 ≤ n ∧ n ≤ 6) = false := decide_eq_false c1
     simp (disch := omega) only [ZF, ↓gd, Z4, stp, opPick, justO, Rd.bind, Rd.run, upds, resA, resL, Nat.reduceBEq, Nat.reduceEqDiff, Nat.reduceLeDiff, ↓reduceIte, reduceCtorEq, aUn, aCall, snaps, F_51, hin, d1]
     exact ⟨_, rfl⟩
 · rw [if_neg hb, if_neg hb]
   obtain ⟨m, rfl⟩ : ∃ m : Nat, n = m := ⟨n.toNat, by omega⟩
   rw [Int.toNat_natCast]
   have w : wrp .i64 ((m : Int) * 8) = (m : Int) * 8 := Zs (by omega)
   have d1 : decide (1 ≤ (m : Int) ∧ (m : Int) ≤ 6) = true := decide_eq_true (by omega)
   have d2 : decide (0 ≤ s ∧ s ≤ (m : Int) * 8) = true := decide_eq_true (by omega)
   have hrr := rrows m (d + 30 - m) s 8 (by omega) (by omega) (by omega)
   rw [show d + 30 - m + m + 1 = d + 31 by omega] at hrr
   unfold RrC at hrr
   have htop := ZEy (s := s) (n := m) (by omega) (by omega)
   have hlp : 0 < (rowsL m s 8).length := (List.getElem?_eq_some_iff.1 htop).1
   have hne : ¬ rowsL m s 8 = [] := fun e => by rw [e] at hlp; simp at hlp
   simp only [if_neg hne] at hrr
   have hll := Z3d (rowsL m s 8)
   clear htop hne hb
   generalize lcz (rowsL m s 8) = RL at *
   generalize (rowsL m s 8).length = R at *
   generalize kF (d + 31) = C at *
   simp (disch := omega) only [ZF, ↓gd, Z4, stp, opPick, justO, just, Rd.bind, Rd.run, Rd.opt, upds, resA, resL, aLen, Z2, aBin, aInt, Nat.reduceBEq, Nat.reduceEqDiff, Nat.reduceLeDiff, ↓reduceIte, reduceCtorEq, aUn, aCall, snaps, ZT, F_51, hin, d1, d2, w, hrr, hll]
   exact ⟨_, rfl⟩
theorem ZrG {d : Nat} {n s : Int} (site : Nat → Nat) (seen : List Nat) : aBack site true seen (thaw (kF (d + 32)) 51 [.int .i64 n, .int .i64 s] [] 0) = .pure (.tup [.int .i64 (cntY n s), .int .i64 (cntX n s)], []) := by
 obtain ⟨H, h⟩ := ZD4 (d := d) (n := n) (s := s)
 have h' : kF (d + 32) 51 [.int .i64 n, .int .i64 s] [] 0 = some (.tup [.int .i64 (cntY n s), .int .i64 (cntX n s)], H) := by rw [ZW rfl]; exact h
 exact Z0m h' rfl (fun _ => rfl) rfl
end Go.AM.Ytfmnoohhhokicaa
end
noncomputable section
namespace Go.AM.Ytfmnoohhhokicaa
open Go Go.AM Go.AM.Rub
theorem Z5F (t x : Int) : ∀ l : List Int, cntL t (l ++ [x]) = cntL t l + (if x > t then 1 else 0)
 | [] => by simp [cntL]
 | y :: l => by rw [List.cons_append, cntL, Z5F t x l, cntL]; omega
def tuP (l : List Int) (m t : Nat) : List Int := (List.range t).map (cnjF l) ++ List.replicate (m - t) 0
theorem ZdH (l : List Int) {m t : Nat} (h : t ≤ m) : (tuP l m t).length = m := by simp [tuP]; omega
theorem ZXK (l : List Int) (m : Nat) : tuP l m m = cnjL l m := by simp [tuP, cnjL]
theorem Z06x (l : List Int) {m t : Nat} (h : t < m) : (tuP l m t)[t]? = some 0 := by
 simp only [tuP]
 rw [List.getElem?_append_right (by simp)]
 simp only [List.length_map, List.length_range, Nat.sub_self]
 rw [List.getElem?_replicate, if_pos (by omega)]
def tuQ (l : List Int) (m t j : Nat) : List Int := (tuP l m t).set t (cntL t (l.take j))
theorem ZJW (l : List Int) {m t : Nat} (h : t < m) : tuQ l m t 0 = tuP l m t := by
 unfold tuQ
 rw [List.take_zero]
 have h1 := Z06x l h
 apply List.ext_getElem?
 intro i
 rw [List.getElem?_set]
 split
 · rename_i e; subst e
   rw [if_pos (by rw [ZdH l (by omega)]; exact h), h1]; rfl
 · rfl
theorem ZUa {n : Nat} (l : List Int) (hl : l.length = n) {m t : Nat} (h : t < m) : tuQ l m t n = tuP l m (t + 1) := by
 unfold tuQ tuP
 rw [List.take_of_length_le (by omega), List.set_append_right _ _ (by simp)]
 simp only [List.length_map, List.length_range, Nat.sub_self, List.range_succ, List.map_append, List.map_cons, List.map_nil, List.append_assoc]
 obtain ⟨r, hr⟩ : ∃ r, m - t = r + 1 := ⟨m - t - 1, by omega⟩
 rw [hr, show m - (t + 1) = r by omega, List.replicate_succ, List.set_cons_zero]
 rfl
abbrev tuI (l : List Int) (n m : Nat) (a : AV) (t j : Nat) : St := ([(18, .int .i64 j), (17, .int .i64 n), (16, a), (13, .int .i64 t), (12, .int .i64 m), (6, .int .i64 t), (5, .ref 10 0 m m m 1 false), (0, a)], [(10, ⟨.row, ics (tuQ l m t j)⟩)])
abbrev tuS (l : List Int) (m : Nat) (a : AV) (t : Nat) : St := ([(13, .int .i64 t), (12, .int .i64 m), (5, .ref 10 0 m m m 1 false), (0, a)], [(10, ⟨.row, ics (tuP l m t)⟩)])
theorem ZWO (t : Int) (l : List Int) (n : Nat) (h : l.length ≤ n) : 0 ≤ cntL t l ∧ cntL t l ≤ n := by
 have := Z3R t l
 omega
theorem Z0gz {C : Callee} {l : List Int} {n m : Nat} {x : Bool} (hl : l.length = n) (hn : n ≤ 100) {t : Nat} (ht : t < m) (_ : m ≤ 100) (j : Nat) (hj : j < n) :
   ∃ s', (execA E C (fg 103) 0 34 [] 1000000 Z3t) (tuI l n m (.imm (ics l) n x) t j) = some (.normal, s') ∧ headA [] s' = tuI l n m (.imm (ics l) n x) t (j + 1) := by
 have hlen : (ics l).length = n := by rw [Z5, hl]
 have hat := ZR (l := l) (k := j) (by omega)
 have g1 : (j : Int) < n := by omega
 have g2 : (t : Int) < m := by omega
 have htk : l.take (j + 1) = l.take j ++ [rowF l j] := by rw [List.take_add_one, Zdk (by omega)]; rfl
 have hc := ZWO t (l.take j) 100 (by rw [List.length_take]; omega)
 have e1 : tuQ l m t (j + 1) = (tuP l m t).set t (cntL t (l.take j) + (if rowF l j > t then 1 else 0)) := by
   unfold tuQ; rw [htk, Z5F]
 have hql : (ics (tuQ l m t j)).length = m := by
   rw [Z5]; unfold tuQ; rw [List.length_set, ZdH l (by omega)]
 have hqa : (ics (tuQ l m t j))[t]? = some (.int .i64 (cntL t (l.take j))) := by
   refine Z1F ?_
   unfold tuQ
   rw [List.getElem?_set_self (by rw [ZdH l (by omega)]; exact ht)]
 by_cases hx : rowF l j > t
 · rw [if_pos hx] at e1
   have hqs : (ics (tuQ l m t j)).set t (.int .i64 (cntL t (l.take j) + 1)) = ics (tuQ l m t (j + 1)) := by
     rw [ZvJ, e1]; unfold tuQ; rw [List.set_set]
   have w : wrp .i64 (cntL t (l.take j) + 1) = cntL t (l.take j) + 1 := Zs (by omega)
   simp only [tuI]
   generalize ics (tuQ l m t (j + 1)) = Q1 at *
   generalize ics (tuQ l m t j) = Q0 at *
   simp (disch := omega) only [ZF, stp, just, Rd.bind, Rd.run, Rd.opt, upds, acells, tsz, rdCells, aLoad, aStore, opStore, Z3, aNum, aBin, aInt, putC, Nat.reduceLT, Nat.reduceBEq, Nat.reduceEqDiff, Nat.reduceLeDiff, ↓reduceIte, snaps, ZT, Z7I, hlen, hat, hql, hqa, hqs, g1, g2, hx, w, if_pos, Zk (show j < 1000000 by omega)]
   exact ⟨_, rfl, rfl⟩
 · rw [if_neg hx, Int.add_zero] at e1
   have e2 : tuQ l m t (j + 1) = tuQ l m t j := e1
   simp only [tuI, e2]
   generalize ics (tuQ l m t j) = Q0 at *
   simp (disch := omega) only [ZF, stp, just, Rd.bind, Rd.run, Rd.opt, upds, tsz, rdCells, aLoad, Z3, aNum, aBin, aInt, Nat.reduceLT, Nat.reduceBEq, Nat.reduceEqDiff, Nat.reduceLeDiff, ↓reduceIte, ZT, Z7I, hlen, hat, hql, g1, g2, hx, Zk (show j < 1000000 by omega)]
   exact ⟨_, rfl, rfl⟩
theorem ZCt {C : Callee} {l : List Int} {n m : Nat} {x : Bool} (hl : l.length = n) (hn : n ≤ 100) (hm : m ≤ 100) :
   ∃ H, bodyA E C fg 1000000 103 [.imm (ics l) n x, .int .i64 m] [] 0 = some (.ref 10 0 m m m 1 false, H) ∧ hget H 10 = some ⟨.row, ics (cnjL l m)⟩ := by
 have hlen : (ics l).length = n := by rw [Z5, hl]
 have hgo : ∀ t, t < m → ∃ s', (execA E C (fg 103) 0 34 [] 1000000 Z4F) (tuS l m (.imm (ics l) n x) t) = some (.normal, s') ∧ headA [] s' = tuS l m (.imm (ics l) n x) (t + 1) := by
   intro t ht
   have hloop := loopM (f := (execA E C (fg 103) 0 34 [] 1000000 Z3t)) (E0 := []) (tuI l n m (.imm (ics l) n x) t) n (fun j hj => Z0gz hl hn ht hm j hj) rfl (by omega)
     (e := .exit 2) (se := ([(19, .bool false), (18, .int .i64 n), (17, .int .i64 n), (16, .imm (ics l) n x), (13, .int .i64 t), (12, .int .i64 m), (6, .int .i64 t), (5, .ref 10 0 m m m 1 false), (0, .imm (ics l) n x)], [(10, ⟨.row, ics (tuP l m (t + 1))⟩)]))
     (by
       simp only [tuI, ZUa l hl ht]
       simp (disch := omega) only [ZF, stp, just, Rd.bind, Rd.run, Rd.opt, upds, aBin, aInt, Nat.reduceEqDiff, Nat.reduceLeDiff, ↓reduceIte, Z7I]) (by simp)
   simp only [tuI, ZJW l ht, cl0] at hloop
   have g1 : (t : Int) < m := by omega
   simp only [tuS]
   generalize ics (tuP l m (t + 1)) = Q1 at *
   generalize ics (tuP l m t) = Q0 at *
   simp (disch := omega) only [ZF, stp, just, Rd.bind, Rd.run, Rd.opt, upds, aLen, Z2, aBin, aInt, Nat.reduceBEq, Nat.reduceEqDiff, Nat.reduceLeDiff, ↓reduceIte, reduceCtorEq, ZT, Z7I, hloop, g1, Zk (show t < 1000000 by omega)]
   exact ⟨_, rfl, rfl⟩
 have hloop := loopM (f := (execA E C (fg 103) 0 34 [] 1000000 Z4F)) (E0 := []) (tuS l m (.imm (ics l) n x)) m hgo rfl (by omega)
   (e := .exit 0) (se := ([(14, .bool false), (13, .int .i64 m), (12, .int .i64 m), (5, .ref 10 0 m m m 1 false), (0, .imm (ics l) n x)], [(10, ⟨.row, ics (cnjL l m)⟩)]))
   (by
     simp only [tuS, ZXK]
     simp (disch := omega) only [ZF, stp, just, Rd.bind, Rd.run, Rd.opt, upds, aBin, aInt, Nat.reduceEqDiff, Nat.reduceLeDiff, ↓reduceIte, Z7I]) (by simp)
 have e0 : tuP l m 0 = List.replicate m 0 := by simp [tuP]
 simp only [tuS, e0, cl0] at hloop
 have rep := Z82 m
 have hflat : [AV.int .i64 0].all AV.flat = true := rfl
 have hk : (m : Int) ≤ kHi .i64 := by simp only [kHi]; omega
 have hby : ((8 : Nat) : Int) * (m : Int) ≤ 281474976710656 := by omega
 have hil : (ics (List.replicate m 0)).length = m := by rw [Z5, List.length_replicate]
 simp (disch := omega) only [ZF, Z4, stp, just, Rd.bind, Rd.run, upds, zeroCells, elemT, resA, resL, fresh, aNum, aLen, Z2, Nat.reduceLT, Nat.reduceBEq, Nat.reduceEqDiff, Nat.reduceLeDiff, ↓reduceIte, ZT, Z7I, aMake, rep, hflat, hk, hby, hil, hloop, if_pos]
 exact ⟨_, rfl, rfl⟩
theorem Z2B {d : Nat} {site : Nat → Nat} {seen : List Nat} {l : List Int} {n m : Nat} {x : Bool} (hl : l.length = n) (hn : n ≤ 100) (hm : m ≤ 100) : aBack site true seen (thaw (kF (d + 1)) 103 [.imm (ics l) n x, .int .i64 m] [] 0) =
   Z0I (site 0) seen (fun k => .ref k 0 m m m 1 false) ⟨.row, ics (cnjL l m)⟩ := by
 obtain ⟨H, h1, h2⟩ := ZCt (C := kF d) (x := x) hl hn hm
 exact Z22 (by rw [ZW rfl]; exact h1) h2 (by rw [Z5, Zl])
def loP (a b : List Int) (k : Nat) : List Int := (List.range k).map (lowF (rowF a) (rowF b))
theorem Z74 (a b : List Int) (k : Nat) : (loP a b k).length = k := by simp [loP]
theorem ZKI (a b : List Int) (k : Nat) : loP a b (k + 1) = loP a b k ++ [lowF (rowF a) (rowF b) k] := by simp [loP, List.range_succ]
abbrev loS (a b : List Int) (n k : Nat) : St := ([(15, .int .i64 k), (14, .int .i64 n), (7, oV 41 1 k), (6, .ref 12 0 (n + 1) (n + 1) (n + 1) 1 false), (5, .ref 10 0 (n + 1) (n + 1) (n + 1) 1 false)], (10, ⟨.row, ics (riL a)⟩) :: (12, ⟨.row, ics (riL b)⟩) :: oH 41 (ics (loP a b k)))
theorem Z0jz {C : Callee} {a b : List Int} {n : Nat} (ha : Rw n a) (hb : Rw n b) (hn : n ≤ 8) (k : Nat) (hk : k < n) :
   ∃ s', (execA E C (fg 101) 0 44 [] 1000000 Z3u) (loS a b n k) = some (.normal, s') ∧ headA [] s' = loS a b n (k + 1) := by
 have la := Z1o a
 have lb := Z1o b
 rw [ha.len] at la
 rw [hb.len] at lb
 have a1 : (ics (riL a))[k + 1]? = some (.int .i64 (ps (rowF a) (k + 1))) := Z1F (Z2P (by rw [ha.len]; omega))
 have a0 : (ics (riL a))[k]? = some (.int .i64 (ps (rowF a) k)) := Z1F (Z2P (by rw [ha.len]; omega))
 have b1 : (ics (riL b))[k + 1]? = some (.int .i64 (ps (rowF b) (k + 1))) := Z1F (Z2P (by rw [hb.len]; omega))
 have b0 : (ics (riL b))[k]? = some (.int .i64 (ps (rowF b) k)) := Z1F (Z2P (by rw [hb.len]; omega))
 have p1 := ps_b ha (k + 1) (by omega)
 have p0 := ps_b ha k (by omega)
 have q1 := ps_b hb (k + 1) (by omega)
 have q0 := ps_b hb k (by omega)
 have hsn := Z5j (loP a b k) (lowF (rowF a) (rowF b) k)
 have hlo : lowF (rowF a) (rowF b) k = min (ps (rowF a) (k + 1)) (ps (rowF b) (k + 1)) - min (ps (rowF a) k) (ps (rowF b) k) := rfl
 have hrl : (ics (loP a b k)).length = k := by rw [Z5, Z74]
 simp only [loS]
 rw [Z14 (show 0 < k + 1 by omega), Z3p (l := loP a b (k + 1)) (by rw [Z74]; omega), ZKI, ← hsn, hlo]
 generalize ps (rowF a) (k + 1) = u1 at *
 generalize ps (rowF a) k = u0 at *
 generalize ps (rowF b) (k + 1) = v1 at *
 generalize ps (rowF b) k = v0 at *
 have e1 : (if v1 < u1 then v1 else u1) = min u1 v1 := by split <;> omega
 have e0 : (if v0 < u0 then v0 else u0) = min u0 v0 := by split <;> omega
 have w : wrp .i64 (min u1 v1 - min u0 v0) = min u1 v1 - min u0 v0 := Zs (by omega)
 have g1 : (k : Int) < n := by omega
 have g2 : ((k + 1 : Nat) : Int) < ((n + 1 : Nat) : Int) := by omega
 have g3 : (k : Int) < ((n + 1 : Nat) : Int) := by omega
 generalize ics (riL a) = RA at *
 generalize ics (riL b) = RB at *
 rcases Nat.eq_zero_or_pos k with hp | hp
 · subst hp
   have z1 : ((0 + 1 : Nat) : Int) = 1 := rfl
   have ee0 : ics (loP a b 0) = [] := rfl
   rw [ee0, ZcR]
   have oh0 : oH 41 [] = [] := rfl
   rw [oh0]
   simp only [z1, cl0, Nat.zero_add] at *
   have w01 : wrp .i64 (0 + 1) = 1 := by decide
   simp (disch := omega) only [ZF, stp, justO, just, Rd.bind, Rd.run, Rd.opt, upds, acells, zeroCells, tsz, elemT, rdCells, aLoad, fresh, Z3, aNum, Z2, aMin, aBin, aInt, putC, evO, Nat.reduceAdd, Nat.reduceLT, Nat.reduceBEq, Nat.reduceEqDiff, Nat.reduceLeDiff, ↓reduceIte, reduceCtorEq, stpT, Rd.foot, writing, Zm, Tr.empty, Zo, apartT, disj, Z8, Zn, partsOf, fillA, repC, Zu, aAppend, srcOf, window, snaps, Int.reduceLE, ZT, Zil, w01, aMin, la, lb, a1, a0, b1, b0, e1, e0, w, g1, g2, g3, Z23 (show 1 ≤ 1000000 by omega), Int.toNat_zero, Int.toNat_one]
   exact ⟨_, rfl, rfl⟩
 · rw [Z14 hp, Z3p (by rw [Z74]; exact hp)]
   have htk : List.take k (ics (loP a b k)) = ics (loP a b k) := List.take_of_length_le (by omega)
   have hno : ¬ k + 1 ≤ k := by omega
   generalize ics (loP a b k) = L at *
   simp (disch := omega) only [ZF, stp, justO, just, Rd.bind, Rd.run, Rd.opt, upds, acells, zeroCells, tsz, elemT, rdCells, aLoad, fresh, Z3, aNum, Z2, aMin, aBin, aInt, putC, evO, Nat.reduceAdd, Nat.reduceLT, Nat.reduceBEq, Nat.reduceEqDiff, Nat.reduceLeDiff, ↓reduceIte, reduceCtorEq, stpT, Rd.foot, writing, Zm, Tr.empty, Zo, apartT, disj, Z8, Zn, partsOf, fillA, repC, Zu, aAppend, srcOf, window, snaps, ZT, Zil, aMin, la, lb, a1, a0, b1, b0, e1, e0, w, g1, g2, g3, hrl, htk, hno, Z23 (show k + 1 ≤ 1000000 by omega), Zk (show k < 1000000 by omega)]
   exact ⟨_, rfl, rfl⟩
theorem ZJc {d : Nat} {a b : List Int} {n : Nat} {x y : Bool} (ha : Rw n a) (hb : Rw n b) (h0 : 0 < n) (hn : n ≤ 8) :
   ∃ H, bodyA E (kF (d + 1)) fg 1000000 101 [.imm (ics a) n x, .imm (ics b) n y] [] 0 = some (.ref 41 0 n n n 1 false, H) ∧ hget H 41 = some ⟨.row, ics (lowL a b)⟩ := by
 have r1 := fun (site : Nat → Nat) seen => Z25 (d := d) (site := site) (seen := seen) (a := .imm (ics a) n x) (.inr ⟨x, by rw [ha.len]⟩) ha hn
 have r2 := fun (site : Nat → Nat) seen => Z25 (d := d) (site := site) (seen := seen) (a := .imm (ics b) n y) (.inr ⟨y, by rw [hb.len]⟩) hb hn
 rw [ha.len] at r1
 rw [hb.len] at r2
 have la : (ics a).length = n := by rw [Z5, ha.len]
 have l1 := Z1o a
 have l2 := Z1o b
 rw [ha.len] at l1
 rw [hb.len] at l2
 have eL : loP a b n = lowL a b := by unfold loP lowL; rw [ha.len]
 have hloop := loopM (f := execA E (kF (d + 1)) (fg 101) 0 44 [] 1000000 Z3u) (E0 := []) (loS a b n) n (fun k hk => Z0jz ha hb hn k hk) (by
     have e0 : oH 41 (ics (loP a b 0)) = [] := rfl
     simp only [loS, e0, ZcR]; rfl) (by omega)
   (e := .exit 0) (se := ([(16, .bool false), (15, .int .i64 n), (14, .int .i64 n), (7, .ref 41 0 n n n 1 false), (6, .ref 12 0 (n + 1) (n + 1) (n + 1) 1 false), (5, .ref 10 0 (n + 1) (n + 1) (n + 1) 1 false)], [(10, ⟨.row, ics (riL a)⟩), (12, ⟨.row, ics (riL b)⟩), (41, ⟨.row, ics (lowL a b)⟩)]))
   (by
     simp only [loS]
     rw [Z14 h0, Z3p (by rw [Z74]; exact h0), eL]
     simp (disch := omega) only [ZF, stp, just, Rd.bind, Rd.run, Rd.opt, upds, aBin, aInt, Nat.reduceEqDiff, Nat.reduceLeDiff, ↓reduceIte, Zil]) (by simp)
 have e0 : oH 41 (ics (loP a b 0)) = [] := rfl
 simp only [loS, e0, ZcR, cl0] at hloop
 generalize kF (d + 1) = C at *
 simp (disch := omega) only [ZF, Z4, stp, just, Rd.bind, Rd.run, upds, resA, resL, aLen, Z2, Nat.reduceBEq, Nat.reduceEqDiff, Nat.reduceLeDiff, ↓reduceIte, reduceCtorEq, aCall, snaps, ZT, Zil, r1, r2, hloop]
 exact ⟨_, rfl, rfl⟩
theorem ZcO {d : Nat} {site : Nat → Nat} {seen : List Nat} {a b : List Int} {n : Nat} {x y : Bool} (ha : Rw n a) (hb : Rw n b) (h0 : 0 < n) (hn : n ≤ 8) : aBack site true seen (thaw (kF (d + 2)) 101 [.imm (ics a) n x, .imm (ics b) n y] [] 0) =
   Z0I (site 0) seen (fun k => .ref k 0 n n n 1 false) ⟨.row, ics (lowL a b)⟩ := by
 obtain ⟨H, h1, h2⟩ := ZJc (d := d) (x := x) (y := y) ha hb h0 hn
 exact Z22 (by rw [ZW rfl]; exact h1) h2 (by rw [Z5, ZE, ha.len])
end Go.AM.Ytfmnoohhhokicaa
end
noncomputable section
namespace Go.AM.Ytfmnoohhhokicaa
open Go Go.AM Go.AM.Rub
def turE (l : List Int) : Int := if chkR l ≠ 0 then chkR l else if rowF l 0 = 0 then 21 else if rowF l 0 > 6 then 3 else 0
def turL (l : List Int) : List Int := cnjL l (rowF l 0).toNat
theorem ZDa {d : Nat} {l : List Int} {a : AV} (ha : IV l a) (hl : l.length ≤ 1000) :
   (turE l ≠ 0 ∧ ∃ H, bodyA E (kF (d + 1)) fg 1000000 52 [a] [] 0 = some (.tup [.nilsl, .int .i64 (turE l)], H)) ∨
   (turE l = 0 ∧ ∃ H, bodyA E (kF (d + 1)) fg 1000000 52 [a] [] 0 = some (.tup [.ref 25 0 (turL l).length (turL l).length (turL l).length 1 false, .int .i64 0], H) ∧ hget H 25 = some ⟨.row, ics (turL l)⟩) := by
 have hc := fun (site : Nat → Nat) seen => Z3k (d := d) (site := site) (seen := seen) ha hl
 have sn := ZI ha
 unfold turE
 by_cases h0 : chkR l = 0
 · obtain ⟨hp, h6, hr⟩ := Z00.1 h0
   rw [if_neg (fun e => e h0)]
   obtain ⟨ex, rfl⟩ := Z0M ha hp
   have a0 := ZR (l := l) (k := 0) hp
   have hln := Z5 l
   have b0 := rw_b hr (k := 0) hp
   have g0 : (0 : Int) < (l.length : Int) := by omega
   rw [h0] at hc
   by_cases c1 : rowF l 0 = 0
   · rw [if_pos c1]
     refine .inl ⟨by decide, ?_⟩
     rw [c1] at a0
     generalize kF (d + 1) = C at *
     simp (disch := omega) only [ZF, Z4, stp, just, Rd.bind, Rd.run, Rd.opt, upds, tsz, rdCells, aLoad, resA, resL, Z3, aNum, aBin, aInt, Nat.reduceLT, Nat.reduceBEq, Nat.reduceEqDiff, Nat.reduceLeDiff, ↓reduceIte, reduceCtorEq, aCall, snaps, Int.reduceLE, Int.reduceToNat, ZT, F_52, hc, hln, a0, g0]
     exact ⟨_, rfl⟩
   · rw [if_neg c1]
     have c1' : (rowF l 0 == 0) = false := by rw [beq_eq_false_iff_ne]; exact c1
     by_cases c2 : rowF l 0 > 6
     · rw [if_pos c2]
       refine .inl ⟨by decide, ?_⟩
       generalize kF (d + 1) = C at *
       generalize rowF l 0 = v at *
       simp (disch := omega) only [ZF, Z4, stp, just, Rd.bind, Rd.run, Rd.opt, upds, tsz, rdCells, aLoad, resA, resL, Z3, aNum, aBin, aInt, Nat.reduceLT, Nat.reduceBEq, Nat.reduceEqDiff, Nat.reduceLeDiff, ↓reduceIte, reduceCtorEq, aCall, snaps, Int.reduceLE, Int.reduceToNat, ZT, F_52, hc, hln, a0, g0, c1', c2]
       exact ⟨_, rfl⟩
     · rw [if_neg c2]
       refine .inr ⟨rfl, ?_⟩
       unfold turL
       obtain ⟨m, hm⟩ : ∃ m : Nat, rowF l 0 = m := ⟨(rowF l 0).toNat, by omega⟩
       rw [hm] at a0 c1 c1' c2 ⊢
       rw [Int.toNat_natCast, Zl]
       have ht := fun (site : Nat → Nat) seen x => Z2B (d := d) (site := site) (seen := seen) (m := m) (x := x) (rfl : l.length = l.length) (by omega) (by omega)
       generalize kF (d + 1) = C at *
       simp (disch := omega) only [ZF, Z4, stp, just, Rd.bind, Rd.run, Rd.opt, upds, tsz, rdCells, aLoad, resA, resL, Z3, aNum, aBin, aInt, Nat.reduceLT, Nat.reduceBEq, Nat.reduceEqDiff, Nat.reduceLeDiff, ↓reduceIte, reduceCtorEq, aCall, snaps, Int.reduceLE, Int.reduceToNat, ZT, F_52, hc, hln, a0, g0, c1', c2, ht]
       exact ⟨_, rfl, rfl⟩
 · rw [if_pos h0]
   refine .inl ⟨h0, ?_⟩
   generalize kF (d + 1) = C at *
   generalize chkR l = z at *
   have h0' : (z == 0) = false := by rw [beq_eq_false_iff_ne]; exact h0
   simp (disch := omega) only [ZF, Z4, stp, just, Rd.bind, Rd.run, Rd.opt, upds, tsz, resA, resL, Z3, aNum, aBin, aInt, Nat.reduceBEq, Nat.reduceEqDiff, Nat.reduceLeDiff, ↓reduceIte, reduceCtorEq, aCall, snaps, Int.reduceLE, Int.reduceToNat, ZT, F_52, hc, h0, sn 198]
   exact ⟨_, rfl⟩
theorem ZIf {d : Nat} {l : List Int} {a : AV} (ha : IV l a) (hl : l.length ≤ 1000) : RL (kF (d + 2)) 52 [a] (turE l) (turL l) := by
 refine ZgA (n := (turL l).length) ?_ rfl
 rcases ZDa (d := d) ha hl with ⟨h, H, h1⟩ | ⟨h, H, h1, h2⟩
 · exact .inl ⟨h, H, by rw [ZW rfl]; exact h1⟩
 · exact .inr ⟨h, 25, H, by rw [ZW rfl]; exact h1, h2⟩
end Go.AM.Ytfmnoohhhokicaa
end
noncomputable section
namespace Go.AM.Ytfmnoohhhokicaa
open Go Go.AM Go.AM.Rub
theorem pw_b {x : Int} (h : 0 ≤ x ∧ x ≤ 8) : ∀ k : Nat, k ≤ 4 → 0 ≤ pw x k ∧ pw x k ≤ 4096 ∧ (k ≤ 3 → pw x k ≤ 512) ∧ (k ≤ 2 → pw x k ≤ 64) ∧ (k ≤ 1 → pw x k ≤ 8) ∧ (k = 0 → pw x k ≤ 1)
 | 0, _ => by simp [pw]
 | k + 1, hk => by
   obtain ⟨h1, h2, h3, h4, h5, h6⟩ := pw_b h k (by omega)
   simp only [pw]
   have n1 := Int.mul_nonneg h1 h.1
   have up : ∀ M : Int, pw x k ≤ M → 0 ≤ M → pw x k * x ≤ M * 8 := fun M hM h0 => Int.mul_le_mul hM h.2 h.1 h0
   have := up 4096 h2 (by omega)
   refine ⟨n1, ?_, fun hh => ?_, fun hh => ?_, fun hh => ?_, fun hh => by omega⟩
   · have := up 512 (h3 (by omega)) (by omega); omega
   · have := up 64 (h4 (by omega)) (by omega); omega
   · have := up 8 (h5 (by omega)) (by omega); omega
   · have := up 1 (h6 (by omega)) (by omega); omega
def poF (l : List Int) (p : Nat) (k : Nat) : Int := pw (rowF l k) p
theorem po_b {n : Nat} {l : List Int} (h : Rw n l) {p : Nat} (hp : p ≤ 4) : ∀ k, k ≤ n → 0 ≤ ps (poF l p) k ∧ ps (poF l p) k ≤ 4096 * k
 | 0, _ => by simp [ps]
 | k + 1, hk => by
   have := po_b h hp k (by omega)
   have := pw_b (rw_b h (k := k) (by omega)) p hp
   simp only [ps, poF] at *; omega
def powE (l : List Int) (p : Int) : Int := if chkR l ≠ 0 then chkR l else if p < 1 ∨ p > 4 then 1 else 0
def powV (l : List Int) (p : Int) : Int := if powE l p = 0 then ps (poF l p.toNat) l.length else 0
abbrev pwI (a : AV) (p : Nat) (n i : Nat) (s x : Int) (j : Nat) : St := ([(33, .int .i64 j), (32, .int .i64 ((p : Int) - 1)), (26, .int .i64 i), (25, .int .i64 n), (24, a), (10, .int .i64 (pw x (j + 1))), (9, .int .i64 x), (7, .int .i64 s), (1, .int .i64 p)], [])
abbrev pwS (a : AV) (p : Nat) (n i : Nat) (s : Int) : St := ([(26, .int .i64 i), (25, .int .i64 n), (24, a), (7, .int .i64 s), (1, .int .i64 p)], [])
theorem Z0gK {C : Callee} {n : Nat} {l : List Int} {ex : Bool} (h : Rw n l) (h6 : n ≤ 6) {p : Nat} (h1 : 1 ≤ p) (h4 : p ≤ 4) (i : Nat) (hi : i < n) :
   ∃ s', (execA E C (fg 54) 0 44 [] 1000000 Z4P) (pwS (.imm (ics l) n ex) p n i (ps (poF l p) i)) = some (.normal, s') ∧ headA [] s' = pwS (.imm (ics l) n ex) p n (i + 1) (ps (poF l p) (i + 1)) := by
 have hl := h.len
 have hlen : (ics l).length = n := by rw [Z5, hl]
 have hat := ZR (l := l) (k := i) (by omega)
 have bx := rw_b h hi
 have bs := po_b h h4 i (by omega)
 have hpx := pw_b bx p h4
 have hps : ps (poF l p) (i + 1) = ps (poF l p) i + pw (rowF l i) p := rfl
 rw [hps]
 generalize ps (poF l p) i = s at *
 generalize rowF l i = x at *
 have g1 : (i : Int) < n := by omega
 have w0 : wrp .i64 ((p : Int) - 1) = (p : Int) - 1 := Zs (by omega)
 have hloop := loopM (f := (execA E C (fg 54) 0 44 [] 1000000 Z5J)) (E0 := []) (pwI (.imm (ics l) n ex) p n i s x) (p - 1) (fun j hj => by
     have hq := pw_b bx (j + 1) (by omega)
     have hq2 := pw_b bx (j + 1 + 1) (by omega)
     have e : pw x (j + 1 + 1) = pw x (j + 1) * x := rfl
     have w1 : wrp .i64 (pw x (j + 1) * x) = pw x (j + 1) * x := by rw [← e]; exact Zs (by omega)
     have g2 : (j : Int) < (p : Int) - 1 := by omega
     simp only [pwI, e]
     generalize pw x (j + 1) = y at *
     simp (disch := omega) only [ZF, stp, just, Rd.bind, Rd.run, Rd.opt, upds, aBin, aInt, Nat.reduceBEq, Nat.reduceEqDiff, Nat.reduceLeDiff, ↓reduceIte, F_54, g2, w1, Zk (show j < 1000000 by omega)]
     exact ⟨_, rfl, rfl⟩) rfl (by omega)
   (e := .exit 3) (se := ([(34, .bool false), (33, .int .i64 ((p - 1 : Nat) : Int)), (32, .int .i64 ((p : Int) - 1)), (26, .int .i64 i), (25, .int .i64 n), (24, .imm (ics l) n ex), (10, .int .i64 (pw x p)), (9, .int .i64 x), (7, .int .i64 s), (1, .int .i64 p)], []))
   (by
     have e : pw x (p - 1 + 1) = pw x p := by rw [show p - 1 + 1 = p by omega]
     have g2 : ¬ ((p - 1 : Nat) : Int) < (p : Int) - 1 := by omega
     simp only [pwI, e]
     simp (disch := omega) only [ZF, stp, just, Rd.bind, Rd.run, Rd.opt, upds, aBin, aInt, Nat.reduceEqDiff, Nat.reduceLeDiff, ↓reduceIte, F_54, g2]) (by simp)
 have e1 : pw x (0 + 1) = x := by simp [pw]
 simp only [pwI, e1, cl0] at hloop
 have w2 : wrp .i64 (s + pw x p) = s + pw x p := Zs (by omega)
 generalize pw x p = y at *
 simp (disch := omega) only [ZF, stp, just, Rd.bind, Rd.run, Rd.opt, upds, tsz, rdCells, aLoad, Z3, aNum, aBin, aInt, Nat.reduceLT, Nat.reduceBEq, Nat.reduceEqDiff, Nat.reduceLeDiff, ↓reduceIte, ZT, F_54, g1, hat, hlen, w0, w2, hloop, Zk (show i < 1000000 by omega)]
 exact ⟨_, rfl, rfl⟩
theorem ZFz {d : Nat} {l : List Int} {a : AV} {p : Int} (ha : IV l a) (hl : l.length ≤ 1000) : rsOf (bodyA E (kF (d + 1)) fg 1000000 54 [a, .int .i64 p] [] 0) = some (.tup [.int .i64 (powV l p), .int .i64 (powE l p)]) := by
 have hc := fun (site : Nat → Nat) seen => Z3k (d := d) (site := site) (seen := seen) ha hl
 have sn := ZI ha
 unfold powV
 by_cases h0 : chkR l = 0
 · rw [h0] at hc
   obtain ⟨h1, h6, hr⟩ := Z00.1 h0
   obtain ⟨ex, rfl⟩ := Z0M ha h1
   by_cases hp : p < 1 ∨ p > 4
   · have e : powE l p = 1 := by unfold powE; rw [if_neg (fun e => e h0), if_pos hp]
     rw [e, if_neg (by decide)]
     generalize kF (d + 1) = C at *
     by_cases c1 : p < 1
     · simp (disch := omega) only [ZF, ↓gd, Z4, stp, opPick, just, Rd.bind, Rd.run, Rd.opt, upds, resA, resL, aBin, aInt, Nat.reduceBEq, Nat.reduceEqDiff, Nat.reduceLeDiff, ↓reduceIte, reduceCtorEq, aCall, snaps, F_54, hc, c1]
     · have c2 : p > 4 := by omega
       simp (disch := omega) only [ZF, ↓gd, Z4, stp, opPick, just, Rd.bind, Rd.run, Rd.opt, upds, resA, resL, aBin, aInt, Nat.reduceBEq, Nat.reduceEqDiff, Nat.reduceLeDiff, ↓reduceIte, reduceCtorEq, aCall, snaps, F_54, hc, c1, c2]
   · have e : powE l p = 0 := by unfold powE; rw [if_neg (fun e => e h0), if_neg hp]
     rw [e, if_pos rfl]
     obtain ⟨q, rfl⟩ : ∃ q : Nat, p = q := ⟨p.toNat, by omega⟩
     rw [Int.toNat_natCast]
     have hlen := Z5 l
     have hloop := loopM (f := execA E (kF (d + 1)) (fg 54) 0 44 [] 1000000 Z4P) (E0 := []) (fun i => pwS (.imm (ics l) l.length ex) q l.length i (ps (poF l q) i)) l.length (fun i hi => Z0gK hr h6 (by omega) (by omega) i hi) rfl (by omega)
       (e := .exit 1) (se := ([(27, .bool false), (26, .int .i64 l.length), (25, .int .i64 l.length), (24, .imm (ics l) l.length ex), (7, .int .i64 (ps (poF l q) l.length)), (1, .int .i64 q)], []))
       (by
         simp only [pwS]
         simp (disch := omega) only [ZF, stp, just, Rd.bind, Rd.run, Rd.opt, upds, aBin, aInt, Nat.reduceEqDiff, Nat.reduceLeDiff, ↓reduceIte, F_54]) (by simp)
     have e0 : ps (poF l q) 0 = 0 := rfl
     simp only [pwS, e0, cl0] at hloop
     have c1 : ¬ (q : Int) < 1 := by omega
     have c2 : ¬ (q : Int) > 4 := by omega
     generalize kF (d + 1) = C at *
     simp (disch := omega) only [ZF, ↓gd, Z4, stp, opPick, just, Rd.bind, Rd.run, Rd.opt, upds, resA, resL, aLen, Z2, aBin, aInt, Nat.reduceBEq, Nat.reduceEqDiff, Nat.reduceLeDiff, ↓reduceIte, reduceCtorEq, aCall, snaps, ZT, F_54, hc, c1, c2, hloop]
 · have e : powE l p = chkR l := if_pos h0
   rw [e, if_neg h0]
   generalize kF (d + 1) = C at *
   generalize chkR l = z at *
   have h0' : (z == 0) = false := by rw [beq_eq_false_iff_ne]; exact h0
   simp (disch := omega) only [ZF, ↓gd, Z4, stp, opPick, just, Rd.bind, Rd.run, Rd.opt, upds, resA, resL, aBin, aInt, Nat.reduceBEq, Nat.reduceEqDiff, Nat.reduceLeDiff, ↓reduceIte, reduceCtorEq, aCall, snaps, F_54, hc, h0, sn 198]
theorem ZDb {d : Nat} {site : Nat → Nat} {seen : List Nat} {l : List Int} {a : AV} {p : Int} (ha : IV l a) (hl : l.length ≤ 1000) : aBack site true seen (thaw (kF (d + 2)) 54 [a, .int .i64 p] [] 0) = .pure (.tup [.int .i64 (powV l p), .int .i64 (powE l p)], []) :=
 Z9N (Z3j rfl (ZFz ha hl))
end Go.AM.Ytfmnoohhhokicaa
end
noncomputable section
namespace Go.AM.Ytfmnoohhhokicaa
open Go Go.AM Go.AM.Rub
abbrev rtO (l : List Int) (n : Nat) (x : Bool) (t : Nat) : St := ([(6, .int .i64 t), (5, oV 54 1 t), (0, .imm (ics l) n x)], oH 54 (ics (cnjL l t)))
abbrev rtI (l : List Int) (n : Nat) (x : Bool) (t k : Nat) : St := ([(8, .int .i64 k), (7, .int .i64 (cntL t (l.take k))), (6, .int .i64 t), (5, oV 54 1 t), (0, .imm (ics l) n x)], oH 54 (ics (cnjL l t)))
theorem ocvT (l : List Int) (t : Nat) : (t = 0 ∧ oV 54 1 t = .nilsl ∧ oH 54 (ics (cnjL l t)) = []) ∨ (0 < t ∧ oV 54 1 t = .ref 54 0 t t t 1 false ∧ oH 54 (ics (cnjL l t)) = [(54, ⟨.row, ics (cnjL l t)⟩)]) := by
 cases t with
 | zero => exact .inl ⟨rfl, rfl, rfl⟩
 | succ t => exact .inr ⟨by omega, Z14 (by omega), Z3p (by rw [Zl]; omega)⟩
theorem Z0iv {C : Callee} {l : List Int} {n : Nat} {x : Bool} (hl : l.length = n) (h6 : n ≤ 8) (t k : Nat) (hk : k < n) :
   ∃ s', (execA E C (fg 53) 0 56 [] 1000000 Z52) (rtI l n x t k) = some (.normal, s') ∧ headA [] s' = rtI l n x t (k + 1) := by
 have hlen : (ics l).length = n := by rw [Z5, hl]
 have a1 := ZR (l := l) (k := k) (by omega)
 have g1 : (k : Int) < n := by omega
 have ht : l.take (k + 1) = l.take k ++ [rowF l k] := by rw [List.take_add_one, Zdk (by omega)]; rfl
 have e := Z5F t (rowF l k) (l.take k)
 have hb := Z3R t (l.take k)
 rw [List.length_take] at hb
 simp only [rtI, ht, e]
 generalize cntL (t : Int) (l.take k) = c at *
 generalize rowF l k = w at *
 by_cases hg : w > (t : Int)
 · have w1 : wrp .i64 (c + 1) = c + 1 := Zs (by omega)
   rw [if_pos hg]
   rcases ocvT l t with ⟨_, o1, o2⟩ | ⟨_, o1, o2⟩ <;> rw [o1, o2] <;>
     simp (disch := omega) only [ZF, stp, just, Rd.bind, Rd.run, Rd.opt, upds, tsz, rdCells, aLoad, Z3, aNum, aLen, Z2, aBin, aInt, Nat.reduceLT, Nat.reduceBEq, Nat.reduceEqDiff, Nat.reduceLeDiff, ↓reduceIte, reduceCtorEq, ZT, F_53, hlen, a1, g1, hg, w1, Zk (show k < 1000000 by omega)] <;>
     exact ⟨_, rfl, rfl⟩
 · rw [if_neg hg, Int.add_zero]
   rcases ocvT l t with ⟨_, o1, o2⟩ | ⟨_, o1, o2⟩ <;> rw [o1, o2] <;>
     simp (disch := omega) only [ZF, stp, just, Rd.bind, Rd.run, Rd.opt, upds, tsz, rdCells, aLoad, Z3, aNum, aLen, Z2, aBin, aInt, Nat.reduceLT, Nat.reduceBEq, Nat.reduceEqDiff, Nat.reduceLeDiff, ↓reduceIte, reduceCtorEq, ZT, F_53, hlen, a1, g1, hg, Zk (show k < 1000000 by omega)] <;>
     exact ⟨_, rfl, rfl⟩
theorem ZHh (l : List Int) (t : Nat) : cnjL l (t + 1) = cnjL l t ++ [cntL t l] := by
 unfold cnjL
 rw [List.range_succ, List.map_append]
 rfl
theorem Z0ji {C : Callee} {l : List Int} {n m : Nat} {x : Bool} (hl : l.length = n) (h0 : 0 < n) (h6 : n ≤ 8) (hm : rowF l 0 = m) (h8 : m ≤ 8) (t : Nat) (ht : t < m) :
   ∃ s', (execA E C (fg 53) 0 56 [] 1000000 Z4R) (rtO l n x t) = some (.normal, s') ∧ headA [] s' = rtO l n x (t + 1) := by
 have hlen : (ics l).length = n := by rw [Z5, hl]
 have a0 := ZR (l := l) (k := 0) (by omega)
 rw [hm] at a0
 have g0 : (0 : Int) < n := by omega
 have g1 : (t : Int) < m := by omega
 have hloop := loopM (f := (execA E C (fg 53) 0 56 [] 1000000 Z52)) (E0 := []) (rtI l n x t) n (fun k hk => Z0iv hl h6 t k hk) (by
     simp only [rtI]
     rcases ocvT l t with ⟨_, o1, o2⟩ | ⟨_, o1, o2⟩ <;> rw [o1, o2] <;> rfl) (by omega)
   (e := .exit 2) (se := (((40, .bool false) :: (rtI l n x t n).1 : AFr), (rtI l n x t n).2))
   (by
     simp only [rtI]
     rcases ocvT l t with ⟨_, o1, o2⟩ | ⟨_, o1, o2⟩ <;> rw [o1, o2] <;>
       simp (disch := omega) only [ZF, stp, just, Rd.bind, Rd.run, Rd.opt, upds, aLen, Z2, aBin, aInt, Nat.reduceBEq, Nat.reduceEqDiff, Nat.reduceLeDiff, ↓reduceIte, reduceCtorEq, ZT, F_53]) (by simp)
 have e0 : cntL t (l.take 0) = 0 := rfl
 have e1 : l.take n = l := List.take_of_length_le (by omega)
 simp only [rtI, e0, e1, cl0] at hloop
 have hsn := Z5j (cnjL l t) (cntL t l)
 have es := ZHh l t
 have o1' : oV 54 1 (t + 1) = .ref 54 0 (t + 1) (t + 1) (t + 1) 1 false := Z14 (by omega)
 have o2' : oH 54 (ics (cnjL l (t + 1))) = [(54, ⟨.row, ics (cnjL l (t + 1))⟩)] := Z3p (by rw [Zl]; omega)
 have hlc : (ics (cnjL l t)).length = t := by rw [Z5, Zl]
 have htc : List.take t (ics (cnjL l t)) = ics (cnjL l t) := List.take_of_length_le (by omega)
 have hno : ¬ t + 1 ≤ t := by omega
 simp only [rtO]
 rw [o1', o2', es, ← hsn]
 generalize cntL (t : Int) l = c at *
 rcases ocvT l t with ⟨hz, o1, o2⟩ | ⟨_, o1, o2⟩ <;> rw [o1, o2] at hloop ⊢
 · subst hz
   have z : ics (cnjL l 0) = [] := rfl
   rw [z] at *
   simp only [List.nil_append, Nat.zero_add] at *
   simp (disch := omega) only [ZF, stp, just, Rd.bind, Rd.run, Rd.opt, upds, acells, zeroCells, tsz, elemT, rdCells, aLoad, fresh, Z3, aNum, Z2, aBin, aInt, putC, evO, Nat.reduceAdd, Nat.reduceLT, Nat.reduceBEq, Nat.reduceEqDiff, Nat.reduceLeDiff, ↓reduceIte, reduceCtorEq, Z8, Zn, partsOf, fillA, repC, Zu, aAppend, srcOf, window, snaps, Int.reduceLE, Int.reduceToNat, ZT, F_53, hlen, a0, g0, g1, hloop, Z23 (show 1 ≤ 1000000 by omega), Zk (show 0 < 1000000 by omega)]
   exact ⟨_, rfl, rfl⟩
 · generalize ics (cnjL l t) = K at *
   simp (disch := omega) only [ZF, stp, just, Rd.bind, Rd.run, Rd.opt, upds, acells, zeroCells, tsz, elemT, rdCells, aLoad, fresh, Z3, aNum, Z2, aBin, aInt, putC, evO, Nat.reduceAdd, Nat.reduceLT, Nat.reduceBEq, Nat.reduceEqDiff, Nat.reduceLeDiff, ↓reduceIte, reduceCtorEq, Z8, Zn, partsOf, fillA, repC, Zu, aAppend, srcOf, window, snaps, Int.reduceLE, Int.reduceToNat, ZT, F_53, hlen, a0, g0, g1, hloop, hlc, htc, hno, Z23 (show t + 1 ≤ 1000000 by omega), Zk (show t < 1000000 by omega)]
   exact ⟨_, rfl, rfl⟩
theorem ZrB {d : Nat} {l : List Int} {a : AV} (ha : IV l a) (hl : l.length ≤ 1000) :
   (turE l ≠ 0 ∧ ∃ H, bodyA E (kF (d + 2)) fg 1000000 53 [a] [] 0 = some (.tup [.nilsl, .int .i64 (turE l)], H)) ∨
   (turE l = 0 ∧ ∃ H, bodyA E (kF (d + 2)) fg 1000000 53 [a] [] 0 = some (.tup [.ref 54 0 (turL l).length (turL l).length (turL l).length 1 false, .int .i64 0], H) ∧ hget H 54 = some ⟨.row, ics (turL l)⟩) := by
 have hc := fun (site : Nat → Nat) seen => Z2y (d := d) (site := site) (seen := seen) ha hl
 have sn := ZI ha
 unfold turE
 by_cases h0 : chkR l = 0
 · obtain ⟨hp, h6, hr⟩ := Z00.1 h0
   rw [if_neg (fun e => e h0)]
   obtain ⟨ex, rfl⟩ := Z0M ha hp
   have a0 := ZR (l := l) (k := 0) hp
   have hln := Z5 l
   have b0 := rw_b hr (k := 0) hp
   have g0 : (0 : Int) < (l.length : Int) := by omega
   rw [h0] at hc
   by_cases c1 : rowF l 0 = 0
   · rw [if_pos c1]
     refine .inl ⟨by decide, ?_⟩
     rw [c1] at a0
     generalize kF (d + 2) = C at *
     simp (disch := omega) only [ZF, ↓gd, Z4, stp, opPick, just, Rd.bind, Rd.run, Rd.opt, upds, tsz, rdCells, aLoad, resA, resL, Z3, aNum, aBin, aInt, Nat.reduceLT, Nat.reduceBEq, Nat.reduceEqDiff, Nat.reduceLeDiff, ↓reduceIte, reduceCtorEq, aCall, snaps, Int.reduceEq, Int.reduceLE, Int.reduceToNat, ZT, F_53, hc, hln, a0, g0]
     exact ⟨_, rfl⟩
   · rw [if_neg c1]
     have c1' : (rowF l 0 == 0) = false := by rw [beq_eq_false_iff_ne]; exact c1
     by_cases c2 : rowF l 0 > 6
     · rw [if_pos c2]
       refine .inl ⟨by decide, ?_⟩
       generalize kF (d + 2) = C at *
       generalize rowF l 0 = v at *
       simp (disch := omega) only [ZF, ↓gd, Z4, stp, opPick, just, Rd.bind, Rd.run, Rd.opt, upds, tsz, rdCells, aLoad, resA, resL, Z3, aNum, aBin, aInt, Nat.reduceLT, Nat.reduceBEq, Nat.reduceEqDiff, Nat.reduceLeDiff, ↓reduceIte, reduceCtorEq, aCall, snaps, Int.reduceEq, Int.reduceLE, Int.reduceToNat, ZT, F_53, hc, hln, a0, g0, c1', c2]
       exact ⟨_, rfl⟩
     · rw [if_neg c2]
       refine .inr ⟨rfl, ?_⟩
       unfold turL
       obtain ⟨m, hm⟩ : ∃ m : Nat, rowF l 0 = m := ⟨(rowF l 0).toNat, by omega⟩
       have hloop := loopM (f := execA E (kF (d + 2)) (fg 53) 0 56 [] 1000000 Z4R) (E0 := []) (rtO l l.length ex) m (fun t ht => Z0ji rfl hp (by omega) hm (by omega) t ht) rfl (by omega)
         (e := .exit 0) (se := ([(34, .bool false), (6, .int .i64 m), (5, .ref 54 0 m m m 1 false), (0, .imm (ics l) l.length ex)], [(54, ⟨.row, ics (cnjL l m)⟩)]))
         (by
           rw [hm] at a0
           have o1' : oV 54 1 m = .ref 54 0 m m m 1 false := Z14 (by omega)
           have o2' : oH 54 (ics (cnjL l m)) = [(54, ⟨.row, ics (cnjL l m)⟩)] := Z3p (by rw [Zl]; omega)
           simp only [rtO, o1', o2']
           generalize kF (d + 2) = C at *
           simp (disch := omega) only [ZF, stp, just, Rd.bind, Rd.run, Rd.opt, upds, tsz, rdCells, aLoad, Z3, aNum, aBin, aInt, Nat.reduceLT, Nat.reduceBEq, Nat.reduceEqDiff, Nat.reduceLeDiff, ↓reduceIte, reduceCtorEq, Int.reduceLE, Int.reduceToNat, ZT, F_53, hln, a0, g0]) (by simp)
       rw [hm] at a0 c1 c1' c2 ⊢
       rw [Int.toNat_natCast, Zl]
       have z1 : oV 54 1 0 = .nilsl := rfl
       have z2 : oH 54 (ics (cnjL l 0)) = [] := rfl
       simp only [rtO, z1, z2, cl0] at hloop
       generalize kF (d + 2) = C at *
       simp (disch := omega) only [ZF, ↓gd, Z4, stp, opPick, just, Rd.bind, Rd.run, Rd.opt, upds, tsz, rdCells, aLoad, resA, resL, Z3, aNum, aBin, aInt, Nat.reduceLT, Nat.reduceBEq, Nat.reduceEqDiff, Nat.reduceLeDiff, ↓reduceIte, reduceCtorEq, aCall, snaps, Int.reduceLE, Int.reduceToNat, ZT, F_53, hc, hln, a0, g0, c1', c2, hloop]
       exact ⟨_, rfl, rfl⟩
 · rw [if_pos h0]
   refine .inl ⟨h0, ?_⟩
   generalize kF (d + 2) = C at *
   generalize chkR l = z at *
   have h0' : (z == 0) = false := by rw [beq_eq_false_iff_ne]; exact h0
   simp (disch := omega) only [ZF, ↓gd, Z4, stp, opPick, just, Rd.bind, Rd.run, Rd.opt, upds, resA, resL, aBin, aInt, Nat.reduceBEq, Nat.reduceEqDiff, Nat.reduceLeDiff, ↓reduceIte, reduceCtorEq, aCall, snaps, F_53, hc, h0, h0', sn 198]
   exact ⟨_, rfl⟩
theorem ZBr {d : Nat} {l : List Int} {a : AV} (ha : IV l a) (hl : l.length ≤ 1000) : RL (kF (d + 3)) 53 [a] (turE l) (turL l) := by
 refine ZgA (n := (turL l).length) ?_ rfl
 rcases ZrB (d := d) ha hl with ⟨h, H, h1⟩ | ⟨h, H, h1, h2⟩
 · exact .inl ⟨h, H, by rw [ZW rfl]; exact h1⟩
 · exact .inr ⟨h, 54, H, by rw [ZW rfl]; exact h1, h2⟩
abbrev rpO (l : List Int) (n : Nat) (x : Bool) (p i : Nat) : St := ([(8, .int .i64 i), (7, .int .i64 (ps (poF l p) i)), (1, .int .i64 p), (0, .imm (ics l) n x)], [])
abbrev rpI (l : List Int) (n : Nat) (x : Bool) (p i k : Nat) (v : Int) : St := ([(10, .int .i64 k), (9, .int .i64 (pw v k)), (8, .int .i64 i), (7, .int .i64 (ps (poF l p) i)), (1, .int .i64 p), (0, .imm (ics l) n x)], [])
theorem Z0kf {C : Callee} {l : List Int} {n : Nat} {x : Bool} (h : Rw n l) (h6 : n ≤ 6) {p : Nat} (h4 : p ≤ 4) (i : Nat) (hi : i < n) :
   ∃ s', (execA E C (fg 55) 0 44 [] 1000000 Z55) (rpO l n x p i) = some (.normal, s') ∧ headA [] s' = rpO l n x p (i + 1) := by
 have hlen : (ics l).length = n := by rw [Z5, h.len]
 have hat := ZR (l := l) (k := i) (by rw [h.len]; exact hi)
 have bx := rw_b h hi
 have bs := po_b h h4 i (by omega)
 have hpx := pw_b bx p h4
 have hps : ps (poF l p) (i + 1) = ps (poF l p) i + pw (rowF l i) p := rfl
 have g1 : (i : Int) < n := by omega
 have hloop := loopM (f := (execA E C (fg 55) 0 44 [] 1000000 Z5X)) (E0 := []) (fun k => rpI l n x p i k (rowF l i)) p (fun k hk => by
     have hq := pw_b bx k (by omega)
     have hq2 := pw_b bx (k + 1) (by omega)
     have e : pw (rowF l i) (k + 1) = pw (rowF l i) k * rowF l i := rfl
     have w1 : wrp .i64 (pw (rowF l i) k * rowF l i) = pw (rowF l i) k * rowF l i := by rw [← e]; exact Zs (by omega)
     have g2 : (k : Int) < (p : Int) := by omega
     simp only [rpI, e]
     generalize ps (poF l p) i = s at *
     generalize rowF l i = v at *
     generalize pw v k = y at *
     simp (disch := omega) only [ZF, stp, just, Rd.bind, Rd.run, Rd.opt, upds, tsz, rdCells, aLoad, Z3, aNum, aBin, aInt, Nat.reduceLT, Nat.reduceBEq, Nat.reduceEqDiff, Nat.reduceLeDiff, ↓reduceIte, reduceCtorEq, ZT, F_55, hlen, hat, g1, g2, w1, Zk (show k < 1000000 by omega)]
     exact ⟨_, rfl, rfl⟩) rfl (by omega)
   (e := .exit 2) (se := (((31, .bool false) :: (rpI l n x p i p (rowF l i)).1 : AFr), []))
   (by
     simp only [rpI]
     simp (disch := omega) only [ZF, stp, just, Rd.bind, Rd.run, Rd.opt, upds, aBin, aInt, Nat.reduceBEq, Nat.reduceEqDiff, Nat.reduceLeDiff, ↓reduceIte, F_55]) (by simp)
 have e0 : pw (rowF l i) 0 = 1 := rfl
 simp only [rpI, e0, cl0] at hloop
 simp only [rpO, hps]
 generalize ps (poF l p) i = s at *
 generalize pw (rowF l i) p = y at *
 have w2 : wrp .i64 (s + y) = s + y := Zs (by omega)
 simp (disch := omega) only [ZF, stp, just, Rd.bind, Rd.run, Rd.opt, upds, aLen, Z2, aBin, aInt, Nat.reduceBEq, Nat.reduceEqDiff, Nat.reduceLeDiff, ↓reduceIte, reduceCtorEq, ZT, F_55, g1, w2, hloop, Zk (show i < 1000000 by omega)]
 exact ⟨_, rfl, rfl⟩
theorem ZBF {d : Nat} {l : List Int} {a : AV} {p : Int} (ha : IV l a) (hl : l.length ≤ 1000) : rsOf (bodyA E (kF (d + 2)) fg 1000000 55 [a, .int .i64 p] [] 0) = some (.tup [.int .i64 (powV l p), .int .i64 (powE l p)]) := by
 have hc := fun (site : Nat → Nat) seen => Z2y (d := d) (site := site) (seen := seen) ha hl
 have hin := fun (site : Nat → Nat) seen x lo hi => Z5f (d := d + 1) (site := site) (seen := seen) (x := x) (lo := lo) (hi := hi)
 have sn := ZI ha
 unfold powV
 by_cases h0 : chkR l = 0
 · rw [h0] at hc
   obtain ⟨h1, h6, hr⟩ := Z00.1 h0
   obtain ⟨ex, rfl⟩ := Z0M ha h1
   by_cases hp : p < 1 ∨ p > 4
   · have e : powE l p = 1 := by unfold powE; rw [if_neg (fun e => e h0), if_pos hp]
     rw [e, if_neg (by decide)]
     have d1 : decide (1 ≤ p ∧ p ≤ 4) = false := decide_eq_false (by omega)
     generalize kF (d + 2) = C at *
     simp (disch := omega) only [ZF, ↓gd, Z4, stp, opPick, justO, just, Rd.bind, Rd.run, Rd.opt, upds, resA, resL, aBin, aInt, Nat.reduceBEq, Nat.reduceEqDiff, Nat.reduceLeDiff, ↓reduceIte, reduceCtorEq, aUn, aCall, snaps, Int.reduceEq, F_55, hc, hin, d1]
   · have e : powE l p = 0 := by unfold powE; rw [if_neg (fun e => e h0), if_neg hp]
     rw [e, if_pos rfl]
     obtain ⟨q, rfl⟩ : ∃ q : Nat, p = q := ⟨p.toNat, by omega⟩
     rw [Int.toNat_natCast]
     have hlen := Z5 l
     have d1 : decide (1 ≤ (q : Int) ∧ (q : Int) ≤ 4) = true := decide_eq_true (by omega)
     have hloop := loopM (f := execA E (kF (d + 2)) (fg 55) 0 44 [] 1000000 Z55) (E0 := []) (rpO l l.length ex q) l.length (fun i hi => Z0kf hr h6 (by omega) i hi) rfl (by omega)
       (e := .exit 0) (se := (((26, .bool false) :: (rpO l l.length ex q l.length).1 : AFr), []))
       (by
         generalize kF (d + 2) = C at *
         simp only [rpO]
         simp (disch := omega) only [ZF, stp, just, Rd.bind, Rd.run, Rd.opt, upds, aLen, Z2, aBin, aInt, Nat.reduceBEq, Nat.reduceEqDiff, Nat.reduceLeDiff, ↓reduceIte, reduceCtorEq, ZT, F_55]) (by simp)
     have e0 : ps (poF l q) 0 = 0 := rfl
     simp only [rpO, e0, cl0] at hloop
     generalize kF (d + 2) = C at *
     simp (disch := omega) only [ZF, ↓gd, Z4, stp, opPick, justO, just, Rd.bind, Rd.run, Rd.opt, upds, resA, resL, aBin, aInt, Nat.reduceBEq, Nat.reduceEqDiff, Nat.reduceLeDiff, ↓reduceIte, reduceCtorEq, aUn, aCall, snaps, F_55, hc, hin, d1, hloop]
 · have e : powE l p = chkR l := if_pos h0
   rw [e, if_neg h0]
   generalize kF (d + 2) = C at *
   generalize chkR l = z at *
   have h0' : (z == 0) = false := by rw [beq_eq_false_iff_ne]; exact h0
   simp (disch := omega) only [ZF, ↓gd, Z4, stp, opPick, just, Rd.bind, Rd.run, Rd.opt, upds, resA, resL, aBin, aInt, Nat.reduceBEq, Nat.reduceEqDiff, Nat.reduceLeDiff, ↓reduceIte, reduceCtorEq, aCall, snaps, F_55, hc, h0, h0', sn 198]
theorem ZrF {d : Nat} {site : Nat → Nat} {seen : List Nat} {l : List Int} {a : AV} {p : Int} (ha : IV l a) (hl : l.length ≤ 1000) : aBack site true seen (thaw (kF (d + 3)) 55 [a, .int .i64 p] [] 0) = .pure (.tup [.int .i64 (powV l p), .int .i64 (powE l p)], []) :=
 Z9N (Z3j rfl (ZBF ha hl))
end Go.AM.Ytfmnoohhhokicaa
end
noncomputable section
namespace Go.AM.Ytfmnoohhhokicaa
open Go Go.AM Go.AM.Rub
theorem ZMj {d : Nat} {l m : List Int} {a b : AV} (ha : IV l a) (hb : IV m b) (hl : l.length ≤ 1000) (hm : m.length ≤ 1000) :
   (pairE l m ≠ 0 ∧ ∃ H, bodyA E (kF (d + 2)) fg 1000000 46 [a, b] [] 0 = some (.tup [.nilsl, .int .i64 (pairE l m)], H)) ∨
   (pairE l m = 0 ∧ ∃ g H, bodyA E (kF (d + 2)) fg 1000000 46 [a, b] [] 0 = some (.tup [.ref g 0 l.length l.length l.length 1 false, .int .i64 0], H) ∧ hget H g = some ⟨.row, ics (lowL l m)⟩) := by
 have hp := paC (d := d) ha hb hl hm
 have sa := ZI ha
 have sb := ZI hb
 rcases hp with ⟨h, hp⟩ | ⟨h, hp⟩
 · refine .inl ⟨h, ?_⟩
   generalize kF (d + 2) = C at *
   generalize pairE l m = z at *
   have h0' : (z == 0) = false := by rw [beq_eq_false_iff_ne]; exact h
   simp (disch := omega) only [ZF, Z4, stp, justO, just, Rd.bind, Rd.run, Rd.opt, upds, Zc, resA, resL, aBin, aInt, Nat.reduceBEq, Nat.reduceEqDiff, Nat.reduceLeDiff, ↓reduceIte, reduceCtorEq, aCall, snaps, F_46, hp, h, sa 198, sb 197]
   exact ⟨_, rfl⟩
 · obtain ⟨n, n0, n6, r1, r2, re⟩ := Z5m.1 h
   refine .inr ⟨h, 21, ?_⟩
   have hlo := fun (site : Nat → Nat) seen x y => ZcO (d := d) (site := site) (seen := seen) (x := x) (y := y) r1 r2 n0 (by omega)
   obtain ⟨xa, rfl⟩ := Z0M ha (by rw [r1.len]; exact n0)
   obtain ⟨xb, rfl⟩ := Z0M hb (by rw [r2.len]; exact n0)
   rw [r1.len, r2.len] at hp
   rw [r1.len, r2.len]
   have l1 := Z1o l
   have l2 := Z1o m
   rw [r1.len] at l1
   rw [r2.len] at l2
   generalize kF (d + 2) = C at *
   simp (disch := omega) only [ZF, Z4, stp, justO, just, Rd.bind, Rd.run, Rd.opt, upds, Zc, resA, resL, aBin, aInt, Nat.reduceAdd, Nat.reduceMul, Nat.reduceBEq, Nat.reduceEqDiff, Nat.reduceLeDiff, ↓reduceIte, reduceCtorEq, aCall, snaps, F_46, hp, hlo]
   exact ⟨_, rfl, rfl⟩
theorem Z040 {d : Nat} {l m : List Int} {a b : AV} (ha : IV l a) (hb : IV m b) (hl : l.length ≤ 1000) (hm : m.length ≤ 1000) : RL (kF (d + 3)) 46 [a, b] (pairE l m) (lowL l m) := by
 refine ZgA (n := l.length) ?_ (ZE l m)
 rw [ZW rfl]; exact ZMj ha hb hl hm
theorem ZKj {d : Nat} {l m : List Int} {a b : AV} (ha : IV l a) (hb : IV m b) (hl : l.length ≤ 1000) (hm : m.length ≤ 1000) :
   (pairE l m ≠ 0 ∧ ∃ H, bodyA E (kF (d + 2)) fg 1000000 48 [a, b] [] 0 = some (.tup [.nilsl, .int .i64 (pairE l m)], H)) ∨
   (pairE l m = 0 ∧ ∃ g H, bodyA E (kF (d + 2)) fg 1000000 48 [a, b] [] 0 = some (.tup [.ref g 0 l.length l.length l.length 1 false, .int .i64 0], H) ∧ hget H g = some ⟨.row, ics (joinL l m)⟩) := by
 have hp := paC (d := d) ha hb hl hm
 have sa := ZI ha
 have sb := ZI hb
 rcases hp with ⟨h, hp⟩ | ⟨h, hp⟩
 · refine .inl ⟨h, ?_⟩
   generalize kF (d + 2) = C at *
   generalize pairE l m = z at *
   have h0' : (z == 0) = false := by rw [beq_eq_false_iff_ne]; exact h
   simp (disch := omega) only [ZF, Z4, stp, justO, just, Rd.bind, Rd.run, Rd.opt, upds, Zc, resA, resL, aBin, aInt, Nat.reduceBEq, Nat.reduceEqDiff, Nat.reduceLeDiff, ↓reduceIte, reduceCtorEq, aCall, snaps, F_48, hp, h, sa 198, sb 197]
   exact ⟨_, rfl⟩
 · obtain ⟨n, n0, n6, r1, r2, re⟩ := Z5m.1 h
   refine .inr ⟨h, 26, ?_⟩
   have c1 := Z3q r1.len (show n ≤ 8 by omega) 8
   have c2 := Z3q r2.len (show n ≤ 8 by omega) 8
   have hlo := fun (site : Nat → Nat) seen x y => ZcO (d := d) (site := site) (seen := seen) (x := x) (y := y) c1 c2 (by omega) (by omega)
   have t1 := fun (site : Nat → Nat) seen x => Z2B (d := d + 1) (site := site) (seen := seen) (m := 8) (x := x) r1.len (by omega) (by omega)
   have t2 := fun (site : Nat → Nat) seen x => Z2B (d := d + 1) (site := site) (seen := seen) (m := 8) (x := x) r2.len (by omega) (by omega)
   have t3 := fun (site : Nat → Nat) seen x => Z2B (d := d + 1) (site := site) (seen := seen) (m := n) (x := x) (l := lowL (cnjL l 8) (cnjL m 8)) (n := 8) (by rw [ZE, Zl]) (by omega) (by omega)
   have eJ : joinL l m = cnjL (lowL (cnjL l 8) (cnjL m 8)) n := by unfold joinL; rw [r1.len]
   obtain ⟨xa, rfl⟩ := Z0M ha (by rw [r1.len]; exact n0)
   obtain ⟨xb, rfl⟩ := Z0M hb (by rw [r2.len]; exact n0)
   rw [r1.len, r2.len] at hp
   rw [r1.len, r2.len, eJ]
   have z8 : ((8 : Nat) : Int) = 8 := rfl
   rw [z8] at t1 t2
   have l0 : (ics l).length = n := by rw [Z5, r1.len]
   have l1 : (ics (cnjL l 8)).length = 8 := by rw [Z5, Zl]
   have l2 : (ics (cnjL m 8)).length = 8 := by rw [Z5, Zl]
   have l3 : (ics (lowL (cnjL l 8) (cnjL m 8))).length = 8 := by rw [Z5, ZE, Zl]
   have k1 : List.take 8 (ics (cnjL l 8)) = ics (cnjL l 8) := List.take_of_length_le (by omega)
   have k2 : List.take 8 (ics (cnjL m 8)) = ics (cnjL m 8) := List.take_of_length_le (by omega)
   have k3 : List.take 8 (ics (lowL (cnjL l 8) (cnjL m 8))) = ics (lowL (cnjL l 8) (cnjL m 8)) := List.take_of_length_le (by omega)
   generalize kF (d + 2) = C at *
   generalize ics (cnjL (lowL (cnjL l 8) (cnjL m 8)) n) = J at *
   generalize ics (lowL (cnjL l 8) (cnjL m 8)) = W at *
   generalize ics (cnjL l 8) = U at *
   generalize ics (cnjL m 8) = V at *
   simp (disch := omega) only [ZF, Z4, stp, justO, just, Rd.bind, Rd.run, Rd.opt, upds, Zc, resA, resL, aLen, Z2, aBin, aInt, Nat.reduceAdd, Nat.reduceMul, Nat.reduceBEq, Nat.reduceEqDiff, Nat.reduceLeDiff, ↓reduceIte, reduceCtorEq, aCall, snaps, ZT, F_48, hp, hlo, t1, t2, t3, l1, l2, l3, k1, k2, k3]
   exact ⟨_, rfl, rfl⟩
theorem ZWZ {d : Nat} {l m : List Int} {a b : AV} (ha : IV l a) (hb : IV m b) (hl : l.length ≤ 1000) (hm : m.length ≤ 1000) : RL (kF (d + 3)) 48 [a, b] (pairE l m) (joinL l m) := by
 refine ZgA (n := l.length) ?_ (by unfold joinL; rw [Zl])
 rw [ZW rfl]; exact ZKj ha hb hl hm
end Go.AM.Ytfmnoohhhokicaa
end
noncomputable section
namespace Go.AM.Ytfmnoohhhokicaa
open Go Go.AM Go.AM.Rub
structure SaC (C : Callee) : Prop where
 nn : ∀ (site : Nat → Nat) seen, aBack site true seen (thaw C 24 [.nilsl, .nilsl] [] 0) = .pure (.bool true, [])
 ll : ∀ (site : Nat → Nat) seen l n x y, l.length = n → n ≤ 1000 → aBack site true seen (thaw C 24 [.imm (ics l) n x, .imm (ics l) n y] [] 0) = .pure (.bool true, [])
theorem saC (d : Nat) : SaC (kF (d + 1)) := by
 refine ⟨fun site seen => ?_, fun site seen l n x y h hl => ?_⟩
 · have := Zee (d := d) (site := site) (seen := seen) (l := []) (m := []) (.inl ⟨rfl, rfl⟩) (.inl ⟨rfl, rfl⟩) (by simp)
   rw [decide_eq_true rfl] at this; exact this
 · subst h
   have := Zee (d := d) (site := site) (seen := seen) (ZmN l x) (ZmN l y) hl
   rw [decide_eq_true rfl] at this; exact this
end Go.AM.Ytfmnoohhhokicaa
end
noncomputable section
namespace Go.AM.Ytfmnoohhhokicaa
open Go Go.AM Go.AM.Rub
theorem Zgg {l m : List Int} {a b : AV} (ha : IV l a) (hb : IV m b) (st sm pw : Int) (hw : ∃ H0, kF 40 17 [] [] 0 = some (.bool true, H0)) :
   rsOf (bodyA E (kF 40) fg 1000000 6 [a, b, .int .i64 st, .int .i64 sm, .int .i64 pw] [] 0) = some (.bool true) := by
 have hwk := fun (site : Nat → Nat) seen => Z3i (site := site) (seen := seen) hw
 have la := Z7L ha
 have lb := Z7L hb
 have sa := ZI ha
 have sb := ZI hb
 by_cases c1 : l.length > 40
 · have g1 : (l.length : Int) > 40 := by omega
   generalize kF 40 = C at *
   simp (disch := omega) only [ZF, ↓gd, Z4, stp, opPick, just, Rd.bind, Rd.run, Rd.opt, upds, resA, resL, Z2, aBin, aInt, Nat.reduceAdd, Nat.reduceBEq, Nat.reduceEqDiff, Nat.reduceLeDiff, ↓reduceIte, reduceCtorEq, aCall, snaps, F_6, la, hwk, g1]
 · have g1 : ¬ (l.length : Int) > 40 := by omega
   by_cases c2 : m.length > 40
   · have g2 : (m.length : Int) > 40 := by omega
     generalize kF 40 = C at *
     simp (disch := omega) only [ZF, ↓gd, Z4, stp, opPick, just, Rd.bind, Rd.run, Rd.opt, upds, resA, resL, Z2, aBin, aInt, Nat.reduceAdd, Nat.reduceBEq, Nat.reduceEqDiff, Nat.reduceLeDiff, ↓reduceIte, reduceCtorEq, aCall, snaps, F_6, la, lb, hwk, g1, g2]
   · have g2 : ¬ (m.length : Int) > 40 := by omega
     have r1 := Z040 (d := 37) ha hb (by omega) (by omega)
     have r2 := ZK2 (d := 8) ha hb (by omega) (by omega)
     have r3 := ZWZ (d := 37) ha hb (by omega) (by omega)
     have r4 := ZMT (d := 8) ha hb (by omega) (by omega)
     have r5 := ZIf (d := 38) ha (by omega)
     have r6 := ZBr (d := 37) ha (by omega)
     have k1 := fun (site : Nat → Nat) seen => ZDm (d := 30) (n := st) (s := sm) site seen
     have k2 := fun (site : Nat → Nat) seen => ZrG (d := 8) (n := st) (s := sm) site seen
     have k3 := fun (site : Nat → Nat) seen => ZDb (d := 38) (site := site) (seen := seen) (p := pw) ha (by omega)
     have k4 := fun (site : Nat → Nat) seen => ZrF (d := 37) (site := site) (seen := seen) (p := pw) ha (by omega)
     have hs := saC 39
     have hnn := hs.nn
     have n3 : turE l = 0 → (turL l).length ≤ 1000 := fun h => by
       unfold turL
       rw [Zl]
       by_cases hg : rowF l 0 > 6
       · exfalso
         unfold turE at h
         by_cases h1 : chkR l = 0
         · rw [if_neg (fun e => e h1), if_neg (by omega), if_pos hg] at h
           exact absurd h (by decide)
         · rw [if_pos h1] at h
           exact h1 h
       · omega
     have ej : (joinL l m).length = l.length := Zl _ _
     have q1 := fun site seen x y => hs.ll site seen (lowL l m) l.length x y (ZE _ _) (by omega)
     have q2 := fun site seen x y => hs.ll site seen (joinL l m) l.length x y ej (by omega)
     have q3 := fun (h : turE l = 0) site seen x y => hs.ll site seen (turL l) _ x y rfl (n3 h)
     unfold RL at r1 r3
     unfold IL at r2 r4
     rw [ZE] at r1
     rw [ej] at r3
     have l1 : (ics (lowL l m)).length = l.length := by rw [Z5, ZE]
     have l2 : (ics (joinL l m)).length = l.length := by rw [Z5, ej]
     have l3 := Z5 (turL l)
     have t1 : List.take l.length (ics (lowL l m)) = ics (lowL l m) := List.take_of_length_le (by omega)
     have t2 : List.take l.length (ics (joinL l m)) = ics (joinL l m) := List.take_of_length_le (by omega)
     have t3 := ZEX (turL l)
     have ii : ∀ x : Int, (x != x) = false := fun x => by simp
     have ie : ∀ x : Int, (x == x) = true := fun x => by simp
     clear hs n3 ej
     generalize hk : kF 40 = C at *
     generalize ics (lowL l m) = L1 at *
     generalize ics (joinL l m) = L2 at *
     generalize turL l = L3 at *
     generalize pairE l m = z1 at *
     generalize turE l = z2 at *
     generalize cntX st sm = u1 at *
     generalize cntY st sm = u2 at *
     generalize powE l pw = u3 at *
     generalize powV l pw = u4 at *
     generalize l.length = n at *
     rcases r1 with ⟨e1, r1⟩ | ⟨e1, r1⟩ <;> rcases r2 with ⟨f1, r2⟩ | ⟨f1, r2⟩ <;> first | exact absurd e1 f1 | exact absurd f1 e1 | skip
     all_goals rcases r3 with ⟨e3, r3⟩ | ⟨e3, r3⟩ <;> first | exact absurd e1 e3 | exact absurd e3 e1 | skip
     all_goals rcases r4 with ⟨f3, r4⟩ | ⟨f3, r4⟩ <;> first | exact absurd e1 f3 | exact absurd f3 e1 | skip
     all_goals rcases r5 with ⟨e5, r5⟩ | ⟨e5, r5⟩ <;> rcases r6 with ⟨f5, r6⟩ | ⟨f5, r6⟩ <;> first | exact absurd e5 f5 | exact absurd f5 e5 | skip
     all_goals first | (have q3 := q3 e5) | skip
     all_goals first | (simp (disch := omega) only [ZF, ↓gd, Z4, stp, opPick, justO, just, Rd.bind, Rd.run, Rd.opt, upds, Zc, resA, resL, Z2, aBin, aInt, Nat.reduceAdd, Nat.reduceBEq, Nat.reduceEqDiff, Nat.reduceLeDiff, ↓reduceIte, reduceCtorEq, aUn, aCall, snaps, F_6, la, lb, sa 198, sb 197, r1, r2, r3, r4, r5, r6, k1, k2, k3, k4, hnn, q1, q2, q3, l1, l2, l3, t1, t2, t3, hwk, g1, g2]; done) | (simp (disch := omega) only [ZF, ↓gd, Z4, stp, opPick, opBox, justO, just, Rd.bind, Rd.run, Rd.opt, upds, acells, zeroCells, tsz, elemT, rdCells, fieldOf, Z3f, aField, aLoad, aStore, opStore, opNil, Zc, resA, resL, fresh, Z3, aNum, Z2, aMin, aMax, aBin, aInt, putC, evO, ofV, ofV1, Nat.reduceAdd, Nat.reduceMul, Nat.reduceSub, Nat.reduceLT, Nat.reduceGT, Nat.reduceBEq, Nat.reduceEqDiff, Nat.reduceLeDiff, Int.reduceNeg, ↓reduceIte, reduceCtorEq, refsF, refsOf, refsL, stpT, ↓gdT, Rd.foot, writing, Zm, Tr.empty, Zo, apartT, disj, Z8, Zn, partsOf, fillA, repC, Zu, aAppend, srcOf, window, aUn, mutX, aCall, snaps, aConv, aBuild, placeF, aSlice, aBounds, bMax, bHigh, bLow, AV.flat, opCallV, Int.reduceEq, Int.reduceLE, Int.reduceLT, Int.reduceToNat, isBoolT, ZT, List.all_cons, List.all_nil, List.contains_cons, List.contains_nil, List.getD_cons_zero, List.getD_cons_succ, beq_self_eq_true, List.getD_nil, F_6, la, lb, sa 198, sa 197, sa 196, sb 198, sb 197, r1, r2, r3, r4, r5, r6, k1, k2, k3, k4, hnn, q1, q2, l1, l2, t1, t2, ii, ie, hwk, g1, g2, if_pos])
end Go.AM.Ytfmnoohhhokicaa
end
noncomputable section
namespace Go.AM.Ytfmnoohhhokicaa
open Go Go.AM
theorem ZBU : isTrue (kF 40 17 [] [] 0) = true := by kernel_rfl
theorem soundK (d : Nat) : CS Proofs.Try.prog E (kF d) := ZJg (Z7U envOk mixed fr fg 1000000 d)
theorem soundB : CS Proofs.Try.prog E (bodyA E (kF 40) fg 1000000) := ZrX envOk mixed fg 1000000 (soundK 40)
end Go.AM.Ytfmnoohhhokicaa
end
noncomputable section
namespace Go.AM.Ytfmnoohhhokicaa
open Go Go.AM Go.RowKit Go.Proofs Go.Proofs.Ytfmnoohhhokicaa Go.ChangeShapes Go.WideShapes Go.ChangeAt Go.AM.Rub
theorem laidOut : laidOutB Try.prog = true := by kernel_rfl
theorem Z91 : Try.prog.readableRec 22 = true := by kernel_rfl
theorem Zbp : 22 < Try.prog.types.size := of_decide_eq_true (by kernel_rfl)
theorem Z5n : Try.prog.readableRec 3 = true := by kernel_rfl
theorem Z5q : 3 < Try.prog.types.size := of_decide_eq_true (by kernel_rfl)
theorem ZrE {H : Type} {enc : TypeId × Value → H} {P : Program} {W : World} {base : Nat} {spare : Nat → Bool} {held : Bool} {t t' t'' t3 t4 : TypeId} {v v' v'' v3 v4 : Value} {d d' d'' d3 d4 : DataW H} {p p' p'' p3 p4 : List MemPlace} (h : DataW.Trod enc P W base spare held t v d p) (h' : DataW.Trod enc P W base spare held t' v' d' p')
   (h'' : DataW.Trod enc P W base spare held t'' v'' d'' p'') (h3 : DataW.Trod enc P W base spare held t3 v3 d3 p3) (h4 : DataW.Trod enc P W base spare held t4 v4 d4 p4) : DataW.TrodAll enc P W base spare held [t, t', t'', t3, t4] [v, v', v'', v3, v4] [d, d', d'', d3, d4] (p ++ (p' ++ (p'' ++ (p3 ++ p4)))) := ⟨p, p' ++ (p'' ++ (p3 ++ p4)), h, trodAll_mk4 h' h'' h3 h4, rfl⟩
theorem Ze8 {W : World} {a0 : AV} {l0 : List Int} {v0 : Value} {a1 : AV} {l1 : List Int} {v1 : Value} {x2 : Int} {x3 : Int} {x4 : Int} (h0 : IV l0 a0) (r0 : (start (fun k => k < W.heap.size) W).R a0 v0) (h1 : IV l1 a1) (r1 : (start (fun k => k < W.heap.size) W).R a1 v1) :
   Calls Try.prog 6 #[v0, v1, .int .i64 x2, .int .i64 x3, .int .i64 x4] W fun e w' => e = .returned (.bool true) ∧ Below W.heap.size W w' := by
 obtain ⟨H0, hw⟩ := ZDJ ZBU
 obtain ⟨H1, hr⟩ := ZRz (Zgg h0 h1 x2 x3 x4 ⟨H0, hw⟩)
 refine ZXh soundB hr (fun k h => h) (vs := [v0, v1, .int .i64 x2, .int .i64 x3, .int .i64 x4]) ?_
 simp only [Gh.Rs, VRs]
 exact ⟨v0, _, rfl, r0, v1, _, rfl, r1, _, _, rfl, by simp only [VR], _, _, rfl, by simp only [VR], _, _, rfl, by simp only [VR], rfl⟩
theorem Z8e (os : Os) (started : os.Started) (H : Type) (enc : TypeId × Value → H) :
   ReturnsInHanded {} Try.checked os 6 .any (Rows.rubBoundsSpec.pre6 enc Try.prog Try.f6 Rows.rubBoundsRow.domain false)
     (Rows.rubBoundsSpec.post enc Try.prog Try.f6 false true false false) := by
 refine returnsInHanded_of_change own started (by kernel_rfl) Try.func6 (ChangeSpec.witness6 (enc := enc) (C := Try.checked) false ⟨#[], #[.slice none 0 0, .slice none 0 0, .int .i64 0, .int .i64 0, .int .i64 0], []⟩ 8 (by kernel_rfl) (by kernel_rfl) (by kernel_rfl) (by kernel_rfl)) ?_
 intro W base args ds gs before hval0 hW _ _
 have hW' := hW
 obtain ⟨p, q, hA0, hV, rfl, hfz, hnd⟩ := hW
 have hA : DataW.TrodAll enc Try.prog W 0 (fun _ => true) true Try.f6.params.toList args.toList ds p := hA0
 rw [Try.params6] at hA
 obtain ⟨w0, vs0, d0, ds0, p0, q0, ha, rfl, rfl, t0, hr0⟩ := trodAll_cons hA
 obtain ⟨w1, vs1, d1, ds1, p1, q1, rfl, rfl, rfl, t1, hr1⟩ := trodAll_cons hr0
 obtain ⟨w2, vs2, d2, ds2, p2, q2, rfl, rfl, rfl, t2, hr2⟩ := trodAll_cons hr1
 obtain ⟨w3, vs3, d3, ds3, p3, q3, rfl, rfl, rfl, t3, hr3⟩ := trodAll_cons hr2
 obtain ⟨w4, vs4, d4, ds4, p4, q4, rfl, rfl, rfl, t4, hr4⟩ := trodAll_cons hr3
 obtain ⟨rfl, rfl, rfl⟩ := trodAll_nil hr4
 obtain rfl : args = #[w0, w1, w2, w3, w4] := by cases args; simp_all
 obtain ⟨rfl, rfl⟩ := trodVars_none hV
 have hval : ∀ (j : Nat) t v, (#[22, 22, 3, 3, 3] : Array TypeId)[j]? = some t → (#[w0, w1, w2, w3, w4] : Array Value)[j]? = some v → Value.okWide Try.prog W .any base t v := by
   intro j t v; have := hval0 j t v; rw [Try.params6] at this; exact this
 obtain ⟨a0, l0, h0, r0⟩ := ZvR (hval 0 22 w0 rfl rfl) t0
 obtain ⟨a1, l1, h1, r1⟩ := ZvR (hval 1 22 w1 rfl rfl) t1
 obtain ⟨x2, rfl⟩ := Z8k Try.underlying3 (hval 2 3 w2 rfl rfl)
 obtain ⟨x3, rfl⟩ := Z8k Try.underlying3 (hval 3 3 w3 rfl rfl)
 obtain ⟨x4, rfl⟩ := Z8k Try.underlying3 (hval 4 3 w4 rfl rfl)
 refine (Ze8 h0 r0 h1 r1).mono fun e W' ⟨he, bel⟩ => ?_
 subst he
 exact ⟨_, rfl, _, _, _, [], _, [], hW', trodAll_mk1 (shut_bool Try.underlying4 _),
   ZrE (bel.trod' laidOut Z91 Zbp t0) (bel.trod' laidOut Z91 Zbp t1) (bel.trod' laidOut Z5n Z5q t2) (bel.trod' laidOut Z5n Z5q t3) (bel.trod' laidOut Z5n Z5q t4), rfl, bel.frame _, fun h => by cases h⟩
theorem rubBounds_holds : Rows.RubBoundsSaid :=
 OpenClaim.holds_of_wide 6 Try.f6 rfl rfl rfl rfl rfl rfl rfl ⟨rfl, rfl, rfl, rfl, rfl⟩ rfl rfl rfl rfl rfl (by kernel_rfl) Try.func6 (by kernel_rfl)
   (of_decide_eq_true (by kernel_rfl)) (by unfold Func.isWrapper; first | (rw [if_pos (by decide +kernel)]; kernel_rfl) | (rw [if_neg (by decide +kernel)]; exact ⟨rfl, rfl⟩))
   (fun os started H enc _ => Z8e os started H enc)
end Go.AM.Ytfmnoohhhokicaa
namespace Go.Proofs.Ytfmnoohhhokicaa
theorem rubBounds_holds : Rows.RubBoundsSaid := Go.AM.Ytfmnoohhhokicaa.rubBounds_holds
end Go.Proofs.Ytfmnoohhhokicaa
end
end
#print axioms Go.Proofs.Ytfmnoohhhokicaa.rubBounds_holds
