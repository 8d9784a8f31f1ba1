/- A part of the proof of rubMuirhead_holds: RnL. Own work of this project; texts printed by own programs among it. -/
import Derived.Test.YtfmnoohhhokicaaQvK
set_option maxRecDepth 1000000
set_option maxHeartbeats 16000000
noncomputable section
noncomputable section
namespace Go.AM.Ytfmnoohhhokicaa
open Go Go.AM Go.AM.Rub
def lcs (L : List (List Int)) : List AV := L.map fun l => .imm (ics l) l.length false
theorem Zq (L : List (List Int)) : (lcs L).length = L.length := by simp [lcs]
theorem Z41 {L : List (List Int)} {k : Nat} {l : List Int} (h : L[k]? = some l) : (lcs L)[k]? = some (.imm (ics l) l.length false) := by simp [lcs, h]
theorem Z40 (L : List (List Int)) (l : List Int) : lcs L ++ [.imm (ics l) l.length false] = lcs (L ++ [l]) := by simp [lcs]
theorem Z1N (L : List (List Int)) : (lcs L).take L.length = lcs L := List.take_of_length_le (by rw [Zq]; exact Nat.le_refl _)
theorem Z2w {n : Nat} (h : n ≤ 1000000) : roomOk E.T 22 n = true := by
 simp only [roomOk, T_22, decide_eq_true_eq]; exact ⟨by decide, rfl, by omega⟩
theorem Z0W {k : Nat} {L : List (List Int)} (h : 0 < L.length) : oH k (lcs L) = [(k, ⟨.row, lcs L⟩)] := ZWW k (by rw [Zq]; exact h)
def LV (L : List (List Int)) (a : AV) : Prop := (L = [] ∧ a = .nilsl) ∨ ∃ ex, a = .imm (lcs L) L.length ex
abbrev toS (l : List Int) (a : AV) (i : Nat) : St := ([(8, .int .i64 i), (7, .int .i64 l.length), (6, a), (3, .int .i64 (ps (rowF l) i))], [])
theorem ZKj {C : Callee} {l : List Int} {a : AV} (ha : IV l a) (hl : l.length ≤ 1000) (hb : ∀ k, k < l.length → 0 ≤ rowF l k ∧ rowF l k ≤ 100000) : rsOf (bodyA E C fg 1000000 58 [a] [] 0) = some (.int .i64 (ps (rowF l) l.length)) := by
 have hps : ∀ k, k ≤ l.length → 0 ≤ ps (rowF l) k ∧ ps (rowF l) k ≤ 100000 * k := by
   intro k
   induction k with
   | zero => intro _; simp [ps]
   | succ k ih =>
     intro hk
     have := ih (by omega)
     have := hb k (by omega)
     simp only [ps]; omega
 rcases ha with ⟨rfl, rfl⟩ | ⟨ex, rfl⟩
 · have hloop := Z4W (f := (execA E C (fg 58) 0 17 [] 1000000 Z6X)) (E0 := []) (s0 := ([(8, .int .i64 0), (7, .int .i64 0), (6, .nilsl), (3, .int .i64 0)], [])) rfl (e := .exit 0) (se := ([(9, .bool false), (8, .int .i64 0), (7, .int .i64 0), (6, .nilsl), (3, .int .i64 0)], []))
     (by simp (disch := omega) only [ZF, stp, just, Rd.bind, Rd.run, Rd.opt, upds, aBin, aInt, Nat.reduceEqDiff, Nat.reduceLeDiff, ↓reduceIte, F_58]) (by simp)
   simp (disch := omega) only [ZF, Z5, stp, just, Rd.bind, Rd.run, upds, resA, resL, aLen, Z3, Nat.reduceBEq, Nat.reduceEqDiff, Nat.reduceLeDiff, ↓reduceIte, reduceCtorEq, ZT, F_58, hloop, ps]
 · have hlen := Za l
   have hloop := loopM (f := (execA E C (fg 58) 0 17 [] 1000000 Z6X)) (E0 := []) (toS l (.imm (ics l) l.length ex)) l.length (fun i hi => by
       have hat := Z01 hi
       have g1 : (i : Int) < l.length := by omega
       have := hps i (by omega)
       have := hb i hi
       have w : wrp .i64 (ps (rowF l) i + rowF l i) = ps (rowF l) i + rowF l i := Zs (by omega)
       simp (disch := omega) only [ZF, stp, just, Rd.bind, Rd.run, Rd.opt, upds, tsz, rdCells, aLoad, Z4, aNum, aBin, aInt, Nat.reduceLT, Nat.reduceBEq, Nat.reduceEqDiff, Nat.reduceLeDiff, ↓reduceIte, ZT, F_58, toS, ps, g1, hat, hlen, w, Zx (show i < 1000000 by omega)]
       exact ⟨_, rfl, rfl⟩) rfl (by omega) (e := .exit 0) (se := ([(9, .bool false), (8, .int .i64 l.length), (7, .int .i64 l.length), (6, .imm (ics l) l.length ex), (3, .int .i64 (ps (rowF l) l.length))], []))
     (by simp (disch := omega) only [ZF, stp, just, Rd.bind, Rd.run, Rd.opt, upds, aBin, aInt, Nat.reduceEqDiff, Nat.reduceLeDiff, ↓reduceIte, F_58, toS]) (by simp)
   simp only [toS, cl0, ps] at hloop
   simp (disch := omega) only [ZF, Z5, stp, just, Rd.bind, Rd.run, upds, resA, resL, aLen, Z3, Nat.reduceBEq, Nat.reduceEqDiff, Nat.reduceLeDiff, ↓reduceIte, reduceCtorEq, ZT, F_58, hloop]
theorem ZGp {d : Nat} {site : Nat → Nat} {seen : List Nat} {l : List Int} {a : AV} (ha : IV l a) (hl : l.length ≤ 1000) (hb : ∀ k, k < l.length → 0 ≤ rowF l k ∧ rowF l k ≤ 100000) : aBack site true seen (thaw (kF (d + 1)) 58 [a] [] 0) = .pure (.int .i64 (ps (rowF l) l.length), []) :=
 Z10 (Z0P rfl (ZKj ha hl hb))
theorem Zf9 {l : List Int} {k i : Nat} (h : i < k) : rowF (l.take k) i = rowF l i := by
 simp only [rowF, List.getD_eq_getElem?_getD, List.getElem?_take, if_pos h]
theorem Z17 {d : Nat} {site : Nat → Nat} {seen : List Nat} {n : Nat} {l : List Int} (h : Rw n l) (hn : n ≤ 8) {k : Nat} (hk : k ≤ n) {ex : Bool} : aBack site true seen (thaw (kF (d + 1)) 58 [.imm (ics (l.take k)) k ex] [] 0) = .pure (.int .i64 (ps (rowF l) k), []) := by
 have hl : (l.take k).length = k := by rw [List.length_take, h.len]; omega
 have ha : IV (l.take k) (.imm (ics (l.take k)) k ex) := .inr ⟨ex, by rw [hl]⟩
 have := ZGp (d := d) (site := site) (seen := seen) ha (by omega) (fun i hi => by rw [Zf9 (by omega)]; have := rw_b h (k := i) (by omega); omega)
 rw [hl, Z1j k fun i hi => Zf9 hi] at this
 exact this
theorem ZJY {C : Callee} {l : List Int} {n : Nat} {ex : Bool} (hl : l.length = n) (h0 : 0 < n) (h9 : n ≤ 1000) : ∃ H, bodyA E C fg 1000000 66 [.imm (ics l) n ex] [] 0 = some (.ref 5 0 n n n 1 false, H) ∧ hget H 5 = some ⟨.row, ics l⟩ := by
 have hlen : (ics l).length = n := by rw [Za, hl]
 have htk : List.take n (ics l) = ics l := List.take_of_length_le (by omega)
 have hn0 : ¬ n = 0 := by omega
 have hn1 : ¬ n ≤ 0 := by omega
 simp (disch := omega) only [ZF, Z5, stp, just, Rd.bind, Rd.run, upds, zeroCells, tsz, elemT, resA, resL, fresh, Z3, aBin, Nat.reduceAdd, Nat.reduceLT, Nat.reduceBEq, Nat.reduceEqDiff, Nat.reduceLeDiff, ↓reduceIte, reduceCtorEq, Z9, Zk, partsOf, fillA, repC, Zm, aAppend, srcOf, window, snaps, ZT, F_66, aNil, srcOf, hlen, hn0, hn1, Z0M (show n ≤ 1000000 by omega)]
 exact ⟨_, rfl, rfl⟩
theorem Z5i {d : Nat} {site : Nat → Nat} {seen : List Nat} {l : List Int} {n : Nat} {ex : Bool} (hl : l.length = n) (h0 : 0 < n) (h9 : n ≤ 1000) : aBack site true seen (thaw (kF (d + 1)) 66 [.imm (ics l) n ex] [] 0) =
   Z0t (site 0) seen (fun k => .ref k 0 n n n 1 false) ⟨.row, ics l⟩ := by
 obtain ⟨H, h1, h2⟩ := ZJY (C := kF d) (ex := ex) hl h0 h9
 exact Z2u (by rw [Z15 rfl]; exact h1) h2 (by rw [Za, hl])
structure PrC (C : Callee) (f : Nat) (c : AV) (p : List Int → Bool) (L : List (List Int)) : Prop where
 fi : ∃ x, fInfo E f = some x
 mt : ∀ caps args, mutV E (.clo f caps) args = none
 run : ∀ l ∈ L, ∀ (site : Nat → Nat) seen, aBack site true seen (thaw C f [.imm (ics l) l.length false, .iptr [c] 0] [] 0) = .pure (.bool (p l), [])
abbrev ixS (a : AV) (n f : Nat) (c : AV) (i : Nat) : St := ([(8, .int .i64 i), (7, .int .i64 n), (1, .clo f [.iptr [c] 0]), (0, a)], [])
def ixL (p : List Int → Bool) (L : List (List Int)) : Int := if L.findIdx p < L.length then (L.findIdx p : Int) else -1
theorem Z0g0 {C : Callee} {f : Nat} {c a : AV} {p : List Int → Bool} {L : List (List Int)} (hC : PrC C f c p L) (ha : LV L a) (hl : L.length ≤ 900000) :
   rsOf (bodyA E C fg 1000000 64 [a, .clo f [.iptr [c] 0]] [] 0) = some (.int .i64 (ixL p L)) := by
 obtain ⟨⟨fi, hfi⟩, hm, hr⟩ := hC
 rcases ha with ⟨rfl, rfl⟩ | ⟨ex, rfl⟩
 · have hloop := Z4W (f := (execA E C (fg 64) 0 19 [] 1000000 Z4I)) (E0 := []) (s0 := ixS .nilsl 0 f c 0) rfl (e := .exit 0) (se := ([(9, .bool false), (8, .int .i64 0), (7, .int .i64 0), (1, .clo f [.iptr [c] 0]), (0, .nilsl)], []))
     (by simp (disch := omega) only [ZF, stp, just, Rd.bind, Rd.run, Rd.opt, upds, aBin, aInt, Nat.reduceEqDiff, Nat.reduceLeDiff, ↓reduceIte, F_64, ixS, cl0]) (by simp)
   simp only [ixS, cl0] at hloop
   have e : ixL p [] = -1 := rfl
   rw [e]
   simp (disch := omega) only [ZF, Z5, stp, just, Rd.bind, Rd.run, upds, resA, resL, aLen, Z3, Nat.reduceBEq, Nat.reduceEqDiff, Nat.reduceLeDiff, Int.reduceNeg, ↓reduceIte, reduceCtorEq, ZT, F_64, hloop]
 · have hlen := Zq L
   have hgo : ∀ i, i < L.length → L.findIdx p > i → ∃ s', (execA E C (fg 64) 0 19 [] 1000000 Z4I) (ixS (.imm (lcs L) L.length ex) L.length f c i) = some (.normal, s') ∧ headA [] s' = ixS (.imm (lcs L) L.length ex) L.length f c (i + 1) := by
     intro i hi hp
     have hk : L[i]? = some L[i] := List.getElem?_eq_getElem hi
     have hat := Z41 hk
     have hrr := hr L[i] (List.getElem_mem hi)
     have hno := List.not_of_lt_findIdx hp
     rw [show p L[i] = false by simpa using hno] at hrr
     have g1 : (i : Int) < L.length := by omega
     simp (disch := omega) only [ZF, stp, just, Rd.bind, Rd.run, Rd.opt, upds, tsz, rdCells, aLoad, Z4, aNum, aBin, aInt, Nat.reduceMul, Nat.reduceLT, Nat.reduceBEq, Nat.reduceEqDiff, Nat.reduceLeDiff, ↓reduceIte, reduceCtorEq, aCall, snaps, opCallV, ZT, F_64, ixS, g1, hat, hlen, ZlG (hm _ _), hfi, hrr, Zx (show i < 1000000 by omega)]
     exact ⟨_, rfl, rfl⟩
   unfold ixL
   by_cases hlt : L.findIdx p < L.length
   · rw [if_pos hlt]
     have hk : L[L.findIdx p]? = some L[L.findIdx p] := List.getElem?_eq_getElem hlt
     have hat := Z41 hk
     have hrr := hr _ (List.getElem_mem hlt)
     rw [List.findIdx_getElem (w := hlt)] at hrr
     have hloop := loopM (f := (execA E C (fg 64) 0 19 [] 1000000 Z4I)) (E0 := []) (ixS (.imm (lcs L) L.length ex) L.length f c) (L.findIdx p) (fun i hi => hgo i (by omega) hi) rfl (by omega) (e := .ret) (se := ([(4, .int .i64 (L.findIdx p : Nat))], []))
       (by
         generalize L.findIdx p = m at *
         have g1 : (m : Int) < L.length := by omega
         simp (disch := omega) only [ZF, stp, just, Rd.bind, Rd.run, Rd.opt, upds, tsz, rdCells, aLoad, Z4, aNum, aBin, aInt, Nat.reduceMul, Nat.reduceLT, Nat.reduceBEq, Nat.reduceEqDiff, Nat.reduceLeDiff, ↓reduceIte, reduceCtorEq, aCall, snaps, opCallV, ZT, F_64, ixS, g1, hat, hlen, ZlG (hm _ _), hfi, hrr]) (by simp)
     simp only [ixS, cl0] at hloop
     simp (disch := omega) only [ZF, Z5, stp, just, Rd.bind, Rd.run, upds, resA, resL, aLen, Z3, Nat.reduceBEq, Nat.reduceEqDiff, Nat.reduceLeDiff, ↓reduceIte, reduceCtorEq, ZT, F_64, hloop]
   · rw [if_neg hlt]
     have hle := List.findIdx_le_length (xs := L) (p := p)
     have hloop := loopM (f := (execA E C (fg 64) 0 19 [] 1000000 Z4I)) (E0 := []) (ixS (.imm (lcs L) L.length ex) L.length f c) L.length (fun i hi => hgo i hi (by omega)) rfl (by omega) (e := .exit 0) (se := ([(9, .bool false), (8, .int .i64 L.length), (7, .int .i64 L.length), (1, .clo f [.iptr [c] 0]), (0, .imm (lcs L) L.length ex)], []))
       (by simp (disch := omega) only [ZF, stp, just, Rd.bind, Rd.run, Rd.opt, upds, aBin, aInt, Nat.reduceEqDiff, Nat.reduceLeDiff, ↓reduceIte, F_64, ixS]) (by simp)
     simp only [ixS, cl0] at hloop
     simp (disch := omega) only [ZF, Z5, stp, just, Rd.bind, Rd.run, upds, resA, resL, aLen, Z3, Nat.reduceBEq, Nat.reduceEqDiff, Nat.reduceLeDiff, Int.reduceNeg, ↓reduceIte, reduceCtorEq, ZT, F_64, hloop]
theorem Zye {d : Nat} {f : Nat} {c a : AV} {p : List Int → Bool} {L : List (List Int)} (hC : PrC (kF d) f c p L) (ha : LV L a) (hl : L.length ≤ 900000) {site : Nat → Nat} {seen : List Nat} :
   aBack site true seen (thaw (kF (d + 1)) 64 [a, .clo f [.iptr [c] 0]] [] 0) = .pure (.int .i64 (ixL p L), []) :=
 Z10 (Z0P rfl (Z0g0 hC ha hl))
theorem ZYQ (p : List Int → Bool) (L : List (List Int)) : decide (ixL p L ≥ 0) = L.any p := by
 unfold ixL
 by_cases h : L.findIdx p < L.length
 · rw [if_pos h, decide_eq_true (by omega)]
   rw [eq_comm, List.any_eq_true]
   exact List.findIdx_lt_length.1 h
 · rw [if_neg h, decide_eq_false (by omega), eq_comm, List.any_eq_false]
   intro x hx hp
   exact h (List.findIdx_lt_length.2 ⟨x, hx, hp⟩)
theorem Z04L {d : Nat} {f : Nat} {c a : AV} {p : List Int → Bool} {L : List (List Int)} (hC : PrC (kF d) f c p L) (ha : LV L a) (hl : L.length ≤ 900000) (_ : ∀ e, snap (e + 8) c = .pure (c, [])) :
   rsOf (bodyA E (kF (d + 1)) fg 1000000 73 [a, .clo f [.iptr [c] 0]] [] 0) = some (.bool (L.any p)) := by
 have hi := fun (site : Nat → Nat) seen => Zye (site := site) (seen := seen) hC ha hl
 have sn : ∀ e, snap (e + 1) a = .pure (a, []) := by intro e; rcases ha with ⟨_, rfl⟩ | ⟨_, rfl⟩ <;> rfl
 generalize kF (d + 1) = C at *
 rw [← ZYQ]
 generalize ixL p L = z at *
 simp (disch := omega) only [ZF, Z5, stp, just, Rd.bind, Rd.run, Rd.opt, upds, resA, resL, aBin, aInt, Nat.reduceBEq, Nat.reduceEqDiff, Nat.reduceLeDiff, ↓reduceIte, reduceCtorEq, aCall, snaps, F_73, hi, sn]
theorem ZtS {d : Nat} {f : Nat} {c a : AV} {p : List Int → Bool} {L : List (List Int)} (hC : PrC (kF d) f c p L) (ha : LV L a) (hl : L.length ≤ 900000) (hs : ∀ e, snap (e + 8) c = .pure (c, [])) {site : Nat → Nat} {seen : List Nat} :
   aBack site true seen (thaw (kF (d + 2)) 73 [a, .clo f [.iptr [c] 0]] [] 0) = .pure (.bool (L.any p), []) :=
 Z0Y (Z0P rfl (Z04L hC ha hl hs))
end Go.AM.Ytfmnoohhhokicaa
end
noncomputable section
namespace Go.AM.Rub
theorem ZIV {l : List Int} {i j : Nat} (hij : i ≠ j) (hi : i < l.length) (hj : j < l.length) (b : Int) :
   (mvL l i j).count b = l.count b - (if rowF l i == b then 1 else 0) + (if rowF l i - 1 == b then 1 else 0) - (if rowF l j == b then 1 else 0) + (if rowF l j + 1 == b then 1 else 0) := by
 unfold mvL
 have e1 : rowF l i = l[i] := by simp [rowF, hi]
 have e2 : rowF l j = l[j] := by simp [rowF, hj]
 rw [List.count_set (h := by rw [List.length_set]; exact hj), List.count_set (h := hi), List.getElem_set_ne hij, e1, e2]
theorem Z0bx {l : List Int} {i j i' j' : Nat} (hij : i ≠ j) (hij' : i' ≠ j') (hi : i < l.length) (hj : j < l.length) (hi' : i' < l.length) (hj' : j' < l.length) (e1 : rowF l i = rowF l i') (e2 : rowF l j = rowF l j') : (mvL l i j).Perm (mvL l i' j') := by
 rw [List.perm_iff_count]
 intro b
 rw [ZIV hij hi hj, ZIV hij' hi' hj', e1, e2]
theorem Z00E {n : Nat} {l : List Int} (h : Rw n l) {i j : Nat} (r : Rb n l i j) : srtI (mvL l i j) = rubL l i j := by
 have hl := h.len
 have hij := r.lt
 have hj := r.lj
 obtain ⟨re, _⟩ := Z5o h r
 have a1 := re.lt
 have a2 := re.lj
 have hd := Z1i h.row
 rw [h.len] at hd
 obtain ⟨p, q⟩ := Zgr (l := mvL l i j) (by rw [Z09]; omega)
 have s1 := (Z2M (l := l) (by rw [hl]; exact hd) l.length i (by omega) (by omega)).2.2.1
 have s2 := (Z2z (l := l) (by rw [hl]; exact hd) j (by omega)).2.1
 have hr := (Z5f h r).1
 refine Z8u q (Ziv hr.row) (p.trans ?_)
 exact Z0bx (by omega) (by omega) (by omega) (by omega) (by omega) (by omega) s1.symm s2.symm
def ad (out : List (List Int)) (l : List Int) : List (List Int) := if l ∈ out then out else out ++ [l]
def rbI (row : List Int) (i : Nat) (out : List (List Int)) : Nat → List (List Int)
 | 0 => out
 | j + 1 => if rowF row i - rowF row j ≥ 2 then ad (rbI row i out j) (rubL row i j) else rbI row i out j
def rbO (row : List Int) (n : Nat) : Nat → List (List Int)
 | 0 => []
 | i + 1 => rbI row i (rbO row n i) n
theorem Z0kB (out : List (List Int)) (l y : List Int) : y ∈ ad out l ↔ y ∈ out ∨ y = l := by
 unfold ad
 split
 · rename_i h
   exact ⟨.inl, fun hh => hh.elim id fun e => e ▸ h⟩
 · simp
theorem Z0kk (out : List (List Int)) (l : List Int) : (ad out l).length ≤ out.length + 1 := by
 unfold ad; split <;> simp
theorem Zdl (row : List Int) (i : Nat) (out : List (List Int)) (y : List Int) : ∀ m, y ∈ rbI row i out m ↔ y ∈ out ∨ ∃ j, j < m ∧ rowF row i - rowF row j ≥ 2 ∧ y = rubL row i j
 | 0 => by simp [rbI]
 | m + 1 => by
   simp only [rbI]
   have ih := Zdl row i out y m
   split
   · rename_i h
     rw [Z0kB, ih]
     constructor
     · rintro ((h1 | ⟨j, h1, h2⟩) | e)
       · exact .inl h1
       · exact .inr ⟨j, by omega, h2⟩
       · exact .inr ⟨m, by omega, h, e⟩
     · rintro (h1 | ⟨j, h1, h2⟩)
       · exact .inl (.inl h1)
       · by_cases hj : j = m
         · subst hj; exact .inr h2.2
         · exact .inl (.inr ⟨j, by omega, h2⟩)
   · rename_i h
     rw [ih]
     constructor
     · rintro (h1 | ⟨j, h1, h2⟩)
       · exact .inl h1
       · exact .inr ⟨j, by omega, h2⟩
     · rintro (h1 | ⟨j, h1, h2⟩)
       · exact .inl h1
       · refine .inr ⟨j, ?_, h2⟩
         by_cases hj : j = m
         · subst hj; exact absurd h2.1 h
         · omega
theorem Zeu (row : List Int) (i : Nat) (out : List (List Int)) : ∀ m, (rbI row i out m).length ≤ out.length + m
 | 0 => by simp [rbI]
 | m + 1 => by
   have := Zeu row i out m
   simp only [rbI]
   split
   · have := Z0kk (rbI row i out m) (rubL row i m); omega
   · omega
theorem ZdM (row : List Int) (n : Nat) : ∀ i, (rbO row n i).length ≤ i * n
 | 0 => by simp [rbO]
 | i + 1 => by
   have := ZdM row n i
   have := Zeu row i (rbO row n i) n
   simp only [rbO]
   rw [Nat.succ_mul]; omega
theorem ZdP (row : List Int) (n : Nat) (y : List Int) : ∀ i, y ∈ rbO row n i ↔ ∃ k j, k < i ∧ j < n ∧ rowF row k - rowF row j ≥ 2 ∧ y = rubL row k j
 | 0 => by simp [rbO]
 | i + 1 => by
   simp only [rbO]
   rw [Zdl, ZdP row n y i]
   constructor
   · rintro (⟨k, j, h1, h2⟩ | ⟨j, h1, h2⟩)
     · exact ⟨k, j, by omega, h2⟩
     · exact ⟨i, j, by omega, h1, h2⟩
   · rintro ⟨k, j, h1, h2⟩
     by_cases hk : k = i
     · subst hk; exact .inr ⟨j, h2⟩
     · exact .inl ⟨k, j, by omega, h2⟩
def rbL (row : List Int) : List (List Int) := rbO row row.length row.length
theorem Zj1 {n : Nat} {l : List Int} (h : Rw n l) {i j : Nat} (hi : i < n) (hj : j < n) (hd : rowF l i - rowF l j ≥ 2) : Rb n l i j := by
 refine ⟨?_, hj, hd⟩
 rcases Nat.lt_or_ge i j with h1 | h1
 · exact h1
 · have hdd := Z1i h.row
   rw [h.len] at hdd
   have := Z1S hdd h1 hi
   omega
theorem ZxK {n : Nat} {l : List Int} (h : Rw n l) (y : List Int) : y ∈ rbL l ↔ ∃ i j, Rb n l i j ∧ y = rubL l i j := by
 unfold rbL
 rw [ZdP, h.len]
 constructor
 · rintro ⟨k, j, h1, h2, h3, h4⟩
   exact ⟨k, j, Zj1 h h1 h2 h3, h4⟩
 · rintro ⟨k, j, r, e⟩
   have := r.lt
   have := r.lj
   exact ⟨k, j, by omega, r.lj, r.df, e⟩
theorem Z01i {n : Nat} {l y : List Int} (h : Rw n l) (hy : y ∈ rbL l) : Rw n y := by
 obtain ⟨i, j, r, rfl⟩ := (ZxK h y).1 hy
 exact (Z5f h r).1
theorem Z048 {n : Nat} {l y : List Int} (h : Rw n l) {i : Nat} (hi : i ≤ n) (hy : y ∈ rbO l n i) : Rw n y := by
 obtain ⟨k, j, h1, h2, h3, rfl⟩ := (ZdP l n y i).1 hy
 exact (Z5f h (Zj1 h (by omega) h2 h3)).1
theorem ZZO {n : Nat} {l y : List Int} (h : Rw n l) {i m : Nat} (hi : i < n) (hm : m ≤ n) (hy : y ∈ rbI l i (rbO l n i) m) : Rw n y := by
 rcases (Zdl l i (rbO l n i) y m).1 hy with h1 | ⟨j, h1, h2, rfl⟩
 · exact Z048 h (by omega) h1
 · exact (Z5f h (Zj1 h hi (by omega) h2)).1
end Go.AM.Rub
end
noncomputable section
namespace Go.AM.Ytfmnoohhhokicaa
open Go Go.AM Go.AM.Rub
theorem ZXG {d : Nat} {l m : List Int} {x : Bool} (hl : l.length ≤ 1000) : rsOf (bodyA E (kF (d + 1)) fg 1000000 120 [.imm (ics l) l.length x, .iptr [.imm (ics m) m.length false] 0] [] 0) = some (.bool (decide (l = m))) := by
 have hs := fun (site : Nat → Nat) seen => Z4e (d := d) (site := site) (seen := seen) (Z2v l x) (Z2v m false) hl
 generalize kF (d + 1) = C at *
 simp (disch := omega) only [ZF, Z5, stp, just, Rd.bind, Rd.run, Rd.opt, upds, rdCells, aLoad, resA, resL, Nat.reduceBEq, Nat.reduceEqDiff, Nat.reduceLeDiff, ↓reduceIte, reduceCtorEq, aCall, snaps, ZT, Z0m2, hs]
theorem pr1 (d : Nat) (m : List Int) {L : List (List Int)} (hL : ∀ l ∈ L, l.length ≤ 1000) : PrC (kF (d + 2)) 120 (.imm (ics m) m.length false) (fun l => decide (l = m)) L :=
 ⟨⟨_, ZLF⟩, fun _ _ => rfl, fun l hl _ _ => Z0Y (Z0P rfl (ZXG (hL l hl)))⟩
theorem Z0cG (m : List Int) (L : List (List Int)) : L.any (fun l => decide (l = m)) = decide (m ∈ L) := by
 rw [Bool.eq_iff_iff, List.any_eq_true, decide_eq_true_eq]
 constructor
 · rintro ⟨x, hx, e⟩; rw [← of_decide_eq_true e]; exact hx
 · intro h; exact ⟨m, h, decide_eq_true rfl⟩
theorem con1 {d : Nat} {m : List Int} {a : AV} {L : List (List Int)} (ha : LV L a) (hL : ∀ l ∈ L, l.length ≤ 1000) (hl : L.length ≤ 900000) {site : Nat → Nat} {seen : List Nat} :
   aBack site true seen (thaw (kF (d + 4)) 73 [a, .clo 120 [.iptr [.imm (ics m) m.length false] 0]] [] 0) = .pure (.bool (decide (m ∈ L)), []) := by
 have := ZtS (site := site) (seen := seen) (pr1 d m hL) ha hl (fun _ => rfl)
 rw [Z0cG] at this
 exact this
abbrev rbS (row : List Int) (n : Nat) (x : Bool) (i : Nat) (out : List (List Int)) (j : Nat) : St :=
 ([(14, .int .i64 j), (13, .int .i64 n), (9, .int .i64 i), (8, .int .i64 n), (4, .int .i64 i), (3, oV 50 1 out.length), (0, .imm (ics row) n x)], oH 50 (lcs out))
structure RbC (C : Callee) (row : List Int) (n : Nat) : Prop where
 cl : ∀ (site : Nat → Nat) seen x, aBack site true seen (thaw C 66 [.imm (ics row) n x] [] 0) = Z0t (site 0) seen (fun k => .ref k 0 n n n 1 false) ⟨.row, ics row⟩
 so : ∀ (H : AHeap) B k l, l.length = n → BdI l → hget H k = some ⟨.row, ics l⟩ → C 67 [.ref k 0 n n n 1 false] H B = some (.tup [], hset H k ⟨.row, ics (srtI l)⟩)
 co : ∀ (site : Nat → Nat) seen m a L, LV L a → (∀ l ∈ L, l.length ≤ 1000) → L.length ≤ 900000 → m.length = n → aBack site true seen (thaw C 73 [a, .clo 120 [.iptr [.imm (ics m) n false] 0]] [] 0) = .pure (.bool (decide (m ∈ L)), [])
theorem rbC (d : Nat) {row : List Int} {n : Nat} (hl : row.length = n) (h0 : 0 < n) (h6 : n ≤ 6) : RbC (kF (d + 6)) row n :=
 ⟨fun _ _ _ => Z5i hl h0 (by omega), fun H B k l h1 h2 h3 => Z8y h1 h0 h6 h2 h3, fun site seen m a L h1 h2 h3 h4 => by subst h4; exact con1 (d := d + 2) h1 h2 h3⟩
theorem Z0nI {C : Callee} {row : List Int} {n : Nat} {x : Bool} (hC : RbC C row n) (h : Rw n row) (h6 : n ≤ 6) {i : Nat} (hi : i < n) {out : List (List Int)} (ho : out.length ≤ 100) (hol : ∀ l ∈ out, l.length ≤ 1000) (j : Nat) (hj : j < n) :
   ∃ s', (execA E C (fg 106) 0 54 [] 1000000 Z3E) (rbS row n x i out j) = some (.normal, s') ∧ headA [] s' = rbS row n x i (if rowF row i - rowF row j ≥ 2 then ad out (rubL row i j) else out) (j + 1) := by
 have hl := h.len
 have hlen : (ics row).length = n := by rw [Za, hl]
 have a1 := Z01 (l := row) (k := i) (by omega)
 have a2 := Z01 (l := row) (k := j) (by omega)
 have b1 := rw_b h hi
 have b2 := rw_b h hj
 have g1 : (i : Int) < n := by omega
 have g2 : (j : Int) < n := by omega
 have w : wrp .i64 (rowF row i - rowF row j) = rowF row i - rowF row j := Zs (by omega)
 by_cases hd : rowF row i - rowF row j ≥ 2
 · rw [if_pos hd]
   have r := Zj1 h hi hj hd
   have hij := r.lt
   have hno : ¬ rowF row i - rowF row j < 2 := by omega
   have hcl := hC.cl
   have w1 : wrp .i64 (rowF row i - 1) = rowF row i - 1 := Zs (by omega)
   have w2 : wrp .i64 (rowF row j + 1) = rowF row j + 1 := Zs (by omega)
   have e1 := Z8l row i (rowF row i - 1)
   have l1 : (ics (row.set i (rowF row i - 1))).length = n := by rw [Za, List.length_set, hl]
   have a3 : (ics (row.set i (rowF row i - 1)))[j]? = some (.int .i64 (rowF row j)) := by
     refine Z1Y ?_
     rw [List.getElem?_set_ne (by omega)]
     exact Z6A (by omega)
   have e2 := Z8l (row.set i (rowF row i - 1)) j (rowF row j + 1)
   have e3 : (row.set i (rowF row i - 1)).set j (rowF row j + 1) = mvL row i j := rfl
   rw [e3] at e2
   have l2 : (ics (mvL row i j)).length = n := by rw [Za, Z09, hl]
   have hso := fun (H : AHeap) B k => hC.so H B k (mvL row i j) (by rw [Z09, hl]) (fun k hk => by
     rw [Z09, hl] at hk
     rw [Z1x hij (by omega)]
     have := rw_b h hk
     unfold mvF
     split
     · omega
     · split <;> omega)
   rw [Z00E h r] at hso
   have hrl : (rubL row i j).length = n := by show (mvL row _ _).length = n; rw [Z09, hl]
   have l3 : (ics (rubL row i j)).length = n := by rw [Za, hrl]
   have t3 : List.take n (ics (rubL row i j)) = ics (rubL row i j) := List.take_of_length_le (by omega)
   have hsn := Z40 out (rubL row i j)
   rw [hrl] at hsn
   have hco := fun (site : Nat → Nat) seen a ha => hC.co site seen (rubL row i j) a out ha hol (by omega) hrl
   have hlo := Zq out
   have hto := Z1N out
   have had : ad out (rubL row i j) = if rubL row i j ∈ out then out else out ++ [rubL row i j] := rfl
   rw [had]
   generalize rubL row i j = R at *
   generalize ics R = RI at *
   generalize ics (mvL row i j) = M2 at *
   generalize ics (row.set i (rowF row i - 1)) = M1 at *
   simp only [rbS]
   cases hn : out with
   | nil =>
     subst hn
     have hco := fun (site : Nat → Nat) seen => hco site seen .nilsl (.inl ⟨rfl, rfl⟩)
     have hm : ¬ R ∈ ([] : List (List Int)) := by simp
     rw [decide_eq_false hm] at hco
     rw [if_neg hm]
     have oh0 : oH 50 (lcs []) = [] := rfl
     rw [List.nil_append] at hsn ⊢
     have hln : lcs [] = [] := rfl
     rw [hln, List.nil_append] at hsn
     rw [Z0W (L := [R]) (by simp), ← hsn, oh0, List.length_nil, Z8h, List.length_singleton, ZN (show 0 < 1 by omega)]
     have h1 := hso [(6, ⟨.box, [.ref 28 0 n n n 1 false]⟩), (28, ⟨.row, M2⟩)] 432 28 rfl
     simp only [Zu, Zy, Nat.reduceEqDiff, if_true, if_false, Nat.reduceLeDiff] at h1
     simp (disch := omega) only [ZF, stp, opBox, justO, just, Rd.bind, Rd.run, Rd.opt, upds, acells, zeroCells, tsz, elemT, rdCells, aLoad, aStore, opStore, fresh, Z4, aNum, Z3, aBin, aInt, putC, evO, Nat.reduceAdd, Nat.reduceMul, Nat.reduceLT, Nat.reduceBEq, Nat.reduceEqDiff, Nat.reduceLeDiff, ↓reduceIte, reduceCtorEq, stpT, Rd.foot, writing, Zb, Tr.empty, Zc, Z9, Zk, partsOf, fillA, repC, Zm, aAppend, srcOf, window, aUn, mutX, aCall, snaps, ZT, Z33, hlen, a1, a2, a3, g1, g2, w, w1, w2, hno, hcl, e1, e2, l1, l3, t3, h1, hco, if_pos, Z2w (show 1 ≤ 1000000 by omega), Zx (show j < 1000000 by omega)]
     exact ⟨_, rfl, rfl⟩
   | cons y ys =>
     rw [← hn]
     have h0 : 0 < out.length := by rw [hn]; simp
     have hco := fun (site : Nat → Nat) seen ex => hco site seen (.imm (lcs out) out.length ex) (.inr ⟨ex, rfl⟩)
     rw [ZN h0, Z0W h0]
     have h1 := hso [(6, ⟨.box, [.ref 28 0 n n n 1 false]⟩), (28, ⟨.row, M2⟩), (50, ⟨.row, lcs out⟩)] 432 28 rfl
     simp only [Zu, Zy, Nat.reduceEqDiff, if_true, if_false, Nat.reduceLeDiff] at h1
     by_cases hm : R ∈ out
     · rw [decide_eq_true hm] at hco
       rw [if_pos hm, ZN h0, Z0W h0]
       generalize lcs out = LO at *
       generalize out.length = m at *
       simp (disch := omega) only [ZF, stp, opBox, justO, just, Rd.bind, Rd.run, Rd.opt, upds, acells, zeroCells, tsz, elemT, rdCells, aLoad, aStore, opStore, fresh, Z4, aNum, Z3, aBin, aInt, putC, evO, Nat.reduceAdd, Nat.reduceMul, Nat.reduceLT, Nat.reduceBEq, Nat.reduceEqDiff, Nat.reduceLeDiff, ↓reduceIte, reduceCtorEq, stpT, Rd.foot, writing, Zb, Tr.empty, Zc, Z9, Zk, partsOf, fillA, repC, Zm, aAppend, srcOf, window, aUn, mutX, aCall, snaps, ZT, Z33, hlen, a1, a2, a3, g1, g2, w, w1, w2, hno, hcl, e1, e2, l1, l3, t3, h1, hco, hlo, hto, if_pos, Zx (show j < 1000000 by omega)]
       exact ⟨_, rfl, rfl⟩
     · rw [decide_eq_false hm] at hco
       rw [if_neg hm, List.length_append, List.length_singleton, ZN (show 0 < out.length + 1 by omega), Z0W (L := out ++ [R]) (by simp), ← hsn]
       have hno2 : ¬ out.length + 1 ≤ out.length := by omega
       generalize lcs out = LO at *
       generalize out.length = m at *
       simp (disch := omega) only [ZF, stp, opBox, justO, just, Rd.bind, Rd.run, Rd.opt, upds, acells, zeroCells, tsz, elemT, rdCells, aLoad, aStore, opStore, fresh, Z4, aNum, Z3, aBin, aInt, putC, evO, Nat.reduceAdd, Nat.reduceMul, Nat.reduceLT, Nat.reduceBEq, Nat.reduceEqDiff, Nat.reduceLeDiff, ↓reduceIte, reduceCtorEq, stpT, Rd.foot, writing, Zb, Tr.empty, Zc, Z9, Zk, partsOf, fillA, repC, Zm, aAppend, srcOf, window, aUn, mutX, aCall, snaps, ZT, Z33, hlen, a1, a2, a3, g1, g2, w, w1, w2, hno, hno2, hcl, e1, e2, l1, l3, t3, h1, hco, hlo, hto, if_pos, Z2w (show m + 1 ≤ 1000000 by omega), Zx (show j < 1000000 by omega)]
       exact ⟨_, rfl, rfl⟩
 · rw [if_neg hd]
   have hlt : rowF row i - rowF row j < 2 := by omega
   simp only [rbS]
   cases hn : out with
   | nil =>
     have oh0 : oH 50 (lcs []) = [] := rfl
     rw [oh0, List.length_nil, Z8h]
     simp (disch := omega) only [ZF, stp, just, Rd.bind, Rd.run, Rd.opt, upds, tsz, rdCells, aLoad, Z4, aNum, aBin, aInt, Nat.reduceAdd, Nat.reduceLT, Nat.reduceBEq, Nat.reduceEqDiff, Nat.reduceLeDiff, ↓reduceIte, reduceCtorEq, stpT, Rd.foot, writing, Zb, Tr.empty, Zc, ZT, Z33, hlen, a1, a2, g1, g2, w, hlt, Zx (show j < 1000000 by omega)]
     exact ⟨_, rfl, rfl⟩
   | cons y ys =>
     rw [← hn]
     have h0 : 0 < out.length := by rw [hn]; simp
     rw [ZN h0, Z0W h0]
     generalize lcs out = LO at *
     generalize out.length = m at *
     simp (disch := omega) only [ZF, stp, just, Rd.bind, Rd.run, Rd.opt, upds, tsz, rdCells, aLoad, Z4, aNum, aBin, aInt, Nat.reduceAdd, Nat.reduceLT, Nat.reduceBEq, Nat.reduceEqDiff, Nat.reduceLeDiff, ↓reduceIte, reduceCtorEq, stpT, Rd.foot, writing, Zb, Tr.empty, Zc, ZT, Z33, hlen, a1, a2, g1, g2, w, hlt, Zx (show j < 1000000 by omega)]
     exact ⟨_, rfl, rfl⟩
end Go.AM.Ytfmnoohhhokicaa
end
noncomputable section
namespace Go.AM.Rub
theorem ZPG {a b : List Int} (hl : a.length = b.length) : MajL a b → totL a = totL b := fun h => by
 have := h.eq
 rw [Z5P, hl, Z5P] at this
 exact this
end Go.AM.Rub
end
noncomputable section
namespace Go.AM.Rub
theorem Z69 {α : Type} [DecidableEq α] (l : α) : ∀ (ls all : List α), addN all (ls ++ [l]) = if l ∈ addN all ls then addN all ls else addN all ls ++ [l]
 | [], all => by by_cases h : l ∈ all <;> simp [addN, h]
 | x :: ls, all => by
   simp only [List.cons_append, addN]
   split
   · exact Z69 l ls all
   · exact Z69 l ls _
def bfR (a : List Int) : Nat → List (List Int)
 | 0 => [a]
 | i + 1 => match (bfR a i)[i]? with
   | some x => addN (bfR a i) (rbL x)
   | none => bfR a i
def DwR (n : Nat) (a : List Int) : List Int → Prop := fun b => Rw n b ∧ MajL a b
theorem lev {n : Nat} {a : List Int} (ha : Rw n a) : Lev (DwR n a) rbL (apL a) a := Z0aP ha rbL fun _ hx y => ZxK hx y
theorem Z3L {n : Nat} {a : List Int} (ha : Rw n a) : ∀ i, (∀ j, j < i → j < (bfR a j).length) → BInv (DwR n a) rbL (apL a) a (bfR a i) i
 | 0, _ => ZK8 (lev ha)
 | i + 1, h => by
   have ih := Z3L ha i fun j hj => h j (by omega)
   have hi := h i (by omega)
   have hx : (bfR a i)[i]? = some (bfR a i)[i] := List.getElem?_eq_getElem hi
   simp only [bfR, hx]
   exact (Zrr (lev ha) ih hx).1
theorem ZrB {n : Nat} {a : List Int} (ha : Rw n a) {L : List (List Int)} (hn : L.Nodup) (hs : ∀ x ∈ L, DwR n a x) : L.length ≤ 9 ^ n := by
 refine Nat.le_trans (Zid L (rowsL n (totL a) 8) hn fun x hx => ?_) (Z4n n _ 8 (by omega))
 obtain ⟨h1, h2⟩ := hs x hx
 rw [Z3i]
 exact ⟨h1.len, (ZPG (by rw [ha.len, h1.len]) h2).symm, h1.row⟩
theorem ZSM {n : Nat} {a : List Int} (ha : Rw n a) : ∃ N, (∀ j, j < N → j < (bfR a j).length) ∧ (bfR a N).length ≤ N := by
 have key : ∀ m i : Nat, i + m = 9 ^ n + 1 → (∀ j, j < i → j < (bfR a j).length) → ∃ N, (∀ j, j < N → j < (bfR a j).length) ∧ (bfR a N).length ≤ N := by
   intro m
   induction m with
   | zero =>
     intro i hi h
     have inv := Z3L ha i h
     have := ZrB ha inv.nd inv.sub
     have := inv.le
     omega
   | succ m ih =>
     intro i hi h
     by_cases hlt : i < (bfR a i).length
     · exact ih (i + 1) (by omega) fun j hj => if e : j = i then by rw [e]; exact hlt else h j (by omega)
     · exact ⟨i, h, by omega⟩
 exact key (9 ^ n + 1) 0 (by omega) fun j hj => by omega
def reN (a : List Int) : Nat := Classical.epsilon fun N : Nat => (∀ j, j < N → j < (bfR a j).length) ∧ (bfR a N).length ≤ N
theorem Z8D {n : Nat} {a : List Int} (ha : Rw n a) : (∀ j, j < reN a → j < (bfR a j).length) ∧ (bfR a (reN a)).length ≤ reN a := by
 exact Classical.epsilon_spec (ZSM ha)
def reL (a : List Int) : List (List Int) := bfR a (reN a)
theorem ZAa {n : Nat} {a : List Int} (ha : Rw n a) : (reL a).length = reN a := by
 obtain ⟨h1, h2⟩ := Z8D ha
 have := (Z3L ha _ h1).le
 unfold reL; omega
structure Rch (n : Nat) (a : List Int) (all : List (List Int)) : Prop where
 nd : all.Nodup
 mem : ∀ y, y ∈ all ↔ Rw n y ∧ MajL a y
 hd : all[0]? = some a
 srt : ∀ (k m : Nat) (x y : List Int), k ≤ m → all[k]? = some x → all[m]? = some y → apL a x ≤ apL a y
 len : all.length ≤ 9 ^ n
 pos : 0 < all.length
theorem Zqb {n : Nat} {a : List Int} (ha : Rw n a) : Rch n a (reL a) := by
 obtain ⟨h1, _⟩ := Z8D ha
 have inv := Z3L ha _ h1
 have hl := ZAa ha
 have inv' : BInv (DwR n a) rbL (apL a) a (reL a) (reL a).length := by rw [hl]; exact inv
 refine ⟨inv.nd, Z0aH (lev ha) inv', inv.hd, inv.srt, ZrB ha inv.nd inv.sub, ?_⟩
 exact (List.getElem?_eq_some_iff.1 inv.hd).1
theorem Z01g {n : Nat} {a : List Int} (ha : Rw n a) {i : Nat} (h : ∀ j, j < i → j < (bfR a j).length) {x : List Int} (hx : (bfR a i)[i]? = some x) {l : List Int} (hl : l ∈ rbL x) (hno : l ∉ bfR a i) : apL a l = apL a x + 1 := by
 have inv := Z3L ha i h
 have hs := (Zrr (lev ha) inv hx).2
 obtain ⟨new, e, _, _, c⟩ := Z3c (rbL x) (bfR a i)
 have hm := c l hl
 rw [List.mem_append] at hm
 exact hs new e l (hm.resolve_left hno)
theorem ZWY {a b : Nat → Int} : ∀ n, (∀ k, k < n → 0 ≤ b k ∧ 0 ≤ a k ∧ a k ≤ 8) → ap a b n ≤ 8 * n
 | 0, _ => by simp [ap, ps]
 | n + 1, h => by
   have ih := ZWY (a := a) (b := b) n fun k hk => h k (by omega)
   have := h n (by omega)
   unfold ap at ih ⊢
   simp only [ps]
   omega
theorem ZO9 {n : Nat} {a b : List Int} (ha : Rw n a) (hb : Rw n b) : apL a b ≤ 8 * n := by
 have c := Z0L a b
 have h := ZWY (a := rowF a) (b := rowF b) a.length fun k hk => by
   rw [ha.len] at hk
   have h1 := Z1G ha.row k (by rw [ha.len]; exact hk)
   have h2 := Z1G hb.row k (by rw [hb.len]; exact hk)
   omega
 rw [ha.len] at h
 rw [ha.len] at c
 omega
end Go.AM.Rub
end
noncomputable section
namespace Go.AM.Ytfmnoohhhokicaa
open Go Go.AM Go.AM.Rub
abbrev rbT (row : List Int) (n : Nat) (x : Bool) (out : List (List Int)) (i : Nat) : St :=
 ([(9, .int .i64 i), (8, .int .i64 n), (3, oV 50 1 out.length), (0, .imm (ics row) n x)], oH 50 (lcs out))
theorem ocvL (k : Nat) (L : List (List Int)) : (L = [] ∧ oV k 1 L.length = .nilsl ∧ oH k (lcs L) = []) ∨ (0 < L.length ∧ oV k 1 L.length = .ref k 0 L.length L.length L.length 1 false ∧ oH k (lcs L) = [(k, ⟨.row, lcs L⟩)]) := by
 cases L with
 | nil => exact .inl ⟨rfl, rfl, rfl⟩
 | cons x L => exact .inr ⟨by simp, ZN (by simp), Z0W (by simp)⟩
theorem Z0ei {C : Callee} {row : List Int} {n : Nat} {x : Bool} (hC : RbC C row n) (h : Rw n row) (h6 : n ≤ 6) (i : Nat) (hi : i < n) :
   ∃ s', (execA E C (fg 106) 0 54 [] 1000000 Z4X) (rbT row n x (rbO row n i) i) = some (.normal, s') ∧ headA [] s' = rbT row n x (rbO row n (i + 1)) (i + 1) := by
 have hl := h.len
 have hlen : (ics row).length = n := by rw [Za, hl]
 have b0 := ZdM row n i
 have hb : ∀ m, m ≤ n → (rbI row i (rbO row n i) m).length ≤ 100 := fun m hm => by
   have := Zeu row i (rbO row n i) m
   have : i * n ≤ 6 * 6 := Nat.mul_le_mul (by omega) h6
   omega
 have hloop := loopM (f := (execA E C (fg 106) 0 54 [] 1000000 Z3E)) (E0 := []) (fun j => rbS row n x i (rbI row i (rbO row n i) j) j) n (fun j hj => Z0nI hC h h6 hi (hb j (by omega)) (fun l hl => by
     have := (ZZO h hi (by omega) hl).len; omega) j hj) (by
     simp only [rbS, rbI]
     rcases ocvL 50 (rbO row n i) with ⟨_, o1, o2⟩ | ⟨_, o1, o2⟩ <;> rw [o1, o2] <;> rfl) (by omega)
   (e := .exit 2) (se := ([(15, .bool false), (14, .int .i64 n), (13, .int .i64 n), (9, .int .i64 i), (8, .int .i64 n), (4, .int .i64 i), (3, oV 50 1 (rbO row n (i + 1)).length), (0, .imm (ics row) n x)], oH 50 (lcs (rbO row n (i + 1)))))
   (by
     have e : rbI row i (rbO row n i) n = rbO row n (i + 1) := rfl
     simp only [rbS, e]
     rcases ocvL 50 (rbO row n (i + 1)) with ⟨_, o1, o2⟩ | ⟨_, o1, o2⟩ <;> rw [o1, o2] <;> simp (disch := omega) only [ZF, stp, just, Rd.bind, Rd.run, Rd.opt, upds, aBin, aInt, Nat.reduceEqDiff, Nat.reduceLeDiff, ↓reduceIte, Z33]) (by simp)
 have g1 : (i : Int) < n := by omega
 simp only [rbS, rbI, cl0] at hloop
 simp only [rbT]
 generalize rbO row n (i + 1) = L2 at *
 generalize rbO row n i = L1 at *
 rcases ocvL 50 L1 with ⟨_, o1, o2⟩ | ⟨_, o1, o2⟩ <;> rw [o1, o2] at hloop ⊢ <;> rcases ocvL 50 L2 with ⟨_, p1, p2⟩ | ⟨_, p1, p2⟩ <;> rw [p1, p2] at hloop ⊢ <;>
   simp (disch := omega) only [ZF, stp, just, Rd.bind, Rd.run, Rd.opt, upds, aLen, Z3, aBin, aInt, Nat.reduceBEq, Nat.reduceEqDiff, Nat.reduceLeDiff, ↓reduceIte, reduceCtorEq, ZT, Z33, g1, hloop, Zx (show i < 1000000 by omega)] <;> exact ⟨_, rfl, rfl⟩
theorem Zun {C : Callee} {row : List Int} {n : Nat} {x : Bool} (hC : RbC C row n) (h : Rw n row) (h6 : n ≤ 6) :
   (rbL row = [] ∧ ∃ H, bodyA E C fg 1000000 106 [.imm (ics row) n x] [] 0 = some (.nilsl, H)) ∨
   (0 < (rbL row).length ∧ ∃ H, bodyA E C fg 1000000 106 [.imm (ics row) n x] [] 0 = some (.ref 50 0 (rbL row).length (rbL row).length (rbL row).length 1 false, H) ∧ hget H 50 = some ⟨.row, lcs (rbL row)⟩) := by
 have hl := h.len
 have hlen : (ics row).length = n := by rw [Za, hl]
 have eL : rbL row = rbO row n n := by unfold rbL; rw [hl]
 have hloop := loopM (f := (execA E C (fg 106) 0 54 [] 1000000 Z4X)) (E0 := []) (fun i => rbT row n x (rbO row n i) i) n (fun i hi => Z0ei hC h h6 i hi) rfl (by omega)
   (e := .exit 0) (se := ([(10, .bool false), (9, .int .i64 n), (8, .int .i64 n), (3, oV 50 1 (rbL row).length), (0, .imm (ics row) n x)], oH 50 (lcs (rbL row))))
   (by
     rw [eL]
     simp only [rbT]
     rcases ocvL 50 (rbO row n n) with ⟨_, o1, o2⟩ | ⟨_, o1, o2⟩ <;> rw [o1, o2] <;> simp (disch := omega) only [ZF, stp, just, Rd.bind, Rd.run, Rd.opt, upds, aBin, aInt, Nat.reduceEqDiff, Nat.reduceLeDiff, ↓reduceIte, Z33]) (by simp)
 have e0 : oH 50 (lcs (rbO row n 0)) = [] := rfl
 have e1 : oV 50 1 (rbO row n 0).length = .nilsl := rfl
 simp only [rbT, e0, e1, cl0] at hloop
 rcases ocvL 50 (rbL row) with ⟨hn, o1, o2⟩ | ⟨hp, o1, o2⟩ <;> rw [o1, o2] at hloop
 · refine .inl ⟨hn, ?_⟩
   simp (disch := omega) only [ZF, Z5, stp, just, Rd.bind, Rd.run, upds, resA, resL, aLen, Z3, Nat.reduceBEq, Nat.reduceEqDiff, Nat.reduceLeDiff, ↓reduceIte, reduceCtorEq, ZT, Z33, hloop]
   exact ⟨_, rfl⟩
 · refine .inr ⟨hp, ?_⟩
   simp (disch := omega) only [ZF, Z5, stp, just, Rd.bind, Rd.run, upds, resA, resL, aLen, Z3, Nat.reduceBEq, Nat.reduceEqDiff, Nat.reduceLeDiff, ↓reduceIte, reduceCtorEq, ZT, Z33, hloop]
   exact ⟨_, rfl, rfl⟩
theorem Zqs {d : Nat} {site : Nat → Nat} {seen : List Nat} {row : List Int} {n : Nat} {x : Bool} (h : Rw n row) (h0 : 0 < n) (h6 : n ≤ 6) : aBack site true seen (thaw (kF (d + 7)) 106 [.imm (ics row) n x] [] 0) =
   if rbL row = [] then .pure (.nilsl, []) else Z0t (site 0) seen (fun k => .ref k 0 (rbL row).length (rbL row).length (rbL row).length 1 false) ⟨.row, lcs (rbL row)⟩ := by
 rcases Zun (x := x) (rbC d h.len h0 h6) h h6 with ⟨e, H, h1⟩ | ⟨hp, H, h1, h2⟩
 · rw [if_pos e]
   exact Zit ⟨H, by rw [Z15 rfl]; exact h1⟩
 · rw [if_neg (fun e => by rw [e] at hp; simp at hp)]
   exact Z2u (by rw [Z15 rfl]; exact h1) h2 (Zq _)
end Go.AM.Ytfmnoohhhokicaa
end
noncomputable section
namespace Go.AM.Rub
def fuR (l : List Int) (m : Nat) (left most : Int) : List (List Int) := (rowsL m left most).map (l ++ ·)
theorem Zoa (l : List Int) (left most : Int) : fuR l 0 left most = if left = 0 then [l] else [] := by
 unfold fuR
 simp only [rowsL]
 split <;> simp
theorem Z00m (m : Nat) (left most : Int) : fuR [] m left most = rowsL m left most := by
 unfold fuR; simp
theorem ZQ4 (l : List Int) (m : Nat) (left most : Int) : fuR l (m + 1) left most = (dn (min most left)).flatMap fun t => fuR (l ++ [t]) m (left - t) t := by
 unfold fuR
 simp only [rowsL, List.map_flatMap, List.map_map]
 congr 1
 funext t
 congr 1
 funext r
 simp
def fuP (l : List Int) (m : Nat) (left : Int) (m0 : Nat) (j : Nat) : List (List Int) := (List.range j).flatMap fun (i : Nat) => fuR (l ++ [((m0 : Int) - i)]) m (left - ((m0 : Int) - i)) ((m0 : Int) - i)
theorem Z5q (l : List Int) (m : Nat) (left : Int) (m0 j : Nat) : fuP l m left m0 (j + 1) = fuP l m left m0 j ++ fuR (l ++ [((m0 : Int) - j)]) m (left - ((m0 : Int) - j)) ((m0 : Int) - j) := by
 unfold fuP
 rw [List.range_succ, List.flatMap_append]
 simp
theorem Z3l : ∀ n : Nat, dnN n = (List.range (n + 1)).map fun (i : Nat) => (n : Int) - i
 | 0 => rfl
 | n + 1 => by
   have h : List.range (n + 1 + 1) = 0 :: (List.range (n + 1)).map Nat.succ := List.range_succ_eq_map
   rw [dnN, Z3l n, h, List.map_cons, List.map_map]
   congr 1
   apply List.map_congr_left
   intro a _
   simp only [Function.comp_apply]
   omega
theorem ZwI (l : List Int) (m : Nat) {left most : Int} {m0 : Nat} (h : min most left = m0) : fuP l m left m0 (m0 + 1) = fuR l (m + 1) left most := by
 rw [ZQ4, h]
 unfold fuP dn
 rw [if_neg (by omega), Int.toNat_natCast, Z3l, List.flatMap_map]
theorem Z033 (l : List Int) (m : Nat) (left most : Int) (h : most ≤ 8) : (fuR l m left most).length ≤ 9 ^ m := by
 unfold fuR
 rw [List.length_map]
 exact Z4n m left most h
theorem Zez (l : List Int) (m : Nat) (left : Int) (m0 : Nat) (h : m0 ≤ 8) : ∀ j, j ≤ m0 + 1 → (fuP l m left m0 j).length ≤ j * 9 ^ m
 | 0, _ => by simp [fuP]
 | j + 1, hj => by
   have ih := Zez l m left m0 h j (by omega)
   have := Z033 (l ++ [((m0 : Int) - j)]) m (left - ((m0 : Int) - j)) ((m0 : Int) - j) (by omega)
   rw [Z5q, List.length_append, Nat.succ_mul]
   omega
end Go.AM.Rub
end
noncomputable section
namespace Go.AM.Rub
def cntE (left : Int) (m : Nat) : Nat → Int → Nat
 | 0, _ => 0
 | f + 1, t => if t * (m : Int) ≥ left ∧ t ≥ 0 then cntE left m f (t - 1) + 1 else 0
theorem Z4d (left : Int) (m : Nat) : ∀ (f : Nat) (t : Int), t < f → (∀ j : Nat, j < cntE left m f t → (t - j) * (m : Int) ≥ left ∧ t - j ≥ 0) ∧ ¬ ((t - cntE left m f t) * (m : Int) ≥ left ∧ t - cntE left m f t ≥ 0)
 | 0, t, h => by
   refine ⟨fun j hj => by simp [cntE] at hj, ?_⟩
   simp only [cntE]
   intro hh
   omega
 | f + 1, t, h => by
   simp only [cntE]
   split
   · rename_i hc
     obtain ⟨h1, h2⟩ := Z4d left m f (t - 1) (by omega)
     have e : ∀ c : Nat, t - ((c + 1 : Nat) : Int) = t - 1 - (c : Int) := fun c => by omega
     refine ⟨fun j hj => ?_, ?_⟩
     · cases j with
       | zero => simpa using hc
       | succ j =>
         have := h1 j (by omega)
         rw [← e] at this
         exact this
     · rw [← e] at h2; exact h2
   · rename_i hc
     refine ⟨fun j hj => absurd hj (by omega), ?_⟩
     simpa using hc
def eaR (x : Nat → Int) (n : Nat) : Nat → List Int → Int → Int → List (List Int)
 | 0, l, _, _ => [l]
 | m + 1, l, sum, most => (List.range (cntE (x n - sum) (m + 1) 100 (min most (x (l.length + 1) - sum)))).flatMap fun (i : Nat) =>
     eaR x n m (l ++ [min most (x (l.length + 1) - sum) - i]) (sum + (min most (x (l.length + 1) - sum) - i)) (min most (x (l.length + 1) - sum) - i)
def eaP (x : Nat → Int) (n m : Nat) (l : List Int) (sum t0 : Int) (j : Nat) : List (List Int) := (List.range j).flatMap fun (i : Nat) => eaR x n m (l ++ [t0 - i]) (sum + (t0 - i)) (t0 - i)
theorem Z46 (x : Nat → Int) (n m : Nat) (l : List Int) (sum t0 : Int) (j : Nat) : eaP x n m l sum t0 (j + 1) = eaP x n m l sum t0 j ++ eaR x n m (l ++ [t0 - j]) (sum + (t0 - j)) (t0 - j) := by
 unfold eaP
 rw [List.range_succ, List.flatMap_append]
 simp
theorem Z5x (x : Nat → Int) (n m : Nat) (l : List Int) (sum most : Int) : eaR x n (m + 1) l sum most = eaP x n m l sum (min most (x (l.length + 1) - sum)) (cntE (x n - sum) (m + 1) 100 (min most (x (l.length + 1) - sum))) := rfl
theorem ZdY (left : Int) (m : Nat) : ∀ (f : Nat) (t : Int), t ≤ 8 → cntE left m f t ≤ 9
 | 0, t, _ => by simp [cntE]
 | f + 1, t, h => by
   have key : ∀ (f : Nat) (t : Int) (c : Nat), t + 1 ≤ c → cntE left m f t ≤ c := by
     intro f
     induction f with
     | zero => intro t c _; simp [cntE]
     | succ f ih =>
       intro t c hc
       simp only [cntE]
       split
       · rename_i hh
         have := ih (t - 1) (c - 1) (by omega)
         omega
       · omega
   exact key (f + 1) t 9 (by omega)
theorem ZyH (x : Nat → Int) (n : Nat) : ∀ (m : Nat) (l : List Int) (sum most : Int), most ≤ 8 → (eaR x n m l sum most).length ≤ 9 ^ m
 | 0, l, _, _, _ => by simp [eaR]
 | m + 1, l, sum, most, h => by
   rw [Z5x]
   have hc := ZdY (x n - sum) (m + 1) 100 (min most (x (l.length + 1) - sum)) (by omega)
   have key : ∀ j, (eaP x n m l sum (min most (x (l.length + 1) - sum)) j).length ≤ j * 9 ^ m := by
     intro j
     induction j with
     | zero => simp [eaP]
     | succ j ih =>
       rw [Z46, List.length_append, Nat.succ_mul]
       have := ZyH x n m (l ++ [min most (x (l.length + 1) - sum) - j]) (sum + (min most (x (l.length + 1) - sum) - j)) (min most (x (l.length + 1) - sum) - j) (by omega)
       omega
   have := key (cntE (x n - sum) (m + 1) 100 (min most (x (l.length + 1) - sum)))
   have h2 := Nat.mul_le_mul_right (9 ^ m) hc
   rw [Nat.pow_succ, Nat.mul_comm (9 ^ m)]
   omega
theorem Zex (x : Nat → Int) (n m : Nat) (l : List Int) (sum t0 : Int) (h : t0 ≤ 8) : ∀ j, (eaP x n m l sum t0 j).length ≤ j * 9 ^ m
 | 0 => by simp [eaP]
 | j + 1 => by
   have ih := Zex x n m l sum t0 h j
   rw [Z46, List.length_append, Nat.succ_mul]
   have := ZyH x n m (l ++ [t0 - j]) (sum + (t0 - j)) (t0 - j) (by omega)
   omega
end Go.AM.Rub
end
noncomputable section
namespace Go.AM.Ytfmnoohhhokicaa
open Go Go.AM Go.AM.Rub
theorem Z0kT {d : Nat} {l : List Int} {k : Nat} (hl : l.length = k) (h0 : 0 < k) (h9 : k ≤ 100) : pF (d + 2) 93 [.ref 0 0 k k k 1 false, .ptr 1 0 1] [(0, ⟨.row, ics l⟩), (1, ⟨.box, [.nilsl]⟩)] 64 =
   some (.tup [], [(0, ⟨.froz, ics l⟩), (1, ⟨.box, [.ref 71 0 1 1 1 1 false]⟩), (69, ⟨.froz, ics l⟩), (70, ⟨.row, [.imm (ics l) k false]⟩), (71, ⟨.row, [.imm (ics l) k false]⟩)]) := by
 rw [pF_s]
 have hlen : (ics l).length = k := by rw [Za, hl]
 have htk : List.take k (ics l) = ics l := List.take_of_length_le (by omega)
 have hcl := fun (site : Nat → Nat) seen x => Z5i (d := d) (site := site) (seen := seen) (ex := x) hl h0 (by omega)
 generalize kF (d + 1) = C at *
 simp (disch := omega) only [ZF, Z5, just, Rd.bind, Rd.run, Rd.opt, upds, acells, zeroCells, tsz, elemT, rdCells, aLoad, aStore, opStore, resA, resL, fresh, Z3, putC, evO, Nat.reduceAdd, Nat.reduceLT, Nat.reduceBEq, Nat.reduceEqDiff, Nat.reduceLeDiff, ↓reduceIte, reduceCtorEq, stpT, Rd.foot, writing, Zb, Tr.empty, Zc, apartT, disj, Z9, Zk, partsOf, fillA, repC, Zm, aAppend, srcOf, window, aCall, snaps, ZT, F_93, hlen, htk, hcl, Z2w (show 1 ≤ 1000000 by omega)]
theorem Z0o9 {d : Nat} {l : List Int} {k : Nat} (hl : l.length = k) (h0 : 0 < k) (h9 : k ≤ 100) {A : List AV} {m : Nat} (hA : A.length = m) (hm : m + 1 ≤ 1000000) : pF (d + 2) 93 [.ref 0 0 k k k 1 false, .ptr 1 0 1] [(0, ⟨.row, ics l⟩), (1, ⟨.box, [.ref 2 0 m m m 1 false]⟩), (2, ⟨.row, A⟩)] 64 =
   some (.tup [], [(0, ⟨.froz, ics l⟩), (1, ⟨.box, [.ref 2 0 (m + 1) (m + 1) (m + 1) 1 false]⟩), (2, ⟨.row, A ++ [.imm (ics l) k false]⟩), (69, ⟨.froz, ics l⟩), (70, ⟨.row, [.imm (ics l) k false]⟩)]) := by
 rw [pF_s]
 have hlen : (ics l).length = k := by rw [Za, hl]
 have htk : List.take k (ics l) = ics l := List.take_of_length_le (by omega)
 have hta : List.take m A = A := List.take_of_length_le (by omega)
 have hno : ¬ m + 1 ≤ m := by omega
 have hcl := fun (site : Nat → Nat) seen x => Z5i (d := d) (site := site) (seen := seen) (ex := x) hl h0 (by omega)
 generalize kF (d + 1) = C at *
 simp (disch := omega) only [ZF, Z5, just, Rd.bind, Rd.run, Rd.opt, upds, acells, zeroCells, tsz, elemT, rdCells, aLoad, aStore, opStore, resA, resL, fresh, Z3, putC, evO, Nat.reduceAdd, Nat.reduceLT, Nat.reduceBEq, Nat.reduceEqDiff, Nat.reduceLeDiff, ↓reduceIte, reduceCtorEq, stpT, Rd.foot, writing, Zb, Tr.empty, Zc, apartT, disj, Z9, Zk, partsOf, fillA, repC, Zm, aAppend, srcOf, window, aCall, snaps, ZT, F_93, hlen, htk, hta, hA, hno, hcl, Z2w hm]
abbrev vB (p : Nat) : AV := .clo 93 [.ptr p 0 1]
abbrev puK (i j k q : Nat) : AV := .clo 116 [.ptr i 0 1, .ptr j 0 1, .ptr k 0 1, .ptr q 0 1]
abbrev ehA (l : List Int) (X : List AV) (n : Nat) : AHeap := [(0, ⟨.row, ics l⟩), (1, ⟨.box, [.int .i64 n]⟩), (2, ⟨.box, [vB 3]⟩), (3, ⟨.box, [.nilsl]⟩), (4, ⟨.box, [.ref 5 0 (n + 1) (n + 1) (n + 1) 1 false]⟩), (5, ⟨.row, X⟩), (6, ⟨.box, [puK 1 2 4 6]⟩)]
abbrev ehB (l : List Int) (X : List AV) (n : Nat) (L : List (List Int)) : AHeap := [(0, ⟨.row, ics l⟩), (1, ⟨.box, [.int .i64 n]⟩), (2, ⟨.box, [vB 3]⟩), (3, ⟨.box, [.ref 4 0 L.length L.length L.length 1 false]⟩), (4, ⟨.row, lcs L⟩), (5, ⟨.box, [.ref 6 0 (n + 1) (n + 1) (n + 1) 1 false]⟩), (6, ⟨.row, X⟩), (7, ⟨.box, [puK 1 2 5 7]⟩)]
theorem ZGT {d : Nat} {l : List Int} {X : List AV} {k n : Nat} (hl : l.length = k) (h0 : 0 < k) (h9 : k ≤ 100) : kF (d + 2) 93 [.ref 0 0 k k k 1 false, .ptr 3 0 1] (ehA l X n) 560 =
   some (.tup [], [(0, ⟨.froz, ics l⟩), (1, ⟨.box, [.int .i64 n]⟩), (2, ⟨.box, [vB 3]⟩), (3, ⟨.box, [.ref 560 0 1 1 1 1 false]⟩), (4, ⟨.box, [.ref 5 0 (n + 1) (n + 1) (n + 1) 1 false]⟩), (5, ⟨.row, X⟩), (6, ⟨.box, [puK 1 2 4 6]⟩), (560, ⟨.row, [.imm (ics l) k false]⟩)]) := by
 have hp := Z0kT (d := d) hl h0 h9
 rw [Z1k rfl]
 have hks : (mark (ehA l X n) 1000 (refsL [.ref 0 0 k k k 1 false, .ptr 3 0 1]) []).reverse = [0, 3] := rfl
 have hap : AM.apart [0, 3] = true := rfl
 have e1 : renL (posF [0, 3] 0) [.ref 0 0 k k k 1 false, .ptr 3 0 1] = some [.ref 0 0 k k k 1 false, .ptr 1 0 1] := rfl
 have e2 : foc (posF [0, 3] 0) (ehA l X n) 0 [0, 3] = some [(0, ⟨.row, ics l⟩), (1, ⟨.box, [.nilsl]⟩)] := rfl
 have hn : newsF [(0, ⟨.froz, ics l⟩), (1, ⟨.box, [.ref 71 0 1 1 1 1 false]⟩), (69, ⟨.froz, ics l⟩), (70, ⟨.row, [.imm (ics l) k false]⟩), (71, ⟨.row, [.imm (ics l) k false]⟩)] (.tup []) 2 = [71] := rfl
 have hl2 : ([0, 3] : List Nat).length = 2 := rfl
 have er : List.range 2 = [0, 1] := rfl
 rw [hks]
 unfold focus
 rw [if_pos hap]
 have hbase : baseF (ehA l X n) 1 8 560 = some 560 := rfl
 simp only [e1, e2, hp, backF, hl2, hn, er]
 simp only [List.length_cons, List.length_nil, Nat.zero_add, hbase, AM.apart, List.elem_nil, Bool.not_false, Bool.and_self, if_true, if_false, List.cons_append, List.nil_append, ren, renL, unf, outF, posF, List.getElem?_cons_zero, List.getElem?_cons_succ, Nat.reduceLT, goodB, BS.open_, Bool.true_or, Bool.false_or, ehA, Zw, decide_true, renB, hl2, upds, Zu, Zy, Nat.reduceEqDiff, Nat.reduceLeDiff, Nat.add_zero, reduceCtorEq]
theorem ZLK {d : Nat} {l : List Int} {X : List AV} {k n : Nat} {L : List (List Int)} (hl : l.length = k) (h0 : 0 < k) (h9 : k ≤ 100) (hL : L.length + 1 ≤ 1000000) : kF (d + 2) 93 [.ref 0 0 k k k 1 false, .ptr 3 0 1] (ehB l X n L) 560 =
   some (.tup [], [(0, ⟨.froz, ics l⟩), (1, ⟨.box, [.int .i64 n]⟩), (2, ⟨.box, [vB 3]⟩), (3, ⟨.box, [.ref 4 0 (L.length + 1) (L.length + 1) (L.length + 1) 1 false]⟩), (4, ⟨.row, lcs L ++ [.imm (ics l) k false]⟩), (5, ⟨.box, [.ref 6 0 (n + 1) (n + 1) (n + 1) 1 false]⟩), (6, ⟨.row, X⟩), (7, ⟨.box, [puK 1 2 5 7]⟩)]) := by
 have hp := Z0o9 (d := d) hl h0 h9 (Zq L) hL
 rw [Z1k rfl]
 have hks : (mark (ehB l X n L) 1000 (refsL [.ref 0 0 k k k 1 false, .ptr 3 0 1]) []).reverse = [0, 3, 4] := rfl
 have hap : AM.apart [0, 3, 4] = true := rfl
 have e1 : renL (posF [0, 3, 4] 0) [.ref 0 0 k k k 1 false, .ptr 3 0 1] = some [.ref 0 0 k k k 1 false, .ptr 1 0 1] := rfl
 have e2 : foc (posF [0, 3, 4] 0) (ehB l X n L) 0 [0, 3, 4] = some [(0, ⟨.row, ics l⟩), (1, ⟨.box, [.ref 2 0 L.length L.length L.length 1 false]⟩), (2, ⟨.row, lcs L⟩)] := rfl
 have hl2 : ([0, 3, 4] : List Nat).length = 3 := rfl
 have er : List.range 3 = [0, 1, 2] := rfl
 rw [hks]
 unfold focus
 rw [if_pos hap]
 generalize lcs L = A at *
 generalize L.length = m at *
 have hn : newsF [(0, ⟨.froz, ics l⟩), (1, ⟨.box, [.ref 2 0 (m + 1) (m + 1) (m + 1) 1 false]⟩), (2, ⟨.row, A ++ [.imm (ics l) k false]⟩), (69, ⟨.froz, ics l⟩), (70, ⟨.row, [.imm (ics l) k false]⟩)] (.tup []) 3 = [] := rfl
 simp only [e1, e2, hp, backF, hl2, hn, er]
 simp only [List.length_nil, baseF, freeL, AM.apart, if_true, if_false, List.append_nil, ren, renL, unf, outF, posF, List.getElem?_cons_zero, List.getElem?_cons_succ, Nat.reduceLT, goodB, BS.open_, Bool.true_or, Bool.false_or, ehB, Zw, decide_true, Bool.and_self, renB, hl2, upds, Zu, Zy, Nat.reduceEqDiff, Nat.reduceLeDiff, Nat.reduceAdd, reduceCtorEq]
end Go.AM.Ytfmnoohhhokicaa
end
noncomputable section
namespace Go.AM.Ytfmnoohhhokicaa
open Go Go.AM Go.AM.Rub
structure EaA (l xs : List Int) (n : Nat) (new : List (List Int)) (H : AHeap) (id : Nat) (st : BS) : Prop where
 h0 : hget H 0 = some ⟨st, ics l⟩
 st : st = .row ∨ st = .froz
 h1 : hget H 1 = some ⟨.box, [.int .i64 n]⟩
 h2 : hget H 2 = some ⟨.box, [vB 3]⟩
 h3 : hget H 3 = some ⟨.box, [oV id 1 new.length]⟩
 h4 : hget H 4 = some ⟨.box, [.ref 5 0 (n + 1) (n + 1) (n + 1) 1 false]⟩
 h5 : hget H 5 = some ⟨.row, ics xs⟩
 h6 : hget H 6 = some ⟨.box, [puK 1 2 4 6]⟩
 id7 : 7 ≤ id
 hr : 0 < new.length → hget H id = some ⟨.row, lcs new⟩
structure EaB (l xs : List Int) (n : Nat) (L : List (List Int)) (H : AHeap) (st : BS) : Prop where
 h0 : hget H 0 = some ⟨st, ics l⟩
 st : st = .row ∨ st = .froz
 h1 : hget H 1 = some ⟨.box, [.int .i64 n]⟩
 h2 : hget H 2 = some ⟨.box, [vB 3]⟩
 h3 : hget H 3 = some ⟨.box, [.ref 4 0 L.length L.length L.length 1 false]⟩
 h4 : hget H 4 = some ⟨.row, lcs L⟩
 h5 : hget H 5 = some ⟨.box, [.ref 6 0 (n + 1) (n + 1) (n + 1) 1 false]⟩
 h6 : hget H 6 = some ⟨.row, ics xs⟩
 h7 : hget H 7 = some ⟨.box, [puK 1 2 5 7]⟩
structure EaC (d : Nat) (l xs : List Int) (x : Nat → Int) (n k m : Nat) (sum most : Int) : Prop where
 a : ∃ H id st, pF d 116 [.ref 0 0 k k k 1 false, .int .i64 sum, .int .i64 most, .ptr 1 0 1, .ptr 2 0 1, .ptr 4 0 1, .ptr 6 0 1] (ehA l (ics xs) n) 64 = some (.tup [], H) ∧ EaA l xs n (eaR x n m l sum most) H id st
 b : ∀ L : List (List Int), 0 < L.length → L.length + 9 ^ m ≤ 900000 → ∃ H st, pF d 116 [.ref 0 0 k k k 1 false, .int .i64 sum, .int .i64 most, .ptr 1 0 1, .ptr 2 0 1, .ptr 5 0 1, .ptr 7 0 1] (ehB l (ics xs) n L) 64 = some (.tup [], H) ∧ EaB l xs n (L ++ eaR x n m l sum most) H st
theorem newsEA {l xs : List Int} {n : Nat} {new : List (List Int)} {H : AHeap} {id : Nat} {st : BS} (h : EaA l xs n new H id st) : newsF H (.tup []) 7 = if new = [] then [] else [id] := by
 obtain ⟨h0, hs, h1, h2, h3, h4, h5, h6, hi, hr⟩ := h
 have e : refsOf (.tup []) ++ List.range 7 = [0, 1, 2, 3, 4, 5, 6] := rfl
 unfold newsF
 rw [e]
 cases hn : new with
 | nil =>
   subst hn
   rw [if_pos rfl]
   have hv : oV id 1 ([] : List (List Int)).length = .nilsl := rfl
   rw [hv] at h3
   rcases hs with rfl | rfl <;> simp [mark, h0, h1, h2, h3, h4, h5, h6, refsL, refsOf]
 | cons x xs =>
   rw [← hn]
   have hp : 0 < new.length := by rw [hn]; simp
   rw [if_neg (by rw [hn]; simp)]
   rw [ZN hp] at h3
   have hr := hr hp
   have c : ∀ j, j < 7 → (id == j) = false := fun j hj => by rw [beq_eq_false_iff_ne]; omega
   have c' : ∀ j, j < 7 → (j == id) = false := fun j hj => by rw [beq_eq_false_iff_ne]; omega
   have g : ∀ j, j < 7 → ¬ id = j := fun j hj => by omega
   have g' : ∀ j, j < 7 → ¬ j = id := fun j hj => by omega
   have c4 : ¬ id < 7 := by omega
   rcases hs with rfl | rfl <;> simp (disch := omega) [mark, h0, h1, h2, h3, h4, h5, h6, hr, refsL, refsOf, g, g', List.filter_cons, hi]
theorem newsEB {l xs : List Int} {n : Nat} {L : List (List Int)} {H : AHeap} {st : BS} (h : EaB l xs n L H st) : newsF H (.tup []) 8 = [] := by
 obtain ⟨h0, hs, h1, h2, h3, h4, h5, h6, h7⟩ := h
 have e : refsOf (.tup []) ++ List.range 8 = [0, 1, 2, 3, 4, 5, 6, 7] := rfl
 unfold newsF
 rw [e]
 rcases hs with rfl | rfl <;> simp [mark, h0, h1, h2, h3, h4, h5, h6, h7, refsL, refsOf]
end Go.AM.Ytfmnoohhhokicaa
end
noncomputable section
namespace Go.AM.Ytfmnoohhhokicaa
open Go Go.AM Go.AM.Rub
noncomputable section
variable {d : Nat} {l l' xs : List Int} {x : Nat → Int} {n k m : Nat} {sum most : Int} {c : List AV}
theorem ZI6 (hC : EaC d l' xs x n k m sum most) : ∃ st, kF d 116 [.ref 120 0 k k k 1 false, .int .i64 sum, .int .i64 most, .ptr 1 0 1, .ptr 2 0 1, .ptr 4 0 1, .ptr 6 0 1]
     [(0, ⟨.row, ics l⟩), (1, ⟨.box, [.int .i64 n]⟩), (2, ⟨.box, [vB 3]⟩), (3, ⟨.box, [.nilsl]⟩), (4, ⟨.box, [.ref 5 0 (n + 1) (n + 1) (n + 1) 1 false]⟩), (5, ⟨.row, ics xs⟩), (6, ⟨.box, [puK 1 2 4 6]⟩), (119, ⟨.row, c⟩), (120, ⟨.row, ics l'⟩)] 560 =
   some (.tup [], (0, ⟨.row, ics l⟩) :: (1, ⟨.box, [.int .i64 n]⟩) :: (2, ⟨.box, [vB 3]⟩) :: (3, ⟨.box, [oV 560 1 (eaR x n m l' sum most).length]⟩) :: (4, ⟨.box, [.ref 5 0 (n + 1) (n + 1) (n + 1) 1 false]⟩) :: (5, ⟨.row, ics xs⟩) :: (6, ⟨.box, [puK 1 2 4 6]⟩) :: (119, ⟨.row, c⟩) :: (120, ⟨st, ics l'⟩) :: oH 560 (lcs (eaR x n m l' sum most))) := by
 obtain ⟨H, id, st, hp, ro⟩ := hC.a
 refine ⟨st, ?_⟩
 rw [Z1k rfl]
 have hks : (mark [(0, ⟨.row, ics l⟩), (1, ⟨.box, [.int .i64 n]⟩), (2, ⟨.box, [vB 3]⟩), (3, ⟨.box, [.nilsl]⟩), (4, ⟨.box, [.ref 5 0 (n + 1) (n + 1) (n + 1) 1 false]⟩), (5, ⟨.row, ics xs⟩), (6, ⟨.box, [puK 1 2 4 6]⟩), (119, ⟨.row, c⟩), (120, ⟨.row, ics l'⟩)] 1000 (refsL [.ref 120 0 k k k 1 false, .int .i64 sum, .int .i64 most, .ptr 1 0 1, .ptr 2 0 1, .ptr 4 0 1, .ptr 6 0 1]) []).reverse = [120, 1, 2, 3, 4, 5, 6] := rfl
 have hap : AM.apart [120, 1, 2, 3, 4, 5, 6] = true := rfl
 have e1 : renL (posF [120, 1, 2, 3, 4, 5, 6] 0) [.ref 120 0 k k k 1 false, .int .i64 sum, .int .i64 most, .ptr 1 0 1, .ptr 2 0 1, .ptr 4 0 1, .ptr 6 0 1] = some [.ref 0 0 k k k 1 false, .int .i64 sum, .int .i64 most, .ptr 1 0 1, .ptr 2 0 1, .ptr 4 0 1, .ptr 6 0 1] := rfl
 have e2 : foc (posF [120, 1, 2, 3, 4, 5, 6] 0) [(0, ⟨.row, ics l⟩), (1, ⟨.box, [.int .i64 n]⟩), (2, ⟨.box, [vB 3]⟩), (3, ⟨.box, [.nilsl]⟩), (4, ⟨.box, [.ref 5 0 (n + 1) (n + 1) (n + 1) 1 false]⟩), (5, ⟨.row, ics xs⟩), (6, ⟨.box, [puK 1 2 4 6]⟩), (119, ⟨.row, c⟩), (120, ⟨.row, ics l'⟩)] 0 [120, 1, 2, 3, 4, 5, 6] = some (ehA l' (ics xs) n) := rfl
 have hn := newsEA ro
 obtain ⟨h0, hs, h1, h2, h3, h4, h5, h6, hi, hr⟩ := ro
 have hl7 : ([120, 1, 2, 3, 4, 5, 6] : List Nat).length = 7 := rfl
 have er : List.range 7 = [0, 1, 2, 3, 4, 5, 6] := rfl
 rw [hks]
 unfold focus
 rw [if_pos hap]
 simp only [e1, e2, hp, backF, hl7, hn, er]
 rcases ocvL 560 (eaR x n m l' sum most) with ⟨hn0, o1, o2⟩ | ⟨hp0, o1, o2⟩
 · rw [o1, o2]
   rw [hn0] at h3
   have hv : oV id 1 ([] : List (List Int)).length = .nilsl := rfl
   rw [hv] at h3
   rcases hs with rfl | rfl <;>
   simp only [hn0, if_true, List.length_nil, baseF, freeL, List.append_nil, AM.apart, ren, renL, unf, outF, posF, h0, h1, h2, h3, h4, h5, h6, List.getElem?_cons_zero, List.getElem?_cons_succ, Nat.reduceLT, goodB, BS.open_, Bool.true_or, Bool.false_or, ehA, Zw, decide_true, Bool.and_self, renB, hl7, upds, Zu, Zy, Nat.reduceEqDiff, Nat.reduceLeDiff, if_true, if_false, Nat.reduceAdd, reduceCtorEq]
 · rw [o1, o2]
   rw [ZN hp0] at h3
   have hr := hr hp0
   have hne : ¬ eaR x n m l' sum most = [] := fun e => by rw [e] at hp0; simp at hp0
   have c7 : ¬ id < 7 := by omega
   have hbase : baseF [(0, ⟨.row, ics l⟩), (1, ⟨.box, [.int .i64 n]⟩), (2, ⟨.box, [vB 3]⟩), (3, ⟨.box, [.nilsl]⟩), (4, ⟨.box, [.ref 5 0 (n + 1) (n + 1) (n + 1) 1 false]⟩), (5, ⟨.row, ics xs⟩), (6, ⟨.box, [puK 1 2 4 6]⟩), (119, ⟨.row, c⟩), (120, ⟨.row, ics l'⟩)] 1 8 560 = some 560 := rfl
   rcases hs with rfl | rfl <;>
   simp only [hne, List.length_cons, List.length_nil, Nat.zero_add, hbase, List.elem_nil, Bool.not_false, List.cons_append, List.nil_append, hr, c7, Nat.add_zero, AM.apart, ren, renL, unf, outF, posF, h0, h1, h2, h3, h4, h5, h6, List.getElem?_cons_zero, List.getElem?_cons_succ, Nat.reduceLT, goodB, BS.open_, Bool.true_or, Bool.false_or, ehA, Zw, decide_true, Bool.and_self, renB, hl7, upds, Zu, Zy, Nat.reduceEqDiff, Nat.reduceLeDiff, if_true, if_false, reduceCtorEq]
theorem ZHm (hC : EaC d l' xs x n k m sum most) {L : List (List Int)} (h0 : 0 < L.length) (h8 : L.length + 9 ^ m ≤ 900000) : ∃ st, kF d 116 [.ref 120 0 k k k 1 false, .int .i64 sum, .int .i64 most, .ptr 1 0 1, .ptr 2 0 1, .ptr 4 0 1, .ptr 6 0 1]
     [(0, ⟨.row, ics l⟩), (1, ⟨.box, [.int .i64 n]⟩), (2, ⟨.box, [vB 3]⟩), (3, ⟨.box, [.ref 560 0 L.length L.length L.length 1 false]⟩), (4, ⟨.box, [.ref 5 0 (n + 1) (n + 1) (n + 1) 1 false]⟩), (5, ⟨.row, ics xs⟩), (6, ⟨.box, [puK 1 2 4 6]⟩), (119, ⟨.row, c⟩), (120, ⟨.row, ics l'⟩), (560, ⟨.row, lcs L⟩)] 560 =
   some (.tup [], [(0, ⟨.row, ics l⟩), (1, ⟨.box, [.int .i64 n]⟩), (2, ⟨.box, [vB 3]⟩), (3, ⟨.box, [.ref 560 0 (L ++ eaR x n m l' sum most).length (L ++ eaR x n m l' sum most).length (L ++ eaR x n m l' sum most).length 1 false]⟩), (4, ⟨.box, [.ref 5 0 (n + 1) (n + 1) (n + 1) 1 false]⟩), (5, ⟨.row, ics xs⟩), (6, ⟨.box, [puK 1 2 4 6]⟩), (119, ⟨.row, c⟩), (120, ⟨st, ics l'⟩), (560, ⟨.row, lcs (L ++ eaR x n m l' sum most)⟩)]) := by
 obtain ⟨H, st, hp, ro⟩ := hC.b L h0 h8
 refine ⟨st, ?_⟩
 rw [Z1k rfl]
 have hks : (mark [(0, ⟨.row, ics l⟩), (1, ⟨.box, [.int .i64 n]⟩), (2, ⟨.box, [vB 3]⟩), (3, ⟨.box, [.ref 560 0 L.length L.length L.length 1 false]⟩), (4, ⟨.box, [.ref 5 0 (n + 1) (n + 1) (n + 1) 1 false]⟩), (5, ⟨.row, ics xs⟩), (6, ⟨.box, [puK 1 2 4 6]⟩), (119, ⟨.row, c⟩), (120, ⟨.row, ics l'⟩), (560, ⟨.row, lcs L⟩)] 1000 (refsL [.ref 120 0 k k k 1 false, .int .i64 sum, .int .i64 most, .ptr 1 0 1, .ptr 2 0 1, .ptr 4 0 1, .ptr 6 0 1]) []).reverse = [120, 1, 2, 3, 560, 4, 5, 6] := rfl
 have hap : AM.apart [120, 1, 2, 3, 560, 4, 5, 6] = true := rfl
 have e1 : renL (posF [120, 1, 2, 3, 560, 4, 5, 6] 0) [.ref 120 0 k k k 1 false, .int .i64 sum, .int .i64 most, .ptr 1 0 1, .ptr 2 0 1, .ptr 4 0 1, .ptr 6 0 1] = some [.ref 0 0 k k k 1 false, .int .i64 sum, .int .i64 most, .ptr 1 0 1, .ptr 2 0 1, .ptr 5 0 1, .ptr 7 0 1] := rfl
 have e2 : foc (posF [120, 1, 2, 3, 560, 4, 5, 6] 0) [(0, ⟨.row, ics l⟩), (1, ⟨.box, [.int .i64 n]⟩), (2, ⟨.box, [vB 3]⟩), (3, ⟨.box, [.ref 560 0 L.length L.length L.length 1 false]⟩), (4, ⟨.box, [.ref 5 0 (n + 1) (n + 1) (n + 1) 1 false]⟩), (5, ⟨.row, ics xs⟩), (6, ⟨.box, [puK 1 2 4 6]⟩), (119, ⟨.row, c⟩), (120, ⟨.row, ics l'⟩), (560, ⟨.row, lcs L⟩)] 0 [120, 1, 2, 3, 560, 4, 5, 6] = some (ehB l' (ics xs) n L) := rfl
 have hn := newsEB ro
 obtain ⟨h0, hs, h1, h2, h3, h4, h5, h6, h7⟩ := ro
 have hl7 : ([120, 1, 2, 3, 560, 4, 5, 6] : List Nat).length = 8 := rfl
 have er : List.range 8 = [0, 1, 2, 3, 4, 5, 6, 7] := rfl
 rw [hks]
 unfold focus
 rw [if_pos hap]
 simp only [e1, e2, hp, backF, hl7, hn, er]
 rcases hs with rfl | rfl <;>
 simp only [List.length_nil, baseF, freeL, List.append_nil, h7, AM.apart, ren, renL, unf, outF, posF, h0, h1, h2, h3, h4, h5, h6, List.getElem?_cons_zero, List.getElem?_cons_succ, Nat.reduceLT, goodB, BS.open_, Bool.true_or, Bool.false_or, ehB, Zw, decide_true, Bool.and_self, renB, hl7, upds, Zu, Zy, Nat.reduceEqDiff, Nat.reduceLeDiff, if_true, if_false, Nat.reduceAdd, reduceCtorEq]
theorem ZT6 (hC : EaC d l' xs x n k m sum most) {L : List (List Int)} (h0 : 0 < L.length) (h8 : L.length + 9 ^ m ≤ 900000) : ∃ st, kF d 116 [.ref 120 0 k k k 1 false, .int .i64 sum, .int .i64 most, .ptr 1 0 1, .ptr 2 0 1, .ptr 5 0 1, .ptr 7 0 1]
     [(0, ⟨.row, ics l⟩), (1, ⟨.box, [.int .i64 n]⟩), (2, ⟨.box, [vB 3]⟩), (3, ⟨.box, [.ref 4 0 L.length L.length L.length 1 false]⟩), (4, ⟨.row, lcs L⟩), (5, ⟨.box, [.ref 6 0 (n + 1) (n + 1) (n + 1) 1 false]⟩), (6, ⟨.row, ics xs⟩), (7, ⟨.box, [puK 1 2 5 7]⟩), (119, ⟨.row, c⟩), (120, ⟨.row, ics l'⟩)] 560 =
   some (.tup [], [(0, ⟨.row, ics l⟩), (1, ⟨.box, [.int .i64 n]⟩), (2, ⟨.box, [vB 3]⟩), (3, ⟨.box, [.ref 4 0 (L ++ eaR x n m l' sum most).length (L ++ eaR x n m l' sum most).length (L ++ eaR x n m l' sum most).length 1 false]⟩), (4, ⟨.row, lcs (L ++ eaR x n m l' sum most)⟩), (5, ⟨.box, [.ref 6 0 (n + 1) (n + 1) (n + 1) 1 false]⟩), (6, ⟨.row, ics xs⟩), (7, ⟨.box, [puK 1 2 5 7]⟩), (119, ⟨.row, c⟩), (120, ⟨st, ics l'⟩)]) := by
 obtain ⟨H, st, hp, ro⟩ := hC.b L h0 h8
 refine ⟨st, ?_⟩
 rw [Z1k rfl]
 have hks : (mark [(0, ⟨.row, ics l⟩), (1, ⟨.box, [.int .i64 n]⟩), (2, ⟨.box, [vB 3]⟩), (3, ⟨.box, [.ref 4 0 L.length L.length L.length 1 false]⟩), (4, ⟨.row, lcs L⟩), (5, ⟨.box, [.ref 6 0 (n + 1) (n + 1) (n + 1) 1 false]⟩), (6, ⟨.row, ics xs⟩), (7, ⟨.box, [puK 1 2 5 7]⟩), (119, ⟨.row, c⟩), (120, ⟨.row, ics l'⟩)] 1000 (refsL [.ref 120 0 k k k 1 false, .int .i64 sum, .int .i64 most, .ptr 1 0 1, .ptr 2 0 1, .ptr 5 0 1, .ptr 7 0 1]) []).reverse = [120, 1, 2, 3, 4, 5, 6, 7] := rfl
 have hap : AM.apart [120, 1, 2, 3, 4, 5, 6, 7] = true := rfl
 have e1 : renL (posF [120, 1, 2, 3, 4, 5, 6, 7] 0) [.ref 120 0 k k k 1 false, .int .i64 sum, .int .i64 most, .ptr 1 0 1, .ptr 2 0 1, .ptr 5 0 1, .ptr 7 0 1] = some [.ref 0 0 k k k 1 false, .int .i64 sum, .int .i64 most, .ptr 1 0 1, .ptr 2 0 1, .ptr 5 0 1, .ptr 7 0 1] := rfl
 have e2 : foc (posF [120, 1, 2, 3, 4, 5, 6, 7] 0) [(0, ⟨.row, ics l⟩), (1, ⟨.box, [.int .i64 n]⟩), (2, ⟨.box, [vB 3]⟩), (3, ⟨.box, [.ref 4 0 L.length L.length L.length 1 false]⟩), (4, ⟨.row, lcs L⟩), (5, ⟨.box, [.ref 6 0 (n + 1) (n + 1) (n + 1) 1 false]⟩), (6, ⟨.row, ics xs⟩), (7, ⟨.box, [puK 1 2 5 7]⟩), (119, ⟨.row, c⟩), (120, ⟨.row, ics l'⟩)] 0 [120, 1, 2, 3, 4, 5, 6, 7] = some (ehB l' (ics xs) n L) := rfl
 have hn := newsEB ro
 obtain ⟨h0, hs, h1, h2, h3, h4, h5, h6, h7⟩ := ro
 have hl7 : ([120, 1, 2, 3, 4, 5, 6, 7] : List Nat).length = 8 := rfl
 have er : List.range 8 = [0, 1, 2, 3, 4, 5, 6, 7] := rfl
 rw [hks]
 unfold focus
 rw [if_pos hap]
 simp only [e1, e2, hp, backF, hl7, hn, er]
 rcases hs with rfl | rfl <;>
 simp only [List.length_nil, baseF, freeL, List.append_nil, h7, AM.apart, ren, renL, unf, outF, posF, h0, h1, h2, h3, h4, h5, h6, List.getElem?_cons_zero, List.getElem?_cons_succ, Nat.reduceLT, goodB, BS.open_, Bool.true_or, Bool.false_or, ehB, Zw, decide_true, Bool.and_self, renB, hl7, upds, Zu, Zy, Nat.reduceEqDiff, Nat.reduceLeDiff, if_true, if_false, Nat.reduceAdd, reduceCtorEq]
end
end Go.AM.Ytfmnoohhhokicaa
end
noncomputable section
namespace Go.AM.Ytfmnoohhhokicaa
open Go Go.AM Go.AM.Rub
theorem ZuT (caps args : List AV) : mutV E (.clo 93 caps) args = some (93, args ++ caps) := rfl
theorem Z3Z (caps args : List AV) : mutV E (.clo 116 caps) args = some (116, args ++ caps) := rfl
theorem mulb {t : Int} {m : Nat} (h : -1000 ≤ t ∧ t ≤ 1000) (hm : m ≤ 8) : -8000 ≤ t * (m : Int) ∧ t * (m : Int) ≤ 8000 := by
 rcases (by omega : m = 0 ∨ m = 1 ∨ m = 2 ∨ m = 3 ∨ m = 4 ∨ m = 5 ∨ m = 6 ∨ m = 7 ∨ m = 8) with rfl | rfl | rfl | rfl | rfl | rfl | rfl | rfl | rfl <;> omega
theorem Z07M {d : Nat} {l xs : List Int} {x : Nat → Int} {n : Nat} {sum most : Int} (hl : l.length = n) (h0 : 0 < n) (h9 : n ≤ 100) : EaC (d + 3) l xs x n n 0 sum most := by
 have hlen : (ics l).length = n := by rw [Za, hl]
 have em : AV.imm (ics l) n false = .imm (ics l) l.length false := by rw [hl]
 constructor
 · rw [pF_s]
   have hc := ZGT (d := d) (X := ics xs) (n := n) hl h0 h9
   have e : lcs [l] = [.imm (ics l) n false] := by show [AV.imm (ics l) l.length false] = _; rw [hl]
   simp only [ehA] at hc ⊢
   have e2 : eaR x n 0 l sum most = [l] := rfl
   rw [e2]
   generalize kF (d + 2) = C at *
   simp (disch := omega) only [ZF, Z5, stp, just, Rd.bind, Rd.run, Rd.opt, upds, rdCells, aLoad, resA, resL, aLen, Z3, aBin, aInt, Nat.reduceAdd, Nat.reduceMul, Nat.reduceBEq, Nat.reduceEqDiff, Nat.reduceLeDiff, ↓reduceIte, reduceCtorEq, mutX, ZT, Z0R, callV, ZuT, hlen, hc]
   exact ⟨_, 560, .froz, rfl, ⟨rfl, .inr rfl, rfl, rfl, rfl, rfl, rfl, rfl, by omega, fun _ => by rw [e]; rfl⟩⟩
 · intro L hp h8
   rw [pF_s]
   have hc := ZLK (d := d) (X := ics xs) (n := n) (L := L) hl h0 h9 (by omega)
   simp only [ehB] at hc ⊢
   have e2 : eaR x n 0 l sum most = [l] := rfl
   have hsn := Z40 L l
   rw [← em] at hsn
   rw [e2]
   have key : ∃ H st, bodyA E (kF (d + 2)) fg 1000000 116 [.ref 0 0 n n n 1 false, .int .i64 sum, .int .i64 most, .ptr 1 0 1, .ptr 2 0 1, .ptr 5 0 1, .ptr 7 0 1] (ehB l (ics xs) n L) 64 = some (.tup [], H) ∧
     (hget H 0 = some ⟨st, ics l⟩ ∧ (st = .row ∨ st = .froz) ∧ hget H 1 = some ⟨.box, [.int .i64 n]⟩ ∧ hget H 2 = some ⟨.box, [vB 3]⟩ ∧ hget H 3 = some ⟨.box, [.ref 4 0 (L.length + 1) (L.length + 1) (L.length + 1) 1 false]⟩ ∧ hget H 4 = some ⟨.row, lcs L ++ [.imm (ics l) n false]⟩ ∧ hget H 5 = some ⟨.box, [.ref 6 0 (n + 1) (n + 1) (n + 1) 1 false]⟩ ∧ hget H 6 = some ⟨.row, ics xs⟩ ∧ hget H 7 = some ⟨.box, [puK 1 2 5 7]⟩) := by
     simp only [ehB]
     generalize lcs L = A at *
     generalize L.length = m at *
     generalize kF (d + 2) = C at *
     simp (disch := omega) only [ZF, Z5, stp, just, Rd.bind, Rd.run, Rd.opt, upds, rdCells, aLoad, resA, resL, aLen, Z3, aBin, aInt, Nat.reduceAdd, Nat.reduceMul, Nat.reduceBEq, Nat.reduceEqDiff, Nat.reduceLeDiff, ↓reduceIte, reduceCtorEq, mutX, ZT, Z0R, callV, ZuT, hlen, hc]
     exact ⟨_, .froz, rfl, rfl, .inr rfl, rfl, rfl, rfl, rfl, rfl, rfl, rfl⟩
   obtain ⟨H, st, p1, p2, p3, p4, p5, p6, p7, p8, p9, p10⟩ := key
   refine ⟨H, st, p1, ⟨p2, p3, p4, p5, by rw [List.length_append]; exact p6, by rw [← hsn]; exact p7, p8, p9, p10⟩⟩
abbrev esA (l xs : List Int) (n k : Nat) (sum left t : Int) (L : List (List Int)) : St :=
 ([(12, .int .i64 t), (11, .int .i64 left), (10, .int .i64 k), (6, .ptr 6 0 1), (3, .ptr 1 0 1), (1, .int .i64 sum), (0, .ref 0 0 k k k 1 false)], (0, ⟨.row, ics l⟩) :: (1, ⟨.box, [.int .i64 n]⟩) :: (2, ⟨.box, [vB 3]⟩) :: (3, ⟨.box, [oV 560 1 L.length]⟩) :: (4, ⟨.box, [.ref 5 0 (n + 1) (n + 1) (n + 1) 1 false]⟩) :: (5, ⟨.row, ics xs⟩) :: (6, ⟨.box, [puK 1 2 4 6]⟩) :: oH 560 (lcs L))
abbrev esB (l xs : List Int) (n k : Nat) (sum left t : Int) (L : List (List Int)) : St :=
 ([(12, .int .i64 t), (11, .int .i64 left), (10, .int .i64 k), (6, .ptr 7 0 1), (3, .ptr 1 0 1), (1, .int .i64 sum), (0, .ref 0 0 k k k 1 false)], [(0, ⟨.row, ics l⟩), (1, ⟨.box, [.int .i64 n]⟩), (2, ⟨.box, [vB 3]⟩), (3, ⟨.box, [.ref 4 0 L.length L.length L.length 1 false]⟩), (4, ⟨.row, lcs L⟩), (5, ⟨.box, [.ref 6 0 (n + 1) (n + 1) (n + 1) 1 false]⟩), (6, ⟨.row, ics xs⟩), (7, ⟨.box, [puK 1 2 5 7]⟩)])
theorem Z0ha {d : Nat} {l xs : List Int} {x : Nat → Int} {n k m : Nat} {sum left t : Int} (hl : l.length = k) (hk : k + (m + 1) = n) (h9 : n ≤ 8) (ht : -1000 ≤ t ∧ t ≤ 1000) (hs : -1000 ≤ sum ∧ sum ≤ 1000) (g : t * ((m + 1 : Nat) : Int) ≥ left ∧ t ≥ 0) (hC : EaC d (l ++ [t]) xs x n (k + 1) m (sum + t) t) (L : List (List Int)) (h8 : L.length + 9 ^ m ≤ 900000) :
   ∃ s', execA E (kF d) (fg 116) 64 62 (ehA l (ics xs) n) 1000000 Z1u (esA l xs n k sum left t L) = some (.normal, s') ∧ headA (ehA l (ics xs) n) s' = esA l xs n k sum left (t - 1) (L ++ eaR x n m (l ++ [t]) (sum + t) t) := by
 have hlen : (ics l).length = k := by rw [Za, hl]
 have htk : List.take k (ics l) = ics l := List.take_of_length_le (by omega)
 have hsn := Z2e l t
 obtain ⟨g1, g2⟩ := g
 have hnk : wrp .i64 ((n : Int) - k) = ((m + 1 : Nat) : Int) := by rw [Zs (by omega)]; omega
 have hb := mulb (m := m + 1) ht (by omega)
 obtain ⟨P, hP⟩ : ∃ P, t * ((m + 1 : Nat) : Int) = P := ⟨_, rfl⟩
 rw [hP] at g1 hb
 have w0 : wrp .i64 (t * ((m + 1 : Nat) : Int)) = P := by rw [hP]; exact Zs (by omega)
 clear hP
 have w1 : wrp .i64 (sum + t) = sum + t := Zs (by omega)
 have w2 : wrp .i64 (t - 1) = t - 1 := Zs (by omega)
 have gk : (0 : Int) ≤ (k : Int) ∧ (k : Int) ≤ (k : Int) := by omega
 have hno : ¬ k + 1 ≤ k := by omega
 generalize ((m + 1 : Nat) : Int) = M at *
 rcases ocvL 560 L with ⟨hn0, o1, o2⟩ | ⟨hp0, o1, o2⟩
 · obtain ⟨st, hc⟩ := ZI6 (l := l) (c := [.int .i64 t]) hC
   subst hn0
   rw [List.nil_append]
   simp only [esA, ehA]
   rw [o1, o2]
   rw [← hsn] at hc
   generalize eaR x n m (l ++ [t]) (sum + t) t = new at *
   generalize kF d = C at *
   rcases ocvL 560 new with ⟨hn1, p1, p2⟩ | ⟨hp1, p1, p2⟩ <;> rw [p1, p2] at hc ⊢ <;>
     simp (disch := omega) only [ZF, ↓gd, stp, opPick, just, Rd.bind, Rd.run, Rd.opt, upds, acells, zeroCells, tsz, elemT, rdCells, aLoad, fresh, aNum, Z3, aBin, aInt, putC, evO, Nat.reduceAdd, Nat.reduceMul, Nat.reduceLT, Nat.reduceBEq, Nat.reduceEqDiff, Nat.reduceLeDiff, ↓reduceIte, reduceCtorEq, stpT, Rd.foot, writing, Zb, Tr.empty, Zc, apartT, disj, Z9, Zk, partsOf, fillA, repC, Zm, aAppend, srcOf, window, mutX, snaps, aSlice, aBounds, bMax, bHigh, bLow, ZT, Z0R, callVT, Z3Z, hlen, htk, hno, g1, g2, hnk, w0, w1, w2, gk, hc, Z0M (show k + 1 ≤ 1000000 by omega)] <;> exact ⟨_, rfl, rfl⟩
 · obtain ⟨st, hc⟩ := ZHm (l := l) (c := [.int .i64 t]) hC hp0 h8
   simp only [esA, ehA]
   rw [o1, o2, ZN (show 0 < (L ++ eaR x n m (l ++ [t]) (sum + t) t).length by rw [List.length_append]; omega), Z0W (show 0 < (L ++ eaR x n m (l ++ [t]) (sum + t) t).length by rw [List.length_append]; omega)]
   rw [← hsn] at hc
   generalize L ++ eaR x n m (l ++ [t]) (sum + t) t = new at *
   generalize lcs new = LN at *
   generalize new.length = nn at *
   generalize lcs L = LL at *
   generalize L.length = ll at *
   generalize kF d = C at *
   simp (disch := omega) only [ZF, ↓gd, stp, opPick, just, Rd.bind, Rd.run, Rd.opt, upds, acells, zeroCells, tsz, elemT, rdCells, aLoad, fresh, aNum, Z3, aBin, aInt, putC, evO, Nat.reduceAdd, Nat.reduceMul, Nat.reduceLT, Nat.reduceBEq, Nat.reduceEqDiff, Nat.reduceLeDiff, ↓reduceIte, reduceCtorEq, stpT, Rd.foot, writing, Zb, Tr.empty, Zc, apartT, disj, Z9, Zk, partsOf, fillA, repC, Zm, aAppend, srcOf, window, mutX, snaps, aSlice, aBounds, bMax, bHigh, bLow, ZT, Z0R, callVT, Z3Z, hlen, htk, hno, g1, g2, hnk, w0, w1, w2, gk, hc, Z0M (show k + 1 ≤ 1000000 by omega)]
   exact ⟨_, rfl, rfl⟩
theorem Z0i2 {d : Nat} {l xs : List Int} {x : Nat → Int} {n k m : Nat} {sum left t : Int} (hl : l.length = k) (hk : k + (m + 1) = n) (h9 : n ≤ 8) (ht : -1000 ≤ t ∧ t ≤ 1000) (hs : -1000 ≤ sum ∧ sum ≤ 1000) (g : t * ((m + 1 : Nat) : Int) ≥ left ∧ t ≥ 0) (hC : EaC d (l ++ [t]) xs x n (k + 1) m (sum + t) t) (L0 L : List (List Int)) (hp0 : 0 < L.length) (h8 : L.length + 9 ^ m ≤ 900000) :
   ∃ s', execA E (kF d) (fg 116) 64 62 (ehB l (ics xs) n L0) 1000000 Z1u (esB l xs n k sum left t L) = some (.normal, s') ∧ headA (ehB l (ics xs) n L0) s' = esB l xs n k sum left (t - 1) (L ++ eaR x n m (l ++ [t]) (sum + t) t) := by
 have hlen : (ics l).length = k := by rw [Za, hl]
 have htk : List.take k (ics l) = ics l := List.take_of_length_le (by omega)
 have hsn := Z2e l t
 obtain ⟨g1, g2⟩ := g
 have hnk : wrp .i64 ((n : Int) - k) = ((m + 1 : Nat) : Int) := by rw [Zs (by omega)]; omega
 have hb := mulb (m := m + 1) ht (by omega)
 obtain ⟨P, hP⟩ : ∃ P, t * ((m + 1 : Nat) : Int) = P := ⟨_, rfl⟩
 rw [hP] at g1 hb
 have w0 : wrp .i64 (t * ((m + 1 : Nat) : Int)) = P := by rw [hP]; exact Zs (by omega)
 clear hP
 have w1 : wrp .i64 (sum + t) = sum + t := Zs (by omega)
 have w2 : wrp .i64 (t - 1) = t - 1 := Zs (by omega)
 have gk : (0 : Int) ≤ (k : Int) ∧ (k : Int) ≤ (k : Int) := by omega
 have hno : ¬ k + 1 ≤ k := by omega
 generalize ((m + 1 : Nat) : Int) = M at *
 obtain ⟨st, hc⟩ := ZT6 (l := l) (c := [.int .i64 t]) hC hp0 h8
 simp only [esB, ehB]
 rw [← hsn] at hc
 generalize L ++ eaR x n m (l ++ [t]) (sum + t) t = new at *
 generalize lcs new = LN at *
 generalize new.length = nn at *
 generalize lcs L = LL at *
 generalize L.length = ll at *
 generalize lcs L0 = LL0 at *
 generalize L0.length = l0 at *
 generalize kF d = C at *
 simp (disch := omega) only [ZF, ↓gd, stp, opPick, just, Rd.bind, Rd.run, Rd.opt, upds, acells, zeroCells, tsz, elemT, rdCells, aLoad, fresh, aNum, Z3, aBin, aInt, putC, evO, Nat.reduceAdd, Nat.reduceMul, Nat.reduceLT, Nat.reduceBEq, Nat.reduceEqDiff, Nat.reduceLeDiff, ↓reduceIte, reduceCtorEq, stpT, Rd.foot, writing, Zb, Tr.empty, Zc, apartT, disj, Z9, Zk, partsOf, fillA, repC, Zm, aAppend, srcOf, window, mutX, snaps, aSlice, aBounds, bMax, bHigh, bLow, ZT, Z0R, callVT, Z3Z, hlen, htk, hno, g1, g2, hnk, w0, w1, w2, gk, hc, Z0M (show k + 1 ≤ 1000000 by omega)]
 exact ⟨_, rfl, rfl⟩
end Go.AM.Ytfmnoohhhokicaa
end
noncomputable section
namespace Go.AM.Ytfmnoohhhokicaa
open Go Go.AM Go.AM.Rub
theorem nineA {N a : Nat} (h1 : a ≤ 8 * N) (h2 : 9 * N ≤ 531441) : a + N ≤ 900000 := by omega
theorem nineB {N a b : Nat} (h : b + 9 * N ≤ 900000) (h1 : a ≤ 8 * N) : b + a + N ≤ 900000 := by omega
theorem ZN5 {d n : Nat} {xs : List Int} {x : Nat → Int} (hn0 : 0 < n) (h6 : n ≤ 6) (hxl : xs.length = n + 1) (hxx : ∀ j, j ≤ n → (ics xs)[j]? = some (.int .i64 (x j))) (hxb : ∀ j, j ≤ n → 0 ≤ x j ∧ x j ≤ 500) : ∀ (m : Nat) (l : List Int) (k : Nat) (sum most : Int), l.length = k → k + m = n → 0 ≤ sum ∧ sum ≤ 8 * k → 0 ≤ most ∧ most ≤ 8 → EaC (d + m + 3) l xs x n k m sum most
 | 0, l, k, sum, most, hl, hk, _, _ => by
   rw [Nat.add_zero] at hk
   subst hk
   exact Z07M hl hn0 (by omega)
 | m + 1, l, k, sum, most, hl, hk, hs, hm => by
   have hb1 := hxb (k + 1) (by omega)
   have hbn := hxb n (Nat.le_refl _)
   obtain ⟨t0, ht0⟩ : ∃ t0 : Int, min most (x (k + 1) - sum) = t0 := ⟨_, rfl⟩
   have ht8 : t0 ≤ 8 := by omega
   have ht1 : t0 < ((100 : Nat) : Int) := by omega
   have hc9 := ZdY (x n - sum) (m + 1) 100 t0 ht8
   obtain ⟨hin, hout⟩ := Z4d (x n - sum) (m + 1) 100 t0 ht1
   clear ht1
   obtain ⟨c, hcc⟩ : ∃ c : Nat, cntE (x n - sum) (m + 1) 100 t0 = c := ⟨_, rfl⟩
   rw [hcc] at hin hout hc9
   have hall : eaP x n m l sum t0 c = eaR x n (m + 1) l sum most := by rw [Z5x, hl, ht0, hcc]
   clear hcc
   have hrec : ∀ j : Nat, j < c → EaC (d + m + 3) (l ++ [t0 - j]) xs x n (k + 1) m (sum + (t0 - j)) (t0 - j) := fun j hj => by
     have := (hin j hj).2
     exact ZN5 hn0 h6 hxl hxx hxb m (l ++ [t0 - j]) (k + 1) (sum + (t0 - j)) (t0 - j) (by simp [hl]) (by omega) (by omega) (by omega)
   have hlen : (ics l).length = k := by rw [Za, hl]
   have hxlen : (ics xs).length = n + 1 := by rw [Za, hxl]
   have hx1 : (ics xs)[k + 1]? = some (.int .i64 (x (k + 1))) := hxx (k + 1) (by omega)
   have hxn : (ics xs)[n]? = some (.int .i64 (x n)) := hxx n (Nat.le_refl _)
   have gk : ¬ (k : Int) = n := by omega
   have gk' : ((k : Int) == n) = false := by rw [beq_eq_false_iff_ne]; exact gk
   have b1 : (0 : Int) ≤ ((k + 1 : Nat) : Int) ∧ ((k + 1 : Nat) : Int) < ((n + 1 : Nat) : Int) := by omega
   have bn : (0 : Int) ≤ (n : Int) ∧ (n : Int) < ((n + 1 : Nat) : Int) := by omega
   have w1 : ∀ _ : Unit, wrp .i64 (x n - sum) = x n - sum := fun _ => Zs (by omega)
   have w2 : ∀ _ : Unit, wrp .i64 (x (k + 1) - sum) = x (k + 1) - sum := fun _ => Zs (by omega)
   have w3 : ∀ _ : Unit, wrp .i64 ((k : Int) + 1) = ((k + 1 : Nat) : Int) := fun _ => by rw [Zs (by omega)]; omega
   have emin : (if x (k + 1) - sum < most then x (k + 1) - sum else most) = t0 := by rw [← ht0]; split <;> omega
   have e2 : ∀ j : Nat, t0 - ((j + 1 : Nat) : Int) = t0 - j - 1 := fun j => by omega
   have z0 : t0 - ((0 : Nat) : Int) = t0 := by omega
   have hnk : ∀ _ : Unit, wrp .i64 ((n : Int) - k) = ((m + 1 : Nat) : Int) := fun _ => by rw [Zs (by omega)]; omega
   have hmb := mulb (t := t0 - c) (m := m + 1) (by omega) (by omega)
   obtain ⟨P, hP⟩ : ∃ P, (t0 - c) * ((m + 1 : Nat) : Int) = P := ⟨_, rfl⟩
   rw [hP] at hout hmb
   have w0 : ∀ _ : Unit, wrp .i64 ((t0 - c) * ((m + 1 : Nat) : Int)) = P := fun _ => by rw [hP]; exact Zs (by omega)
   clear hP
   have h9c : ∀ _ : Unit, 9 ^ (m + 1) ≤ 531441 := fun _ => by have := Nat.pow_le_pow_right (n := 9) (by omega) (show m + 1 ≤ 6 by omega); omega
   have h9s : 9 ^ (m + 1) = 9 * 9 ^ m := by rw [Nat.pow_succ, Nat.mul_comm]
   have hfl : ∀ j, j < c → (eaP x n m l sum t0 j).length ≤ 8 * 9 ^ m := fun j hj => Nat.le_trans (Zex x n m l sum t0 ht8 j) (Nat.mul_le_mul_right _ (by omega))
   have hA8 : ∀ j, j < c → (eaP x n m l sum t0 j).length + 9 ^ m ≤ 900000 := fun j hj => nineA (hfl j hj) (by rw [← h9s]; exact h9c ())
   have hB8 : ∀ (L : List (List Int)) j, L.length + 9 ^ (m + 1) ≤ 900000 → j < c → (L ++ eaP x n m l sum t0 j).length + 9 ^ m ≤ 900000 := fun L j h hj => by
     rw [List.length_append]
     rw [h9s] at h
     exact nineB h (hfl j hj)
   clear h9s
   constructor
   · rw [show d + (m + 1) + 3 = (d + m + 3) + 1 by omega, pF_s]
     have hloop := loopM (f := execA E (kF (d + m + 3)) (fg 116) 64 62 (ehA l (ics xs) n) 1000000 Z1u) (E0 := ehA l (ics xs) n) (fun j => esA l xs n k sum (x n - sum) (t0 - j) (eaP x n m l sum t0 j)) c (fun j hj => by
         simp only [Z46, e2]
         exact Z0ha hl hk (by omega) (by omega) (by omega) (hin j hj) (hrec j hj) (eaP x n m l sum t0 j) (hA8 j hj)) (by
         have e0 : eaP x n m l sum t0 0 = [] := rfl
         simp only [esA, e0]; rfl) (by omega)
       (e := .exit 0) (se := ([(46, .bool false), (12, .int .i64 (t0 - c)), (11, .int .i64 (x n - sum)), (10, .int .i64 k), (6, .ptr 6 0 1), (3, .ptr 1 0 1), (1, .int .i64 sum), (0, .ref 0 0 k k k 1 false)], (0, ⟨.row, ics l⟩) :: (1, ⟨.box, [.int .i64 n]⟩) :: (2, ⟨.box, [vB 3]⟩) :: (3, ⟨.box, [oV 560 1 (eaR x n (m + 1) l sum most).length]⟩) :: (4, ⟨.box, [.ref 5 0 (n + 1) (n + 1) (n + 1) 1 false]⟩) :: (5, ⟨.row, ics xs⟩) :: (6, ⟨.box, [puK 1 2 4 6]⟩) :: oH 560 (lcs (eaR x n (m + 1) l sum most))))
       (by
         simp only [esA, hall, ehA]
         generalize x n - sum = lf at *
         by_cases g1 : P ≥ lf
         · have g2 : ¬ t0 - c ≥ 0 := fun h => hout ⟨g1, h⟩
           rcases ocvL 560 (eaR x n (m + 1) l sum most) with ⟨_, o1, o2⟩ | ⟨_, o1, o2⟩ <;> rw [o1, o2] <;>
             simp (disch := omega) only [ZF, ↓gd, stp, opPick, just, Rd.bind, Rd.run, Rd.opt, upds, rdCells, aLoad, aBin, aInt, Nat.reduceBEq, Nat.reduceEqDiff, Nat.reduceLeDiff, ↓reduceIte, reduceCtorEq, ZT, Z0R, hnk (), w0 (), g1, g2]
         · rcases ocvL 560 (eaR x n (m + 1) l sum most) with ⟨_, o1, o2⟩ | ⟨_, o1, o2⟩ <;> rw [o1, o2] <;>
             simp (disch := omega) only [ZF, ↓gd, stp, opPick, just, Rd.bind, Rd.run, Rd.opt, upds, rdCells, aLoad, aBin, aInt, Nat.reduceBEq, Nat.reduceEqDiff, Nat.reduceLeDiff, ↓reduceIte, reduceCtorEq, ZT, Z0R, hnk (), w0 (), g1]) (by simp)
     have e0 : eaP x n m l sum t0 0 = [] := rfl
     have v0 : oV 560 1 ([] : List (List Int)).length = .nilsl := rfl
     have o0 : oH 560 (lcs []) = [] := rfl
     simp only [esA, e0, v0, o0, z0, ehA] at hloop
     simp only [ehA]
     generalize eaR x n (m + 1) l sum most = R at *
     generalize kF (d + m + 3) = C at *
     rcases ocvL 560 R with ⟨hn1, o1, o2⟩ | ⟨hp1, o1, o2⟩ <;> rw [o1, o2] at hloop
     · simp (disch := omega) only [ZF, Z5, stp, justO, just, Rd.bind, Rd.run, Rd.opt, upds, tsz, rdCells, aLoad, resA, resL, Z4, aNum, aLen, Z3, aMin, aBin, aInt, Nat.reduceAdd, Nat.reduceMul, Nat.reduceLT, Nat.reduceBEq, Nat.reduceEqDiff, Nat.reduceLeDiff, ↓reduceIte, reduceCtorEq, ZT, Z0R, hlen, hxlen, hx1, hxn, w1 (), w2 (), w3 (), b1, bn, gk', emin, hloop]
       exact ⟨_, 560, .row, rfl, ⟨rfl, .inl rfl, rfl, rfl, by rw [o1]; rfl, rfl, rfl, rfl, by omega, fun h => by rw [hn1] at h; simp at h⟩⟩
     · simp (disch := omega) only [ZF, Z5, stp, justO, just, Rd.bind, Rd.run, Rd.opt, upds, tsz, rdCells, aLoad, resA, resL, Z4, aNum, aLen, Z3, aMin, aBin, aInt, Nat.reduceAdd, Nat.reduceMul, Nat.reduceLT, Nat.reduceBEq, Nat.reduceEqDiff, Nat.reduceLeDiff, ↓reduceIte, reduceCtorEq, ZT, Z0R, hlen, hxlen, hx1, hxn, w1 (), w2 (), w3 (), b1, bn, gk', emin, hloop]
       exact ⟨_, 560, .row, rfl, ⟨rfl, .inl rfl, rfl, rfl, by rw [o1]; rfl, rfl, rfl, rfl, by omega, fun h => rfl⟩⟩
   · intro L h0 h8
     rw [show d + (m + 1) + 3 = (d + m + 3) + 1 by omega, pF_s]
     have hloop := loopM (f := execA E (kF (d + m + 3)) (fg 116) 64 62 (ehB l (ics xs) n L) 1000000 Z1u) (E0 := ehB l (ics xs) n L) (fun j => esB l xs n k sum (x n - sum) (t0 - j) (L ++ eaP x n m l sum t0 j)) c (fun j hj => by
         simp only [Z46, e2, ← List.append_assoc]
         exact Z0i2 hl hk (by omega) (by omega) (by omega) (hin j hj) (hrec j hj) L (L ++ eaP x n m l sum t0 j) (by rw [List.length_append]; omega) (hB8 L j h8 hj)) (Z5z (by simp [ehB, Zw])) (by omega)
       (e := .exit 0) (se := ([(46, .bool false), (12, .int .i64 (t0 - c)), (11, .int .i64 (x n - sum)), (10, .int .i64 k), (6, .ptr 7 0 1), (3, .ptr 1 0 1), (1, .int .i64 sum), (0, .ref 0 0 k k k 1 false)], [(0, ⟨.row, ics l⟩), (1, ⟨.box, [.int .i64 n]⟩), (2, ⟨.box, [vB 3]⟩), (3, ⟨.box, [.ref 4 0 (L ++ eaR x n (m + 1) l sum most).length (L ++ eaR x n (m + 1) l sum most).length (L ++ eaR x n (m + 1) l sum most).length 1 false]⟩), (4, ⟨.row, lcs (L ++ eaR x n (m + 1) l sum most)⟩), (5, ⟨.box, [.ref 6 0 (n + 1) (n + 1) (n + 1) 1 false]⟩), (6, ⟨.row, ics xs⟩), (7, ⟨.box, [puK 1 2 5 7]⟩)]))
       (by
         simp only [esB, hall, ehB]
         generalize x n - sum = lf at *
         by_cases g1 : P ≥ lf
         · have g2 : ¬ t0 - c ≥ 0 := fun h => hout ⟨g1, h⟩
           simp (disch := omega) only [ZF, ↓gd, stp, opPick, just, Rd.bind, Rd.run, Rd.opt, upds, rdCells, aLoad, aBin, aInt, Nat.reduceBEq, Nat.reduceEqDiff, Nat.reduceLeDiff, ↓reduceIte, reduceCtorEq, ZT, Z0R, hnk (), w0 (), g1, g2]
         · simp (disch := omega) only [ZF, ↓gd, stp, opPick, just, Rd.bind, Rd.run, Rd.opt, upds, rdCells, aLoad, aBin, aInt, Nat.reduceBEq, Nat.reduceEqDiff, Nat.reduceLeDiff, ↓reduceIte, reduceCtorEq, ZT, Z0R, hnk (), w0 (), g1]) (by simp)
     have e0 : eaP x n m l sum t0 0 = [] := rfl
     simp only [esB, e0, z0, ehB, List.append_nil] at hloop
     simp only [ehB]
     generalize L ++ eaR x n (m + 1) l sum most = R at *
     generalize kF (d + m + 3) = C at *
     simp (disch := omega) only [ZF, Z5, stp, justO, just, Rd.bind, Rd.run, Rd.opt, upds, tsz, rdCells, aLoad, resA, resL, Z4, aNum, aLen, Z3, aMin, aBin, aInt, Nat.reduceAdd, Nat.reduceMul, Nat.reduceLT, Nat.reduceBEq, Nat.reduceEqDiff, Nat.reduceLeDiff, ↓reduceIte, reduceCtorEq, ZT, Z0R, hlen, hxlen, hx1, hxn, w1 (), w2 (), w3 (), b1, bn, gk', emin, hloop]
     exact ⟨_, .row, rfl, ⟨rfl, .inl rfl, rfl, rfl, rfl, rfl, rfl, rfl, rfl⟩⟩
end Go.AM.Ytfmnoohhhokicaa
end
noncomputable section
namespace Go.AM.Ytfmnoohhhokicaa
open Go Go.AM Go.AM.Rub
abbrev ehN (X : List AV) (n : Nat) : AHeap := [(0, ⟨.box, [.int .i64 n]⟩), (1, ⟨.box, [vB 2]⟩), (2, ⟨.box, [.nilsl]⟩), (3, ⟨.box, [.ref 4 0 (n + 1) (n + 1) (n + 1) 1 false]⟩), (4, ⟨.row, X⟩), (5, ⟨.box, [puK 0 1 3 5]⟩)]
noncomputable section
variable {d : Nat} {l' xs : List Int} {x : Nat → Int} {n k m : Nat} {sum most : Int} {c : List AV}
theorem ZOG (hC : EaC d l' xs x n k m sum most) : ∃ st, kF d 116 [.ref 120 0 k k k 1 false, .int .i64 sum, .int .i64 most, .ptr 0 0 1, .ptr 1 0 1, .ptr 3 0 1, .ptr 5 0 1]
     [(0, ⟨.box, [.int .i64 n]⟩), (1, ⟨.box, [vB 2]⟩), (2, ⟨.box, [.nilsl]⟩), (3, ⟨.box, [.ref 4 0 (n + 1) (n + 1) (n + 1) 1 false]⟩), (4, ⟨.row, ics xs⟩), (5, ⟨.box, [puK 0 1 3 5]⟩), (119, ⟨.row, c⟩), (120, ⟨.row, ics l'⟩)] 560 =
   some (.tup [], (0, ⟨.box, [.int .i64 n]⟩) :: (1, ⟨.box, [vB 2]⟩) :: (2, ⟨.box, [oV 560 1 (eaR x n m l' sum most).length]⟩) :: (3, ⟨.box, [.ref 4 0 (n + 1) (n + 1) (n + 1) 1 false]⟩) :: (4, ⟨.row, ics xs⟩) :: (5, ⟨.box, [puK 0 1 3 5]⟩) :: (119, ⟨.row, c⟩) :: (120, ⟨st, ics l'⟩) :: oH 560 (lcs (eaR x n m l' sum most))) := by
 obtain ⟨H, id, st, hp, ro⟩ := hC.a
 refine ⟨st, ?_⟩
 rw [Z1k rfl]
 have hks : (mark [(0, ⟨.box, [.int .i64 n]⟩), (1, ⟨.box, [vB 2]⟩), (2, ⟨.box, [.nilsl]⟩), (3, ⟨.box, [.ref 4 0 (n + 1) (n + 1) (n + 1) 1 false]⟩), (4, ⟨.row, ics xs⟩), (5, ⟨.box, [puK 0 1 3 5]⟩), (119, ⟨.row, c⟩), (120, ⟨.row, ics l'⟩)] 1000 (refsL [.ref 120 0 k k k 1 false, .int .i64 sum, .int .i64 most, .ptr 0 0 1, .ptr 1 0 1, .ptr 3 0 1, .ptr 5 0 1]) []).reverse = [120, 0, 1, 2, 3, 4, 5] := rfl
 have hap : AM.apart [120, 0, 1, 2, 3, 4, 5] = true := rfl
 have e1 : renL (posF [120, 0, 1, 2, 3, 4, 5] 0) [.ref 120 0 k k k 1 false, .int .i64 sum, .int .i64 most, .ptr 0 0 1, .ptr 1 0 1, .ptr 3 0 1, .ptr 5 0 1] = some [.ref 0 0 k k k 1 false, .int .i64 sum, .int .i64 most, .ptr 1 0 1, .ptr 2 0 1, .ptr 4 0 1, .ptr 6 0 1] := rfl
 have e2 : foc (posF [120, 0, 1, 2, 3, 4, 5] 0) [(0, ⟨.box, [.int .i64 n]⟩), (1, ⟨.box, [vB 2]⟩), (2, ⟨.box, [.nilsl]⟩), (3, ⟨.box, [.ref 4 0 (n + 1) (n + 1) (n + 1) 1 false]⟩), (4, ⟨.row, ics xs⟩), (5, ⟨.box, [puK 0 1 3 5]⟩), (119, ⟨.row, c⟩), (120, ⟨.row, ics l'⟩)] 0 [120, 0, 1, 2, 3, 4, 5] = some (ehA l' (ics xs) n) := rfl
 have hn := newsEA ro
 obtain ⟨h0, hs, h1, h2, h3, h4, h5, h6, hi, hr⟩ := ro
 have hl7 : ([120, 0, 1, 2, 3, 4, 5] : List Nat).length = 7 := rfl
 have er : List.range 7 = [0, 1, 2, 3, 4, 5, 6] := rfl
 rw [hks]
 unfold focus
 rw [if_pos hap]
 simp only [e1, e2, hp, backF, hl7, hn, er]
 rcases ocvL 560 (eaR x n m l' sum most) with ⟨hn0, o1, o2⟩ | ⟨hp0, o1, o2⟩
 · rw [o1, o2]
   rw [hn0] at h3
   have hv : oV id 1 ([] : List (List Int)).length = .nilsl := rfl
   rw [hv] at h3
   rcases hs with rfl | rfl <;>
   simp only [hn0, if_true, List.length_nil, baseF, freeL, List.append_nil, AM.apart, ren, renL, unf, outF, posF, h0, h1, h2, h3, h4, h5, h6, List.getElem?_cons_zero, List.getElem?_cons_succ, Nat.reduceLT, goodB, BS.open_, Bool.true_or, Bool.false_or, ehA, Zw, decide_true, Bool.and_self, renB, hl7, upds, Zu, Zy, Nat.reduceEqDiff, Nat.reduceLeDiff, if_true, if_false, Nat.reduceAdd, reduceCtorEq]
 · rw [o1, o2]
   rw [ZN hp0] at h3
   have hr := hr hp0
   have hne : ¬ eaR x n m l' sum most = [] := fun e => by rw [e] at hp0; simp at hp0
   have c7 : ¬ id < 7 := by omega
   have hbase : baseF [(0, ⟨.box, [.int .i64 n]⟩), (1, ⟨.box, [vB 2]⟩), (2, ⟨.box, [.nilsl]⟩), (3, ⟨.box, [.ref 4 0 (n + 1) (n + 1) (n + 1) 1 false]⟩), (4, ⟨.row, ics xs⟩), (5, ⟨.box, [puK 0 1 3 5]⟩), (119, ⟨.row, c⟩), (120, ⟨.row, ics l'⟩)] 1 8 560 = some 560 := rfl
   rcases hs with rfl | rfl <;>
   simp only [hne, List.length_cons, List.length_nil, Nat.zero_add, hbase, List.elem_nil, Bool.not_false, List.cons_append, List.nil_append, hr, c7, Nat.add_zero, AM.apart, ren, renL, unf, outF, posF, h0, h1, h2, h3, h4, h5, h6, List.getElem?_cons_zero, List.getElem?_cons_succ, Nat.reduceLT, goodB, BS.open_, Bool.true_or, Bool.false_or, ehA, Zw, decide_true, Bool.and_self, renB, hl7, upds, Zu, Zy, Nat.reduceEqDiff, Nat.reduceLeDiff, if_true, if_false, reduceCtorEq]
theorem ZND (hC : EaC d l' xs x n k m sum most) {L : List (List Int)} (h0 : 0 < L.length) (h8 : L.length + 9 ^ m ≤ 900000) : ∃ st, kF d 116 [.ref 120 0 k k k 1 false, .int .i64 sum, .int .i64 most, .ptr 0 0 1, .ptr 1 0 1, .ptr 3 0 1, .ptr 5 0 1]
     [(0, ⟨.box, [.int .i64 n]⟩), (1, ⟨.box, [vB 2]⟩), (2, ⟨.box, [.ref 560 0 L.length L.length L.length 1 false]⟩), (3, ⟨.box, [.ref 4 0 (n + 1) (n + 1) (n + 1) 1 false]⟩), (4, ⟨.row, ics xs⟩), (5, ⟨.box, [puK 0 1 3 5]⟩), (119, ⟨.row, c⟩), (120, ⟨.row, ics l'⟩), (560, ⟨.row, lcs L⟩)] 560 =
   some (.tup [], [(0, ⟨.box, [.int .i64 n]⟩), (1, ⟨.box, [vB 2]⟩), (2, ⟨.box, [.ref 560 0 (L ++ eaR x n m l' sum most).length (L ++ eaR x n m l' sum most).length (L ++ eaR x n m l' sum most).length 1 false]⟩), (3, ⟨.box, [.ref 4 0 (n + 1) (n + 1) (n + 1) 1 false]⟩), (4, ⟨.row, ics xs⟩), (5, ⟨.box, [puK 0 1 3 5]⟩), (119, ⟨.row, c⟩), (120, ⟨st, ics l'⟩), (560, ⟨.row, lcs (L ++ eaR x n m l' sum most)⟩)]) := by
 obtain ⟨H, st, hp, ro⟩ := hC.b L h0 h8
 refine ⟨st, ?_⟩
 rw [Z1k rfl]
 have hks : (mark [(0, ⟨.box, [.int .i64 n]⟩), (1, ⟨.box, [vB 2]⟩), (2, ⟨.box, [.ref 560 0 L.length L.length L.length 1 false]⟩), (3, ⟨.box, [.ref 4 0 (n + 1) (n + 1) (n + 1) 1 false]⟩), (4, ⟨.row, ics xs⟩), (5, ⟨.box, [puK 0 1 3 5]⟩), (119, ⟨.row, c⟩), (120, ⟨.row, ics l'⟩), (560, ⟨.row, lcs L⟩)] 1000 (refsL [.ref 120 0 k k k 1 false, .int .i64 sum, .int .i64 most, .ptr 0 0 1, .ptr 1 0 1, .ptr 3 0 1, .ptr 5 0 1]) []).reverse = [120, 0, 1, 2, 560, 3, 4, 5] := rfl
 have hap : AM.apart [120, 0, 1, 2, 560, 3, 4, 5] = true := rfl
 have e1 : renL (posF [120, 0, 1, 2, 560, 3, 4, 5] 0) [.ref 120 0 k k k 1 false, .int .i64 sum, .int .i64 most, .ptr 0 0 1, .ptr 1 0 1, .ptr 3 0 1, .ptr 5 0 1] = some [.ref 0 0 k k k 1 false, .int .i64 sum, .int .i64 most, .ptr 1 0 1, .ptr 2 0 1, .ptr 5 0 1, .ptr 7 0 1] := rfl
 have e2 : foc (posF [120, 0, 1, 2, 560, 3, 4, 5] 0) [(0, ⟨.box, [.int .i64 n]⟩), (1, ⟨.box, [vB 2]⟩), (2, ⟨.box, [.ref 560 0 L.length L.length L.length 1 false]⟩), (3, ⟨.box, [.ref 4 0 (n + 1) (n + 1) (n + 1) 1 false]⟩), (4, ⟨.row, ics xs⟩), (5, ⟨.box, [puK 0 1 3 5]⟩), (119, ⟨.row, c⟩), (120, ⟨.row, ics l'⟩), (560, ⟨.row, lcs L⟩)] 0 [120, 0, 1, 2, 560, 3, 4, 5] = some (ehB l' (ics xs) n L) := rfl
 have hn := newsEB ro
 obtain ⟨h0, hs, h1, h2, h3, h4, h5, h6, h7⟩ := ro
 have hl7 : ([120, 0, 1, 2, 560, 3, 4, 5] : List Nat).length = 8 := rfl
 have er : List.range 8 = [0, 1, 2, 3, 4, 5, 6, 7] := rfl
 rw [hks]
 unfold focus
 rw [if_pos hap]
 simp only [e1, e2, hp, backF, hl7, hn, er]
 rcases hs with rfl | rfl <;>
 simp only [List.length_nil, baseF, freeL, List.append_nil, AM.apart, ren, renL, unf, outF, posF, h0, h1, h2, h3, h4, h5, h6, h7, List.getElem?_cons_zero, List.getElem?_cons_succ, Nat.reduceLT, goodB, BS.open_, Bool.true_or, Bool.false_or, ehB, Zw, decide_true, Bool.and_self, renB, hl7, upds, Zu, Zy, Nat.reduceEqDiff, Nat.reduceLeDiff, if_true, if_false, Nat.reduceAdd, reduceCtorEq]
end
abbrev esN (xs : List Int) (n : Nat) (sum left t : Int) (L : List (List Int)) : St :=
 ([(12, .int .i64 t), (11, .int .i64 left), (10, .int .i64 0), (6, .ptr 5 0 1), (3, .ptr 0 0 1), (1, .int .i64 sum), (0, .nilsl)], (0, ⟨.box, [.int .i64 n]⟩) :: (1, ⟨.box, [vB 2]⟩) :: (2, ⟨.box, [oV 560 1 L.length]⟩) :: (3, ⟨.box, [.ref 4 0 (n + 1) (n + 1) (n + 1) 1 false]⟩) :: (4, ⟨.row, ics xs⟩) :: (5, ⟨.box, [puK 0 1 3 5]⟩) :: oH 560 (lcs L))
theorem Z0dQ {d : Nat} {xs : List Int} {x : Nat → Int} {n m : Nat} {sum left t : Int} (hk : m + 1 = n) (h9 : n ≤ 8) (ht : -1000 ≤ t ∧ t ≤ 1000) (hs : -1000 ≤ sum ∧ sum ≤ 1000) (g : t * ((m + 1 : Nat) : Int) ≥ left ∧ t ≥ 0) (hC : EaC d [t] xs x n 1 m (sum + t) t) (L : List (List Int)) (h8 : L.length + 9 ^ m ≤ 900000) :
   ∃ s', execA E (kF d) (fg 116) 64 62 (ehN (ics xs) n) 1000000 Z1u (esN xs n sum left t L) = some (.normal, s') ∧ headA (ehN (ics xs) n) s' = esN xs n sum left (t - 1) (L ++ eaR x n m [t] (sum + t) t) := by
 have e1 : ics [t] = [.int .i64 t] := rfl
 obtain ⟨g1, g2⟩ := g
 have hnk : wrp .i64 ((n : Int) - 0) = ((m + 1 : Nat) : Int) := by rw [Zs (by omega)]; omega
 have hb := mulb (m := m + 1) ht (by omega)
 obtain ⟨P, hP⟩ : ∃ P, t * ((m + 1 : Nat) : Int) = P := ⟨_, rfl⟩
 rw [hP] at g1 hb
 have w0 : wrp .i64 (t * ((m + 1 : Nat) : Int)) = P := by rw [hP]; exact Zs (by omega)
 clear hP
 have w1 : wrp .i64 (sum + t) = sum + t := Zs (by omega)
 have w2 : wrp .i64 (t - 1) = t - 1 := Zs (by omega)
 generalize ((m + 1 : Nat) : Int) = M at *
 rcases ocvL 560 L with ⟨hn0, o1, o2⟩ | ⟨hp0, o1, o2⟩
 · obtain ⟨st, hc⟩ := ZOG (c := [.int .i64 t]) hC
   subst hn0
   rw [List.nil_append]
   simp only [esN, ehN]
   rw [o1, o2]
   rw [e1] at hc
   generalize eaR x n m [t] (sum + t) t = new at *
   generalize kF d = C at *
   rcases ocvL 560 new with ⟨hn1, p1, p2⟩ | ⟨hp1, p1, p2⟩ <;> rw [p1, p2] at hc ⊢ <;>
     simp (disch := omega) only [ZF, ↓gd, stp, opPick, just, Rd.bind, Rd.run, Rd.opt, upds, acells, zeroCells, tsz, elemT, rdCells, aLoad, fresh, aNum, Z3, aBin, aInt, putC, evO, Nat.reduceAdd, Nat.reduceMul, Nat.reduceLT, Nat.reduceBEq, Nat.reduceEqDiff, Nat.reduceLeDiff, ↓reduceIte, reduceCtorEq, stpT, Rd.foot, writing, Zb, Tr.empty, Zc, apartT, disj, Z9, Zk, partsOf, fillA, repC, Zm, aAppend, srcOf, window, mutX, snaps, aSlice, aBounds, bMax, bHigh, bLow, Int.reduceLE, Int.reduceToNat, ZT, Z0R, callVT, Z3Z, g1, g2, hnk, w0, w1, w2, hc, Z0M (show 1 ≤ 1000000 by omega)] <;> exact ⟨_, rfl, rfl⟩
 · obtain ⟨st, hc⟩ := ZND (c := [.int .i64 t]) hC hp0 h8
   simp only [esN, ehN]
   rw [o1, o2, ZN (show 0 < (L ++ eaR x n m [t] (sum + t) t).length by rw [List.length_append]; omega), Z0W (show 0 < (L ++ eaR x n m [t] (sum + t) t).length by rw [List.length_append]; omega)]
   rw [e1] at hc
   generalize L ++ eaR x n m [t] (sum + t) t = new at *
   generalize lcs new = LN at *
   generalize new.length = nn at *
   generalize lcs L = LL at *
   generalize L.length = ll at *
   generalize kF d = C at *
   simp (disch := omega) only [ZF, ↓gd, stp, opPick, just, Rd.bind, Rd.run, Rd.opt, upds, acells, zeroCells, tsz, elemT, rdCells, aLoad, fresh, aNum, Z3, aBin, aInt, putC, evO, Nat.reduceAdd, Nat.reduceMul, Nat.reduceLT, Nat.reduceBEq, Nat.reduceEqDiff, Nat.reduceLeDiff, ↓reduceIte, reduceCtorEq, stpT, Rd.foot, writing, Zb, Tr.empty, Zc, apartT, disj, Z9, Zk, partsOf, fillA, repC, Zm, aAppend, srcOf, window, mutX, snaps, aSlice, aBounds, bMax, bHigh, bLow, Int.reduceLE, Int.reduceToNat, ZT, Z0R, callVT, Z3Z, g1, g2, hnk, w0, w1, w2, hc, Z0M (show 1 ≤ 1000000 by omega)]
   exact ⟨_, rfl, rfl⟩
structure EaN (xs : List Int) (n : Nat) (new : List (List Int)) (H : AHeap) : Prop where
 h0 : hget H 0 = some ⟨.box, [.int .i64 n]⟩
 h1 : hget H 1 = some ⟨.box, [vB 2]⟩
 h2 : hget H 2 = some ⟨.box, [oV 560 1 new.length]⟩
 h3 : hget H 3 = some ⟨.box, [.ref 4 0 (n + 1) (n + 1) (n + 1) 1 false]⟩
 h4 : hget H 4 = some ⟨.row, ics xs⟩
 h5 : hget H 5 = some ⟨.box, [puK 0 1 3 5]⟩
 hr : 0 < new.length → hget H 560 = some ⟨.row, lcs new⟩
theorem Z00V {d n : Nat} {xs : List Int} {x : Nat → Int} (hn0 : 0 < n) (h6 : n ≤ 6) (hxl : xs.length = n + 1) (hxx : ∀ j, j ≤ n → (ics xs)[j]? = some (.int .i64 (x j))) (hxb : ∀ j, j ≤ n → 0 ≤ x j ∧ x j ≤ 500) {sum : Int} (hs : sum = 0) :
   ∃ H, pF (d + n + 3) 116 [.nilsl, .int .i64 sum, .int .i64 8, .ptr 0 0 1, .ptr 1 0 1, .ptr 3 0 1, .ptr 5 0 1] (ehN (ics xs) n) 64 = some (.tup [], H) ∧ EaN xs n (eaR x n n [] sum 8) H := by
 obtain ⟨m, rfl⟩ : ∃ m, n = m + 1 := ⟨n - 1, by omega⟩
 have hb1 := hxb 1 (by omega)
 have hbn := hxb (m + 1) (Nat.le_refl _)
 obtain ⟨t0, ht0⟩ : ∃ t0 : Int, min 8 (x 1 - sum) = t0 := ⟨_, rfl⟩
 have ht8 : t0 ≤ 8 := by omega
 have ht1 : t0 < ((100 : Nat) : Int) := by omega
 have hc9 := ZdY (x (m + 1) - sum) (m + 1) 100 t0 ht8
 obtain ⟨hin, hout⟩ := Z4d (x (m + 1) - sum) (m + 1) 100 t0 ht1
 clear ht1
 obtain ⟨c, hcc⟩ : ∃ c : Nat, cntE (x (m + 1) - sum) (m + 1) 100 t0 = c := ⟨_, rfl⟩
 rw [hcc] at hin hout hc9
 have hall : eaP x (m + 1) m [] sum t0 c = eaR x (m + 1) (m + 1) [] sum 8 := by rw [Z5x, List.length_nil, Nat.zero_add, ht0, hcc]
 clear hcc
 have hrec : ∀ j : Nat, j < c → EaC (d + m + 3) [t0 - j] xs x (m + 1) 1 m (sum + (t0 - j)) (t0 - j) := fun j hj => by
   have := (hin j hj).2
   exact ZN5 hn0 h6 hxl hxx hxb m [t0 - j] 1 (sum + (t0 - j)) (t0 - j) rfl (by omega) (by omega) (by omega)
 have hxlen : (ics xs).length = m + 1 + 1 := by rw [Za, hxl]
 have hx1 : (ics xs)[1]? = some (.int .i64 (x 1)) := hxx 1 (by omega)
 have hxn : (ics xs)[m + 1]? = some (.int .i64 (x (m + 1))) := hxx (m + 1) (Nat.le_refl _)
 have gk : ¬ (0 : Int) = ((m + 1 : Nat) : Int) := by omega
 have gk' : ((0 : Int) == ((m + 1 : Nat) : Int)) = false := by rw [beq_eq_false_iff_ne]; exact gk
 have b1 : (0 : Int) ≤ 1 ∧ (1 : Int) < ((m + 1 + 1 : Nat) : Int) := by omega
 have bn : (0 : Int) ≤ ((m + 1 : Nat) : Int) ∧ ((m + 1 : Nat) : Int) < ((m + 1 + 1 : Nat) : Int) := by omega
 have w1 : ∀ _ : Unit, wrp .i64 (x (m + 1) - sum) = x (m + 1) - sum := fun _ => Zs (by omega)
 have w2 : ∀ _ : Unit, wrp .i64 (x 1 - sum) = x 1 - sum := fun _ => Zs (by omega)
 have w3 : wrp .i64 (0 + 1) = 1 := rfl
 have emin : (if x 1 - sum < 8 then x 1 - sum else 8) = t0 := by rw [← ht0]; split <;> omega
 have e2 : ∀ j : Nat, t0 - ((j + 1 : Nat) : Int) = t0 - j - 1 := fun j => by omega
 have z0 : t0 - ((0 : Nat) : Int) = t0 := by omega
 have hnk : ∀ _ : Unit, wrp .i64 (((m + 1 : Nat) : Int) - 0) = ((m + 1 : Nat) : Int) := fun _ => by rw [Zs (by omega)]; omega
 have hmb := mulb (t := t0 - c) (m := m + 1) (by omega) (by omega)
 obtain ⟨P, hP⟩ : ∃ P, (t0 - c) * ((m + 1 : Nat) : Int) = P := ⟨_, rfl⟩
 rw [hP] at hout hmb
 have w0 : ∀ _ : Unit, wrp .i64 ((t0 - c) * ((m + 1 : Nat) : Int)) = P := fun _ => by rw [hP]; exact Zs (by omega)
 clear hP
 have h9c : ∀ _ : Unit, 9 ^ (m + 1) ≤ 531441 := fun _ => by have := Nat.pow_le_pow_right (n := 9) (by omega) (show m + 1 ≤ 6 by omega); omega
 have h9s : 9 ^ (m + 1) = 9 * 9 ^ m := by rw [Nat.pow_succ, Nat.mul_comm]
 have hfl : ∀ j, j < c → (eaP x (m + 1) m [] sum t0 j).length ≤ 8 * 9 ^ m := fun j hj => Nat.le_trans (Zex x (m + 1) m [] sum t0 ht8 j) (Nat.mul_le_mul_right _ (by omega))
 have hA8 : ∀ j, j < c → (eaP x (m + 1) m [] sum t0 j).length + 9 ^ m ≤ 900000 := fun j hj => nineA (hfl j hj) (by rw [← h9s]; exact h9c ())
 clear h9s
 rw [show d + (m + 1) + 3 = (d + m + 3) + 1 by omega, pF_s]
 have hloop := loopM (f := execA E (kF (d + m + 3)) (fg 116) 64 62 (ehN (ics xs) (m + 1)) 1000000 Z1u) (E0 := ehN (ics xs) (m + 1)) (fun j => esN xs (m + 1) sum (x (m + 1) - sum) (t0 - j) (eaP x (m + 1) m [] sum t0 j)) c (fun j hj => by
     simp only [Z46, e2]
     exact Z0dQ rfl (by omega) (by omega) (by omega) (hin j hj) (hrec j hj) (eaP x (m + 1) m [] sum t0 j) (hA8 j hj)) (by
     have e0 : eaP x (m + 1) m [] sum t0 0 = [] := rfl
     simp only [esN, e0]; rfl) (by omega)
   (e := .exit 0) (se := ([(46, .bool false), (12, .int .i64 (t0 - c)), (11, .int .i64 (x (m + 1) - sum)), (10, .int .i64 0), (6, .ptr 5 0 1), (3, .ptr 0 0 1), (1, .int .i64 sum), (0, .nilsl)], (0, ⟨.box, [.int .i64 ((m + 1 : Nat) : Int)]⟩) :: (1, ⟨.box, [vB 2]⟩) :: (2, ⟨.box, [oV 560 1 (eaR x (m + 1) (m + 1) [] sum 8).length]⟩) :: (3, ⟨.box, [.ref 4 0 (m + 1 + 1) (m + 1 + 1) (m + 1 + 1) 1 false]⟩) :: (4, ⟨.row, ics xs⟩) :: (5, ⟨.box, [puK 0 1 3 5]⟩) :: oH 560 (lcs (eaR x (m + 1) (m + 1) [] sum 8))))
   (by
     simp only [esN, hall, ehN]
     generalize x (m + 1) - sum = lf at *
     by_cases g1 : P ≥ lf
     · have g2 : ¬ t0 - c ≥ 0 := fun h => hout ⟨g1, h⟩
       rcases ocvL 560 (eaR x (m + 1) (m + 1) [] sum 8) with ⟨_, o1, o2⟩ | ⟨_, o1, o2⟩ <;> rw [o1, o2] <;>
         simp (disch := omega) only [ZF, ↓gd, stp, opPick, just, Rd.bind, Rd.run, Rd.opt, upds, rdCells, aLoad, aBin, aInt, Nat.reduceBEq, Nat.reduceEqDiff, Nat.reduceLeDiff, ↓reduceIte, ZT, Z0R, hnk (), w0 (), g1, g2]
     · rcases ocvL 560 (eaR x (m + 1) (m + 1) [] sum 8) with ⟨_, o1, o2⟩ | ⟨_, o1, o2⟩ <;> rw [o1, o2] <;>
         simp (disch := omega) only [ZF, ↓gd, stp, opPick, just, Rd.bind, Rd.run, Rd.opt, upds, rdCells, aLoad, aBin, aInt, Nat.reduceBEq, Nat.reduceEqDiff, Nat.reduceLeDiff, ↓reduceIte, ZT, Z0R, hnk (), w0 (), g1]) (by simp)
 have e0 : eaP x (m + 1) m [] sum t0 0 = [] := rfl
 have v0 : oV 560 1 ([] : List (List Int)).length = .nilsl := rfl
 have o0 : oH 560 (lcs []) = [] := rfl
 simp only [esN, e0, v0, o0, z0, ehN] at hloop
 simp only [ehN]
 generalize eaR x (m + 1) (m + 1) [] sum 8 = R at *
 generalize kF (d + m + 3) = C at *
 rcases ocvL 560 R with ⟨hn1, o1, o2⟩ | ⟨hp1, o1, o2⟩ <;> rw [o1, o2] at hloop
 · simp (disch := omega) only [ZF, Z5, stp, justO, just, Rd.bind, Rd.run, Rd.opt, upds, tsz, rdCells, aLoad, resA, resL, Z4, aNum, aLen, Z3, aMin, aBin, aInt, Nat.reduceAdd, Nat.reduceMul, Nat.reduceLT, Nat.reduceBEq, Nat.reduceEqDiff, Nat.reduceLeDiff, ↓reduceIte, reduceCtorEq, Int.reduceToNat, ZT, Z0R, hxlen, hx1, hxn, w1 (), w2 (), w3, b1, bn, gk', emin, hloop]
   refine ⟨_, rfl, ?_⟩
   exact ⟨rfl, rfl, by rw [o1]; rfl, rfl, rfl, rfl, fun h => by rw [hn1] at h; simp at h⟩
 · simp (disch := omega) only [ZF, Z5, stp, justO, just, Rd.bind, Rd.run, Rd.opt, upds, tsz, rdCells, aLoad, resA, resL, Z4, aNum, aLen, Z3, aMin, aBin, aInt, Nat.reduceAdd, Nat.reduceMul, Nat.reduceLT, Nat.reduceBEq, Nat.reduceEqDiff, Nat.reduceLeDiff, ↓reduceIte, reduceCtorEq, Int.reduceToNat, ZT, Z0R, hxlen, hx1, hxn, w1 (), w2 (), w3, b1, bn, gk', emin, hloop]
   refine ⟨_, rfl, ?_⟩
   exact ⟨rfl, rfl, by rw [o1]; rfl, rfl, rfl, rfl, fun h => rfl⟩
end Go.AM.Ytfmnoohhhokicaa
end
noncomputable section
namespace Go.AM.Rub
theorem Zbu : ∀ (m : Nat) (s t : Int), s > t * (m : Int) → rowsL m s t = []
 | 0, s, t, h => by
   simp only [rowsL]
   rw [if_neg (by intro e; simp [e] at h)]
 | m + 1, s, t, h => by
   simp only [rowsL]
   rw [List.flatMap_eq_nil_iff]
   intro u hu
   have hu := (Z95 _ _).1 hu
   rw [Zbu m (s - u) u]
   · rfl
   · have h1 : u * ((m : Int) + 1) ≤ t * ((m : Int) + 1) := Int.mul_le_mul_of_nonneg_right (by omega) (by omega)
     have h2 : ((m + 1 : Nat) : Int) = (m : Int) + 1 := by omega
     rw [h2] at h
     rw [Int.mul_add, Int.mul_one] at h1
     omega
def okE (x : Nat → Int) : Nat → Int → List Int → Bool
 | _, _, [] => true
 | k, s, t :: r => decide (s + t ≤ x (k + 1)) && okE x (k + 1) (s + t) r
theorem ZLf {x : Nat → Int} : ∀ (r : List Int) (k : Nat) (s : Int), okE x k s r = true ↔ ∀ j, j < r.length → s + ps (rowF r) (j + 1) ≤ x (k + j + 1)
 | [], k, s => by simp [okE]
 | t :: r, k, s => by
   simp only [okE, Bool.and_eq_true, decide_eq_true_eq, ZLf r (k + 1) (s + t)]
   constructor
   · rintro ⟨h1, h2⟩ j hj
     cases j with
     | zero => simpa [ps, rowF] using h1
     | succ j =>
       have := h2 j (by simpa using hj)
       rw [Z7N]
       rw [show k + (j + 1) + 1 = k + 1 + j + 1 by omega]
       omega
   · intro h
     refine ⟨by simpa [ps, rowF] using h 0 (by simp), fun j hj => ?_⟩
     have := h (j + 1) (by simpa using hj)
     rw [Z7N] at this
     rw [show k + (j + 1) + 1 = k + 1 + j + 1 by omega] at this
     omega
theorem ZHx : ∀ (n k : Nat), k ≤ n + 1 → dnN n = ((List.range (n + 1 - k)).map fun (i : Nat) => (n : Int) - i) ++ (if k = 0 then [] else dnN (k - 1)) := by
 intro n k hk
 cases k with
 | zero => simp [Z3l]
 | succ k =>
   rw [if_neg (by omega), Z3l, Z3l, show n + 1 = (n - k) + (k + 1) by omega, List.range_add, List.map_append, List.map_map]
   rw [show n - k + (k + 1) - (k + 1) = n - k by omega]
   congr 1
   rw [show k + 1 - 1 + 1 = k + 1 by omega]
   apply List.map_congr_left
   intro a ha
   simp only [Function.comp_apply]
   omega
theorem ZrP {k c : Int} (h : c ≤ k) (h0 : -1 ≤ c) : dn k = ((List.range (k - c).toNat).map fun (i : Nat) => k - i) ++ dn c := by
 unfold dn
 by_cases hk : k < 0
 · rw [if_pos hk, if_pos (by omega), show (k - c).toNat = 0 by omega]; rfl
 · rw [if_neg hk, ZHx k.toNat (c + 1).toNat (by omega), show k.toNat + 1 - (c + 1).toNat = (k - c).toNat by omega]
   congr 1
   · apply List.map_congr_left
     intro a _
     omega
   · by_cases hc : c < 0
     · rw [if_pos (by omega), if_pos hc]
     · rw [if_neg (by omega), if_neg hc]; congr 1; omega
theorem Z5w {α β : Type} {f : α → List β} {l : List α} (h : ∀ a ∈ l, f a = []) : l.flatMap f = [] := List.flatMap_eq_nil_iff.2 h
theorem Zb6 {α β : Type} {f g : α → List β} : ∀ {l : List α}, (∀ a ∈ l, f a = g a) → l.flatMap f = l.flatMap g
 | [], _ => rfl
 | a :: l, h => by rw [List.flatMap_cons, List.flatMap_cons, h a (by simp), Zb6 fun b hb => h b (by simp [hb])]
theorem Z8t {α β : Type} {f : α → List β} {p : β → Bool} : ∀ {l : List α}, (l.flatMap f).filter p = l.flatMap fun a => (f a).filter p
 | [] => rfl
 | a :: l => by rw [List.flatMap_cons, List.flatMap_cons, List.filter_append, Z8t]
theorem ZJI {x : Nat → Int} {n : Nat} (hx : ∀ j, j ≤ n → x j ≤ x n) : ∀ (m : Nat) (l : List Int) (sum most : Int), l.length + m = n → most ≤ 8 → (m = 0 → sum = x n) →
   eaR x n m l sum most = ((rowsL m (x n - sum) most).filter (okE x l.length sum)).map (l ++ ·)
 | 0, l, sum, most, _, _, h => by
   have := h rfl
   simp [eaR, rowsL, this, okE, List.filter_cons]
 | m + 1, l, sum, most, hl, hm, _ => by
   obtain ⟨t0, ht0⟩ : ∃ t0 : Int, min most (x (l.length + 1) - sum) = t0 := ⟨_, rfl⟩
   obtain ⟨c, hc⟩ : ∃ c : Nat, cntE (x n - sum) (m + 1) 100 t0 = c := ⟨_, rfl⟩
   obtain ⟨hin, hout⟩ := Z4d (x n - sum) (m + 1) 100 t0 (by omega)
   have hxk := hx (l.length + 1) (by omega)
   rw [hc] at hin hout
   rw [Z5x, ht0, hc, eaP]
   have hc0 : c = 0 ∨ t0 - c ≥ -1 := by
     rcases Nat.eq_zero_or_pos c with h | h
     · exact .inl h
     · right
       have := (hin (c - 1) (by omega)).2
       omega
   have hle : t0 ≤ min most (x n - sum) := by omega
   have hbad : ∀ t : Int, t ≤ t0 - c → 0 ≤ t → rowsL m (x n - sum - t) t = [] := by
     intro t h1 h2
     apply Zbu
     have h3 : ¬ (t0 - c) * ((m + 1 : Nat) : Int) ≥ x n - sum := fun h => hout ⟨h, by omega⟩
     have h4 : t * ((m : Int) + 1) ≤ (t0 - c) * ((m : Int) + 1) := Int.mul_le_mul_of_nonneg_right h1 (by omega)
     have h5 : ((m + 1 : Nat) : Int) = (m : Int) + 1 := by omega
     rw [h5] at h3
     rw [Int.mul_add t, Int.mul_one] at h4
     omega
   simp only [rowsL]
   rw [Z8t, List.map_flatMap]
   have hgo : ∀ t : Int, t ≤ t0 → (((rowsL m (x n - sum - t) t).map (t :: ·)).filter (okE x l.length sum)).map (l ++ ·) = ((rowsL m (x n - (sum + t)) t).filter (okE x (l ++ [t]).length (sum + t))).map ((l ++ [t]) ++ ·) := by
     intro t ht
     rw [show x n - (sum + t) = x n - sum - t by omega]
     rw [List.filter_map, List.map_map]
     have e1 : (okE x l.length sum) ∘ (t :: ·) = okE x (l ++ [t]).length (sum + t) := by
       funext r
       simp only [Function.comp_apply, okE, List.length_append, List.length_singleton]
       rw [decide_eq_true (by omega)]
       simp
     rw [e1]
     apply List.map_congr_left
     intro r _
     simp
   by_cases hneg : min most (x n - sum) < 0
   · have : dn (min most (x n - sum)) = [] := by unfold dn; rw [if_pos hneg]
     rw [this, List.flatMap_nil]
     apply Z5w
     intro i hi
     have := (hin i (List.mem_range.1 hi)).2
     omega
   · have hsp : dn (min most (x n - sum)) = ((List.range (min most (x n - sum) - max t0 (-1)).toNat).map fun (i : Nat) => min most (x n - sum) - i) ++ dn (max t0 (-1)) := ZrP (by omega) (by omega)
     rw [hsp, List.flatMap_append]
     have z1 : (((List.range (min most (x n - sum) - max t0 (-1)).toNat).map fun (i : Nat) => min most (x n - sum) - i).flatMap fun t => (((rowsL m (x n - sum - t) t).map (t :: ·)).filter (okE x l.length sum)).map (l ++ ·)) = [] := by
       apply Z5w
       intro t ht
       obtain ⟨i, hi, rfl⟩ := List.mem_map.1 ht
       have hi := List.mem_range.1 hi
       rw [List.map_eq_nil_iff, List.filter_eq_nil_iff]
       intro r hr
       obtain ⟨r', hr', rfl⟩ := List.mem_map.1 hr
       simp only [okE]
       rw [decide_eq_false (by omega)]
       simp
     rw [z1, List.nil_append]
     by_cases ht : t0 < 0
     · have : dn (max t0 (-1)) = [] := by unfold dn; rw [if_pos (by omega)]
       rw [this, List.flatMap_nil]
       apply Z5w
       intro i hi
       have := (hin i (List.mem_range.1 hi)).2
       omega
     · rw [show max t0 (-1) = t0 by omega]
       have hsp2 : dn t0 = ((List.range c).map fun (i : Nat) => t0 - i) ++ dn (t0 - c) := by
         have := ZrP (k := t0) (c := t0 - c) (by omega) (by omega)
         rw [show (t0 - (t0 - c)).toNat = c by omega] at this
         exact this
       rw [hsp2, List.flatMap_append, List.flatMap_map]
       have z2 : ((dn (t0 - c)).flatMap fun t => (((rowsL m (x n - sum - t) t).map (t :: ·)).filter (okE x l.length sum)).map (l ++ ·)) = [] := by
         apply Z5w
         intro t ht
         have := (Z95 _ _).1 ht
         rw [hbad t (by omega) this.1]
         rfl
       rw [z2, List.append_nil]
       apply Zb6
       intro i hi
       have hi2 := hin i (List.mem_range.1 hi)
       rw [hgo (t0 - i) (by omega)]
       refine ZJI hx m (l ++ [t0 - i]) (sum + (t0 - i)) (t0 - i) (by simp; omega) (by omega) fun hm0 => ?_
       subst hm0
       have e : l.length + 1 = n := by omega
       rw [e] at ht0
       have h1 := hi2.1
       rw [show ((0 + 1 : Nat) : Int) = 1 from rfl, Int.mul_one] at h1
       omega
end Go.AM.Rub
end
noncomputable section
namespace Go.AM.Ytfmnoohhhokicaa
open Go Go.AM Go.AM.Rub
theorem newsEN {xs : List Int} {n : Nat} {new : List (List Int)} {H : AHeap} (h : EaN xs n new H) : newsF H (.tup []) 6 = if new = [] then [] else [560] := by
 obtain ⟨h0, h1, h2, h3, h4, h5, hr⟩ := h
 have e : refsOf (.tup []) ++ List.range 6 = [0, 1, 2, 3, 4, 5] := rfl
 unfold newsF
 rw [e]
 cases hn : new with
 | nil =>
   subst hn
   rw [if_pos rfl]
   have hv : oV 560 1 ([] : List (List Int)).length = .nilsl := rfl
   rw [hv] at h2
   simp [mark, h0, h1, h2, h3, h4, h5, refsL, refsOf]
 | cons x xs =>
   rw [← hn]
   have hp : 0 < new.length := by rw [hn]; simp
   rw [if_neg (by rw [hn]; simp)]
   rw [ZN hp] at h2
   have hr := hr hp
   simp [mark, h0, h1, h2, h3, h4, h5, hr, refsL, refsOf]
theorem Z0hX {d n : Nat} {xs : List Int} {x : Nat → Int} (hn0 : 0 < n) (h6 : n ≤ 6) (hxl : xs.length = n + 1) (hxx : ∀ j, j ≤ n → (ics xs)[j]? = some (.int .i64 (x j))) (hxb : ∀ j, j ≤ n → 0 ≤ x j ∧ x j ≤ 500) :
   kF (d + n + 3) 116 [.nilsl, .int .i64 0, .int .i64 8, .ptr 125 0 1, .ptr 123 0 1, .ptr 124 0 1, .ptr 126 0 1] [(5, ⟨.box, [.nilsl]⟩), (123, ⟨.box, [vB 5]⟩), (124, ⟨.box, [.ref 128 0 (n + 1) (n + 1) (n + 1) 1 false]⟩), (125, ⟨.box, [.int .i64 n]⟩), (126, ⟨.box, [puK 125 123 124 126]⟩), (128, ⟨.row, ics xs⟩)] 232 =
   some (.tup [], (5, ⟨.box, [oV 232 1 (eaR x n n [] 0 8).length]⟩) :: (123, ⟨.box, [vB 5]⟩) :: (124, ⟨.box, [.ref 128 0 (n + 1) (n + 1) (n + 1) 1 false]⟩) :: (125, ⟨.box, [.int .i64 n]⟩) :: (126, ⟨.box, [puK 125 123 124 126]⟩) :: (128, ⟨.row, ics xs⟩) :: oH 232 (lcs (eaR x n n [] 0 8))) := by
 obtain ⟨H, hp, ro⟩ := Z00V (d := d) hn0 h6 hxl hxx hxb (sum := 0) rfl
 rw [Z1k rfl]
 have hks : (mark [(5, ⟨.box, [.nilsl]⟩), (123, ⟨.box, [vB 5]⟩), (124, ⟨.box, [.ref 128 0 (n + 1) (n + 1) (n + 1) 1 false]⟩), (125, ⟨.box, [.int .i64 n]⟩), (126, ⟨.box, [puK 125 123 124 126]⟩), (128, ⟨.row, ics xs⟩)] 1000 (refsL [.nilsl, .int .i64 0, .int .i64 8, .ptr 125 0 1, .ptr 123 0 1, .ptr 124 0 1, .ptr 126 0 1]) []).reverse = [125, 123, 5, 124, 128, 126] := rfl
 have hap : AM.apart [125, 123, 5, 124, 128, 126] = true := rfl
 have e1 : renL (posF [125, 123, 5, 124, 128, 126] 0) [.nilsl, .int .i64 0, .int .i64 8, .ptr 125 0 1, .ptr 123 0 1, .ptr 124 0 1, .ptr 126 0 1] = some [.nilsl, .int .i64 0, .int .i64 8, .ptr 0 0 1, .ptr 1 0 1, .ptr 3 0 1, .ptr 5 0 1] := rfl
 have e2 : foc (posF [125, 123, 5, 124, 128, 126] 0) [(5, ⟨.box, [.nilsl]⟩), (123, ⟨.box, [vB 5]⟩), (124, ⟨.box, [.ref 128 0 (n + 1) (n + 1) (n + 1) 1 false]⟩), (125, ⟨.box, [.int .i64 n]⟩), (126, ⟨.box, [puK 125 123 124 126]⟩), (128, ⟨.row, ics xs⟩)] 0 [125, 123, 5, 124, 128, 126] = some (ehN (ics xs) n) := rfl
 have hn := newsEN ro
 obtain ⟨h0, h1, h2, h3, h4, h5, hr⟩ := ro
 have hl6 : ([125, 123, 5, 124, 128, 126] : List Nat).length = 6 := rfl
 have er : List.range 6 = [0, 1, 2, 3, 4, 5] := rfl
 rw [hks]
 unfold focus
 rw [if_pos hap]
 simp only [e1, e2, hp, backF, hl6, hn, er]
 generalize eaR x n n [] 0 8 = R at *
 rcases ocvL 232 R with ⟨hn0, o1, o2⟩ | ⟨hp0, o1, o2⟩
 · rw [o1, o2]
   rw [hn0] at h2
   have hv : oV 560 1 ([] : List (List Int)).length = .nilsl := rfl
   rw [hv] at h2
   simp only [hn0, if_true, List.length_nil, baseF, freeL, AM.apart, List.append_nil, ren, renL, unf, outF, posF, h0, h1, h2, h3, h4, h5, List.getElem?_cons_zero, List.getElem?_cons_succ, Nat.reduceLT, if_true, goodB, BS.open_, Bool.true_or, renB, hl6, upds, Zu, Zy, Nat.reduceEqDiff, Nat.reduceLeDiff, if_false, Nat.reduceAdd]
 · rw [o1, o2]
   rw [ZN hp0] at h2
   have hr := hr hp0
   have hne : ¬ R = [] := fun e => by rw [e] at hp0; simp at hp0
   have hbase : baseF [(5, ⟨.box, [.nilsl]⟩), (123, ⟨.box, [vB 5]⟩), (124, ⟨.box, [.ref 128 0 (n + 1) (n + 1) (n + 1) 1 false]⟩), (125, ⟨.box, [.int .i64 n]⟩), (126, ⟨.box, [puK 125 123 124 126]⟩), (128, ⟨.row, ics xs⟩)] 1 8 232 = some 232 := rfl
   simp only [hne, if_false, List.length_cons, List.length_nil, Nat.zero_add, hbase, AM.apart, List.elem_nil, Bool.not_false, Bool.and_self, if_true, List.cons_append, List.nil_append, ren, renL, unf, outF, posF, h0, h1, h2, h3, h4, h5, hr, List.getElem?_cons_zero, List.getElem?_cons_succ, Nat.reduceLT, goodB, BS.open_, Bool.true_or, renB, hl6, upds, Zu, Zy, Nat.reduceEqDiff, Nat.reduceLeDiff, Nat.add_zero, reduceCtorEq]
def beL (row : List Int) : List (List Int) := eaR (ps (rowF row)) row.length row.length [] 0 8
theorem ZTS {d n : Nat} {row : List Int} {a : AV} (ha : IV row a) (h : Rw n row) (h0 : 0 < n) (h6 : n ≤ 6) : ∃ H, bodyA E (kF (d + n + 3)) fg 1000000 92 [a, vB 5] [(5, ⟨.box, [.nilsl]⟩)] 120 = some (.tup [], H) ∧ hget H 5 = some ⟨.box, [oV 232 1 (beL row).length]⟩ ∧ (0 < (beL row).length → hget H 232 = some ⟨.row, lcs (beL row)⟩) := by
 have hl := h.len
 obtain ⟨ex, rfl⟩ := Z5n ha (by omega)
 have hb := ps_b h
 have hri := fun (site : Nat → Nat) seen => Z5y (d := d + n + 2) (site := site) (seen := seen) (Z2v row ex) h (by omega)
 have hc := Z0hX (d := d) (n := n) (xs := riL row) (x := ps (rowF row)) h0 h6 (by unfold riL; rw [Z1c, hl]) (fun j hj => Z1Y (Z3T (by omega))) (fun j hj => by have := hb j hj; omega)
 have e : eaR (ps (rowF row)) n n [] 0 8 = beL row := by unfold beL; rw [hl]
 rw [e] at hc
 rw [hl] at hri
 have hlen := Za row
 simp only [hl] at hri ⊢
 generalize beL row = R at *
 generalize kF (d + n + 3) = C at *
 rcases ocvL 232 R with ⟨hn1, o1, o2⟩ | ⟨hp1, o1, o2⟩ <;> rw [o1, o2] at hc
 · simp (disch := omega) only [ZF, Z5, stp, opBox, just, Rd.bind, Rd.run, Rd.opt, upds, acells, zeroCells, tsz, rdCells, aLoad, aStore, opStore, resA, resL, fresh, aLen, Z3, putC, Nat.reduceAdd, Nat.reduceMul, Nat.reduceBEq, Nat.reduceEqDiff, Nat.reduceLeDiff, ↓reduceIte, reduceCtorEq, mutX, aCall, snaps, ZT, F_92, callV, Z3Z, hri, hc]
   refine ⟨_, rfl, ?_⟩
   exact ⟨by rw [o1]; rfl, fun h => by rw [hn1] at h; simp at h⟩
 · simp (disch := omega) only [ZF, Z5, stp, opBox, just, Rd.bind, Rd.run, Rd.opt, upds, acells, zeroCells, tsz, rdCells, aLoad, aStore, opStore, resA, resL, fresh, aLen, Z3, putC, Nat.reduceAdd, Nat.reduceMul, Nat.reduceBEq, Nat.reduceEqDiff, Nat.reduceLeDiff, ↓reduceIte, reduceCtorEq, mutX, aCall, snaps, ZT, F_92, callV, Z3Z, hri, hc]
   refine ⟨_, rfl, ?_⟩
   exact ⟨by rw [o1]; rfl, fun h => rfl⟩
end Go.AM.Ytfmnoohhhokicaa
end
end
