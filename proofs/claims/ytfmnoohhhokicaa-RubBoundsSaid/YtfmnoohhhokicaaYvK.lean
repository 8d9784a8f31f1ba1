/- A part of the proof of rubBounds_holds: RsK. Own work of this project; texts printed by own programs among it. -/
import Derived.KernelRfl
import Derived.Test.YtfmnoohhhokicaaYvJ
set_option maxRecDepth 1000000
set_option maxHeartbeats 16000000
noncomputable section
noncomputable section
namespace Go.AM.Ytfmnoohhhokicaa
open Go Go.AM Go.AM.Rub
def chE (l : List Int) (i : Nat) : Int := if rowF l i < 0 ∨ rowF l i > 8 then 1 else if 0 < i ∧ rowF l i > rowF l (i - 1) then 7 else 0
def chkR (l : List Int) : Int := if l.length = 0 then 4 else if l.length > 6 then 3 else fe (chE l) 0 l.length
theorem Z00 {l : List Int} : chkR l = 0 ↔ 0 < l.length ∧ l.length ≤ 6 ∧ Rw l.length l := by
 unfold chkR
 split
 · rename_i h; exact ⟨fun e => absurd e (by decide), fun e => by omega⟩
 · split
   · rename_i h; exact ⟨fun e => absurd e (by decide), fun e => by omega⟩
   · rename_i h1 h2
     rw [Z7C]
     constructor
     · intro h
       have h0 : ∀ i, i < l.length → 0 ≤ rowF l i ∧ rowF l i ≤ 8 ∧ (0 < i → rowF l i ≤ rowF l (i - 1)) := by
         intro i hi
         have := h i (by omega) (by omega)
         unfold chE at this
         split at this
         · exact absurd this (by decide)
         · split at this
           · exact absurd this (by decide)
           · rename_i a b
             exact ⟨by omega, by omega, fun hp => Int.not_lt.1 fun hh => b ⟨hp, hh⟩⟩
       refine ⟨by omega, by omega, rfl, Z2i (fun i hi => (h0 i hi).1) (fun hp => (h0 0 hp).2.1) fun i hi => ?_⟩
       have := (h0 (i + 1) hi).2.2 (by omega)
       simpa using this
     · rintro ⟨_, _, hr⟩ i _ hi
       have hb := rw_b hr (k := i) (by omega)
       unfold chE
       rw [if_neg (by omega), if_neg]
       rintro ⟨hp, hlt⟩
       have := Z1n hr.row (i - 1) (by omega)
       rw [show i - 1 + 1 = i by omega] at this
       omega
abbrev chS (l : List Int) (ex : Bool) (i : Nat) : St := ([(15, .int .i64 i), (14, .int .i64 l.length), (13, .imm (ics l) l.length ex), (0, .imm (ics l) l.length ex)], [])
theorem Z0fJ {C : Callee} {l : List Int} {ex : Bool} (h6 : l.length ≤ 6) (i : Nat) (hi : i < l.length) (he : chE l i = 0) :
   ∃ s', (execA E C (fg 25) 0 40 [] 1000000 Z3F) (chS l ex i) = some (.normal, s') ∧ headA [] s' = chS l ex (i + 1) := by
 have hlen := Z5 l
 have hat := ZR hi
 have hat1 := ZR (l := l) (k := i - 1) (by omega)
 have g1 : (i : Int) < l.length := by omega
 unfold chE at he
 split at he
 · exact absurd he (by decide)
 · split at he
   · exact absurd he (by decide)
   · rename_i a b
     have a1 : ¬ rowF l i < 0 := by omega
     have a2 : ¬ rowF l i > 8 := by omega
     rcases Nat.eq_zero_or_pos i with hz | hp
     · subst hz
       simp (disch := omega) only [ZF, ↓gd, stp, opPick, just, Rd.bind, Rd.run, Rd.opt, upds, tsz, rdCells, aLoad, Z3, aNum, aBin, aInt, Nat.reduceLT, Nat.reduceBEq, Nat.reduceEqDiff, Nat.reduceLeDiff, ↓reduceIte, reduceCtorEq, Int.reduceLE, Int.reduceToNat, ZT, F_25, hat, hlen, a1, a2, cl0, if_pos]
       exact ⟨_, rfl, rfl⟩
     · have b1 : ¬ rowF l i > rowF l (i - 1) := fun hh => b ⟨hp, hh⟩
       have g2 : (i : Int) > 0 := by omega
       have w1 : wrp .i64 ((i : Int) - 1) = ((i - 1 : Nat) : Int) := by rw [Zs (by omega)]; omega
       have g3 : ((i - 1 : Nat) : Int) < l.length := by omega
       simp (disch := omega) only [ZF, ↓gd, stp, opPick, just, Rd.bind, Rd.run, Rd.opt, upds, tsz, rdCells, aLoad, Z3, aNum, aBin, aInt, Nat.reduceLT, Nat.reduceBEq, Nat.reduceEqDiff, Nat.reduceLeDiff, ↓reduceIte, reduceCtorEq, ZT, F_25, g1, g2, g3, hat, hat1, hlen, a1, a2, b1, w1, Zk (show i < 1000000 by omega)]
       exact ⟨_, rfl, rfl⟩
theorem Z0cI {C : Callee} {l : List Int} {ex : Bool} (h6 : l.length ≤ 6) (i : Nat) (hi : i < l.length) (he : chE l i ≠ 0) :
   ∃ H, (execA E C (fg 25) 0 40 [] 1000000 Z3F) (chS l ex i) = some (.ret, ([(2, .int .i64 (chE l i))], H)) := by
 have hlen := Z5 l
 have hat := ZR hi
 have hat1 := ZR (l := l) (k := i - 1) (by omega)
 have g1 : (i : Int) < l.length := by omega
 unfold chE at he ⊢
 by_cases a : rowF l i < 0 ∨ rowF l i > 8
 · rw [if_pos a]
   rcases a with a | a
   · simp (disch := omega) only [ZF, ↓gd, stp, opPick, just, Rd.bind, Rd.run, Rd.opt, upds, tsz, rdCells, aLoad, Z3, aNum, aBin, aInt, Nat.reduceLT, Nat.reduceBEq, Nat.reduceEqDiff, Nat.reduceLeDiff, ↓reduceIte, reduceCtorEq, ZT, F_25, g1, hat, hlen, a]
     exact ⟨_, rfl⟩
   · have a1 : ¬ rowF l i < 0 := by omega
     simp (disch := omega) only [ZF, ↓gd, stp, opPick, just, Rd.bind, Rd.run, Rd.opt, upds, tsz, rdCells, aLoad, Z3, aNum, aBin, aInt, Nat.reduceLT, Nat.reduceBEq, Nat.reduceEqDiff, Nat.reduceLeDiff, ↓reduceIte, reduceCtorEq, ZT, F_25, g1, hat, hlen, a, a1]
     exact ⟨_, rfl⟩
 · rw [if_neg a] at he ⊢
   have a1 : ¬ rowF l i < 0 := by omega
   have a2 : ¬ rowF l i > 8 := by omega
   by_cases b : 0 < i ∧ rowF l i > rowF l (i - 1)
   · rw [if_pos b]
     obtain ⟨hp, b⟩ := b
     have g2 : (i : Int) > 0 := by omega
     have w1 : wrp .i64 ((i : Int) - 1) = ((i - 1 : Nat) : Int) := by rw [Zs (by omega)]; omega
     have g3 : ((i - 1 : Nat) : Int) < l.length := by omega
     simp (disch := omega) only [ZF, ↓gd, stp, opPick, just, Rd.bind, Rd.run, Rd.opt, upds, tsz, rdCells, aLoad, Z3, aNum, aBin, aInt, Nat.reduceLT, Nat.reduceBEq, Nat.reduceEqDiff, Nat.reduceLeDiff, ↓reduceIte, reduceCtorEq, ZT, F_25, g1, g2, g3, hat, hat1, hlen, a1, a2, b, w1]
     exact ⟨_, rfl⟩
   · rw [if_neg b] at he; exact absurd rfl he
theorem ZI5 {C : Callee} {l : List Int} {a : AV} (ha : IV l a) (hl : l.length ≤ 1000) : rsOf (bodyA E C fg 1000000 25 [a] [] 0) = some (.int .i64 (chkR l)) := by
 rcases ha with ⟨rfl, rfl⟩ | ⟨ex, rfl⟩
 · simp (disch := omega) only [ZF, Z4, stp, just, Rd.bind, Rd.run, Rd.opt, upds, resA, resL, aLen, Z2, aBin, aInt, Nat.reduceBEq, Nat.reduceEqDiff, Nat.reduceLeDiff, ↓reduceIte, reduceCtorEq, ZT, F_25, chkR]
 · unfold chkR
   by_cases h0 : l.length = 0
   · rw [if_pos h0]
     have g0 : (l.length : Int) = 0 := by omega
     simp (disch := omega) only [ZF, Z4, stp, just, Rd.bind, Rd.run, Rd.opt, upds, resA, resL, aLen, Z2, aBin, aInt, Nat.reduceBEq, Nat.reduceEqDiff, Nat.reduceLeDiff, ↓reduceIte, reduceCtorEq, ZT, F_25, g0]
   · rw [if_neg h0]
     have g0 : ¬ (l.length : Int) = 0 := by omega
     have g0' : ((l.length : Int) == 0) = false := by rw [beq_eq_false_iff_ne]; exact g0
     by_cases h6 : l.length > 6
     · rw [if_pos h6]
       have g1 : (l.length : Int) > 6 := by omega
       simp (disch := omega) only [ZF, Z4, stp, just, Rd.bind, Rd.run, Rd.opt, upds, resA, resL, aLen, Z2, aBin, aInt, Nat.reduceBEq, Nat.reduceEqDiff, Nat.reduceLeDiff, ↓reduceIte, reduceCtorEq, ZT, F_25, g0', g1]
     · rw [if_neg h6]
       have g1 : ¬ (l.length : Int) > 6 := by omega
       have hlen := Z5 l
       have hloop := loopE (f := (execA E C (fg 25) 0 40 [] 1000000 Z3F)) (e := chE l) (R := fun e H => ([(2, .int .i64 e)], H)) (chS l ex) l.length (E0 := []) rfl (by omega) (x := .exit 1) (se := ([(16, .bool false), (15, .int .i64 l.length), (14, .int .i64 l.length), (13, .imm (ics l) l.length ex), (0, .imm (ics l) l.length ex)], [])) (by simp)
         (fun i hi _ he => Z0fJ (by omega) i hi he) (fun i hi _ he => Z0cI (by omega) i hi he) (fun _ => by simp (disch := omega) only [ZF, stp, just, Rd.bind, Rd.run, Rd.opt, upds, aBin, aInt, Nat.reduceEqDiff, Nat.reduceLeDiff, ↓reduceIte, F_25, chS])
       simp only [chS, cl0] at hloop
       rcases hloop with ⟨hz, hloop⟩ | ⟨hz, H, hloop⟩
       · rw [hz]
         simp (disch := omega) only [ZF, Z4, stp, just, Rd.bind, Rd.run, Rd.opt, upds, resA, resL, aLen, Z2, aBin, aInt, Nat.reduceBEq, Nat.reduceEqDiff, Nat.reduceLeDiff, ↓reduceIte, reduceCtorEq, ZT, F_25, g0', g1, hloop]
       · simp (disch := omega) only [ZF, Z4, stp, just, Rd.bind, Rd.run, Rd.opt, upds, resA, resL, aLen, Z2, aBin, aInt, Nat.reduceBEq, Nat.reduceEqDiff, Nat.reduceLeDiff, ↓reduceIte, reduceCtorEq, ZT, F_25, g0', g1, hloop]
theorem Z3k {d : Nat} {site : Nat → Nat} {seen : List Nat} {l : List Int} {a : AV} (ha : IV l a) (hl : l.length ≤ 1000) : aBack site true seen (thaw (kF (d + 1)) 25 [a] [] 0) = .pure (.int .i64 (chkR l), []) :=
 Z4o (Z3j rfl (ZI5 ha hl))
end Go.AM.Ytfmnoohhhokicaa
end
noncomputable section
namespace Go.AM.Ytfmnoohhhokicaa
open Go Go.AM Go.AM.Rub
def riP (l : List Int) (i : Nat) : List Int := (List.range (i + 1)).map (ps (rowF l))
def riL (l : List Int) : List Int := riP l l.length
theorem Zdd (l : List Int) (i : Nat) : (riP l i).length = i + 1 := by simp [riP]
theorem ZO4 (l : List Int) (i : Nat) : riP l (i + 1) = riP l i ++ [ps (rowF l) i + rowF l i] := by simp [riP, List.range_succ, ps]
theorem Z2P {l : List Int} {i k : Nat} (h : k ≤ i) : (riP l i)[k]? = some (ps (rowF l) k) := by
 simp only [riP, List.getElem?_map]
 rw [List.getElem?_range (by omega)]; rfl
theorem ps_b {n : Nat} {l : List Int} (h : Rw n l) : ∀ k, k ≤ n → 0 ≤ ps (rowF l) k ∧ ps (rowF l) k ≤ 8 * k
 | 0, _ => by simp [ps]
 | k + 1, hk => by
   have := ps_b h k (by omega)
   have := rw_b h (k := k) (by omega)
   simp only [ps]; omega
abbrev riS (l : List Int) (ex : Bool) (i : Nat) : St := ([(9, .int .i64 i), (8, .int .i64 l.length), (7, .imm (ics l) l.length ex), (3, .ref 6 0 (i + 1) (i + 1) (i + 1) 1 false)], [(6, ⟨.row, ics (riP l i)⟩)])
theorem Z0gD {C : Callee} {n : Nat} {l : List Int} {ex : Bool} (h : Rw n l) (hn : n ≤ 8) (i : Nat) (hi : i < l.length) :
   ∃ s', (execA E C (fg 79) 0 25 [] 1000000 Z5g) (riS l ex i) = some (.normal, s') ∧ headA [] s' = riS l ex (i + 1) := by
 have hln := h.len
 have hlen := Z5 l
 have hat := ZR hi
 have hrl : (ics (riP l i)).length = i + 1 := by rw [Z5, Zdd]
 have hra := Z1F (Z2P (l := l) (i := i) (Nat.le_refl i))
 have hsn := Z5j (riP l i) (ps (rowF l) i + rowF l i)
 have htk : List.take (i + 1) (ics (riP l i)) = ics (riP l i) := List.take_of_length_le (by omega)
 have b1 := ps_b h i (by omega)
 have b2 := rw_b h (k := i) (by omega)
 have g1 : (i : Int) < l.length := by omega
 have g2 : (i : Int) < ((i + 1 : Nat) : Int) := by omega
 have w1 : wrp .i64 (ps (rowF l) i + rowF l i) = ps (rowF l) i + rowF l i := Zs (by omega)
 have hno : ¬ i + 1 + 1 ≤ i + 1 := by omega
 simp only [riS, ZO4]
 rw [← hsn]
 generalize ics (riP l i) = L at *
 generalize ps (rowF l) i = p at *
 simp (disch := omega) only [ZF, stp, just, Rd.bind, Rd.run, Rd.opt, upds, acells, zeroCells, tsz, elemT, rdCells, aLoad, fresh, Z3, aNum, Z2, aBin, aInt, putC, evO, Nat.reduceAdd, Nat.reduceLT, Nat.reduceBEq, Nat.reduceEqDiff, Nat.reduceLeDiff, ↓reduceIte, reduceCtorEq, Z8, Zn, partsOf, fillA, repC, Zu, aAppend, srcOf, window, snaps, ZT, F_79, g1, g2, hat, hlen, hrl, hra, htk, w1, hno, Z23 (show i + 1 + 1 ≤ 1000000 by omega), Zk (show i < 1000000 by omega)]
 exact ⟨_, rfl, rfl⟩
theorem ZJ5 {C : Callee} {n : Nat} {l : List Int} {a : AV} (ha : IV l a) (h : Rw n l) (hn : n ≤ 8) :
   ∃ H, bodyA E C fg 1000000 79 [a] [] 0 = some (.ref 6 0 (l.length + 1) (l.length + 1) (l.length + 1) 1 false, H) ∧ hget H 6 = some ⟨.row, ics (riL l)⟩ := by
 rcases ha with ⟨rfl, rfl⟩ | ⟨ex, rfl⟩
 · have hloop := Za4 (f := (execA E C (fg 79) 0 25 [] 1000000 Z5g)) (E0 := []) (s0 := ([(9, .int .i64 0), (8, .int .i64 0), (7, .nilsl), (3, .ref 6 0 1 1 1 1 false)], [(6, ⟨.row, [.int .i64 0]⟩)])) rfl (e := .exit 0) (se := ([(10, .bool false), (9, .int .i64 0), (8, .int .i64 0), (7, .nilsl), (3, .ref 6 0 1 1 1 1 false)], [(6, ⟨.row, [.int .i64 0]⟩)]))
     (by simp (disch := omega) only [ZF, stp, just, Rd.bind, Rd.run, Rd.opt, upds, aBin, aInt, Nat.reduceEqDiff, Nat.reduceLeDiff, ↓reduceIte, F_79]) (by simp)
   simp (disch := omega) only [ZF, Z4, stp, just, Rd.bind, Rd.run, upds, acells, zeroCells, tsz, elemT, resA, resL, fresh, aLen, Z2, putC, evO, ofV, ofV1, Nat.reduceAdd, Nat.reduceLT, Nat.reduceBEq, Nat.reduceEqDiff, Nat.reduceLeDiff, ↓reduceIte, reduceCtorEq, Z8, Zn, partsOf, fillA, repC, snaps, ZT, F_79, hloop]
   exact ⟨_, rfl, rfl⟩
 · have hln := h.len
   have hlen := Z5 l
   have hloop := loopM (f := (execA E C (fg 79) 0 25 [] 1000000 Z5g)) (E0 := []) (riS l ex) l.length (fun i hi => Z0gD h hn i hi) rfl (by omega)
     (e := .exit 0) (se := ([(10, .bool false), (9, .int .i64 l.length), (8, .int .i64 l.length), (7, .imm (ics l) l.length ex), (3, .ref 6 0 (l.length + 1) (l.length + 1) (l.length + 1) 1 false)], [(6, ⟨.row, ics (riL l)⟩)]))
     (by simp (disch := omega) only [ZF, stp, just, Rd.bind, Rd.run, Rd.opt, upds, aBin, aInt, Nat.reduceEqDiff, Nat.reduceLeDiff, ↓reduceIte, F_79, riS, riL]) (by simp)
   have e0 : ics (riP l 0) = [.int .i64 0] := rfl
   simp only [riS, e0, cl0, Nat.zero_add] at hloop
   simp (disch := omega) only [ZF, Z4, stp, just, Rd.bind, Rd.run, upds, acells, zeroCells, tsz, elemT, resA, resL, fresh, aLen, Z2, putC, evO, ofV, ofV1, Nat.reduceAdd, Nat.reduceLT, Nat.reduceBEq, Nat.reduceEqDiff, Nat.reduceLeDiff, ↓reduceIte, reduceCtorEq, Z8, Zn, partsOf, fillA, repC, snaps, ZT, F_79, hloop]
   exact ⟨_, rfl, rfl⟩
theorem Z1o (l : List Int) : (ics (riL l)).length = l.length + 1 := by rw [Z5]; exact Zdd _ _
theorem Z25 {d : Nat} {site : Nat → Nat} {seen : List Nat} {n : Nat} {l : List Int} {a : AV} (ha : IV l a) (h : Rw n l) (hn : n ≤ 8) : aBack site true seen (thaw (kF (d + 1)) 79 [a] [] 0) =
   Z0I (site 0) seen (fun k => .ref k 0 (l.length + 1) (l.length + 1) (l.length + 1) 1 false) ⟨.row, ics (riL l)⟩ := by
 obtain ⟨H, h1, h2⟩ := ZJ5 (C := kF d) ha h hn
 exact Z22 (by rw [ZW rfl]; exact h1) h2 (Z1o l)
end Go.AM.Ytfmnoohhhokicaa
end
noncomputable section
namespace Go.AM.Ytfmnoohhhokicaa
open Go Go.AM Go.AM.Rub
theorem ZXu {C : Callee} {x lo hi : Int} : rsOf (bodyA E C fg 1000000 81 [.int .i64 x, .int .i64 lo, .int .i64 hi] [] 0) = some (.bool (decide (lo ≤ x ∧ x ≤ hi))) := by
 by_cases h1 : x ≥ lo
 · by_cases h2 : x ≤ hi
   · rw [decide_eq_true (show lo ≤ x ∧ x ≤ hi from ⟨h1, h2⟩)]
     simp (disch := omega) only [ZF, ↓gd, Z4, stp, opPick, just, Rd.bind, Rd.run, Rd.opt, upds, resA, resL, aBin, aInt, Nat.reduceAdd, Nat.reduceBEq, Nat.reduceEqDiff, Nat.reduceLeDiff, ↓reduceIte, reduceCtorEq, F_81, h1, h2]
   · rw [decide_eq_false (show ¬ (lo ≤ x ∧ x ≤ hi) from fun h => h2 h.2)]
     simp (disch := omega) only [ZF, ↓gd, Z4, stp, opPick, just, Rd.bind, Rd.run, Rd.opt, upds, resA, resL, aBin, aInt, Nat.reduceAdd, Nat.reduceBEq, Nat.reduceEqDiff, Nat.reduceLeDiff, ↓reduceIte, reduceCtorEq, F_81, h1, h2]
 · rw [decide_eq_false (show ¬ (lo ≤ x ∧ x ≤ hi) from fun h => h1 h.1)]
   simp (disch := omega) only [ZF, ↓gd, Z4, stp, opPick, just, Rd.bind, Rd.run, Rd.opt, upds, resA, resL, aBin, aInt, Nat.reduceAdd, Nat.reduceBEq, Nat.reduceEqDiff, Nat.reduceLeDiff, ↓reduceIte, reduceCtorEq, F_81, h1]
theorem Z5f {d : Nat} {site : Nat → Nat} {seen : List Nat} {x lo hi : Int} : aBack site true seen (thaw (kF (d + 1)) 81 [.int .i64 x, .int .i64 lo, .int .i64 hi] [] 0) = .pure (.bool (decide (lo ≤ x ∧ x ≤ hi)), []) :=
 Z3i (Z3j rfl ZXu)
abbrev rcS (l : List Int) (ex : Bool) (i : Nat) : St := ([(3, .int .i64 i), (0, .imm (ics l) l.length ex)], [])
theorem Z0j4 {d : Nat} {l : List Int} {ex : Bool} (h6 : l.length ≤ 6) (i : Nat) (hi : i < l.length) (he : chE l i = 0) :
   ∃ s', execA E (kF (d + 1)) (fg 26) 0 36 [] 1000000 Z3J (rcS l ex i) = some (.normal, s') ∧ headA [] s' = rcS l ex (i + 1) := by
 have hlen := Z5 l
 have hat := ZR hi
 have hat1 := ZR (l := l) (k := i - 1) (by omega)
 have g1 : (i : Int) < l.length := by omega
 have hin := fun (site : Nat → Nat) seen => Z5f (d := d) (site := site) (seen := seen) (x := rowF l i) (lo := 0) (hi := 8)
 generalize kF (d + 1) = C at *
 unfold chE at he
 split at he
 · exact absurd he (by decide)
 · split at he
   · exact absurd he (by decide)
   · rename_i a b
     rw [decide_eq_true (show 0 ≤ rowF l i ∧ rowF l i ≤ 8 by omega)] at hin
     rcases Nat.eq_zero_or_pos i with hz | hp
     · subst hz
       simp (disch := omega) only [ZF, stp, opPick, justO, just, Rd.bind, Rd.run, Rd.opt, upds, tsz, rdCells, aLoad, Z3, aNum, aLen, Z2, aBin, aInt, Nat.reduceAdd, Nat.reduceLT, Nat.reduceBEq, Nat.reduceEqDiff, Nat.reduceLeDiff, ↓reduceIte, reduceCtorEq, stpT, ↓gdT, Rd.foot, writing, Zm, Tr.empty, Zo, aUn, aCall, snaps, Int.reduceLE, Int.reduceToNat, ZT, F_26, hat, hlen, hin, cl0, if_pos]
       exact ⟨_, rfl, rfl⟩
     · have b1 : ¬ rowF l i > rowF l (i - 1) := fun hh => b ⟨hp, hh⟩
       have g2 : (i : Int) > 0 := by omega
       have w1 : wrp .i64 ((i : Int) - 1) = ((i - 1 : Nat) : Int) := by rw [Zs (by omega)]; omega
       have g3 : ((i - 1 : Nat) : Int) < l.length := by omega
       simp (disch := omega) only [ZF, stp, opPick, justO, just, Rd.bind, Rd.run, Rd.opt, upds, tsz, rdCells, aLoad, Z3, aNum, aLen, Z2, aBin, aInt, Nat.reduceAdd, Nat.reduceLT, Nat.reduceBEq, Nat.reduceEqDiff, Nat.reduceLeDiff, ↓reduceIte, reduceCtorEq, stpT, ↓gdT, Rd.foot, writing, Zm, Tr.empty, Zo, aUn, aCall, snaps, ZT, F_26, g1, g2, g3, hat, hat1, hlen, hin, b1, w1, Zk (show i < 1000000 by omega)]
       exact ⟨_, rfl, rfl⟩
theorem Z08e {d : Nat} {l : List Int} {ex : Bool} (h6 : l.length ≤ 6) (i : Nat) (hi : i < l.length) (he : chE l i ≠ 0) :
   ∃ H, execA E (kF (d + 1)) (fg 26) 0 36 [] 1000000 Z3J (rcS l ex i) = some (.ret, ([(2, .int .i64 (chE l i))], H)) := by
 have hlen := Z5 l
 have hat := ZR hi
 have hat1 := ZR (l := l) (k := i - 1) (by omega)
 have g1 : (i : Int) < l.length := by omega
 have hin := fun (site : Nat → Nat) seen => Z5f (d := d) (site := site) (seen := seen) (x := rowF l i) (lo := 0) (hi := 8)
 generalize kF (d + 1) = C at *
 unfold chE at he ⊢
 by_cases a : rowF l i < 0 ∨ rowF l i > 8
 · rw [if_pos a]
   rw [decide_eq_false (show ¬ (0 ≤ rowF l i ∧ rowF l i ≤ 8) by omega)] at hin
   simp (disch := omega) only [ZF, stp, justO, just, Rd.bind, Rd.run, Rd.opt, upds, tsz, rdCells, aLoad, Z3, aNum, aLen, Z2, aBin, aInt, Nat.reduceLT, Nat.reduceBEq, Nat.reduceEqDiff, Nat.reduceLeDiff, ↓reduceIte, reduceCtorEq, aUn, aCall, snaps, ZT, F_26, g1, hat, hlen, hin]
   exact ⟨_, rfl⟩
 · rw [if_neg a] at he ⊢
   rw [decide_eq_true (show 0 ≤ rowF l i ∧ rowF l i ≤ 8 by omega)] at hin
   by_cases b : 0 < i ∧ rowF l i > rowF l (i - 1)
   · rw [if_pos b]
     obtain ⟨hp, b⟩ := b
     have g2 : (i : Int) > 0 := by omega
     have w1 : wrp .i64 ((i : Int) - 1) = ((i - 1 : Nat) : Int) := by rw [Zs (by omega)]; omega
     have g3 : ((i - 1 : Nat) : Int) < l.length := by omega
     simp (disch := omega) only [ZF, stp, opPick, justO, just, Rd.bind, Rd.run, Rd.opt, upds, tsz, rdCells, aLoad, Z3, aNum, aLen, Z2, aBin, aInt, Nat.reduceAdd, Nat.reduceLT, Nat.reduceBEq, Nat.reduceEqDiff, Nat.reduceLeDiff, ↓reduceIte, reduceCtorEq, stpT, ↓gdT, Rd.foot, writing, Zm, Tr.empty, Zo, aUn, aCall, snaps, ZT, F_26, g1, g2, g3, hat, hat1, hlen, hin, b, w1]
     exact ⟨_, rfl⟩
   · rw [if_neg b] at he; exact absurd rfl he
theorem ZCI {d : Nat} {l : List Int} {a : AV} (ha : IV l a) (hl : l.length ≤ 1000) : rsOf (bodyA E (kF (d + 1)) fg 1000000 26 [a] [] 0) = some (.int .i64 (chkR l)) := by
 rcases ha with ⟨rfl, rfl⟩ | ⟨ex, rfl⟩
 · simp (disch := omega) only [ZF, Z4, stp, just, Rd.bind, Rd.run, Rd.opt, upds, resA, resL, aLen, Z2, aBin, aInt, Nat.reduceBEq, Nat.reduceEqDiff, Nat.reduceLeDiff, ↓reduceIte, reduceCtorEq, ZT, F_26, chkR]
 · unfold chkR
   by_cases h0 : l.length = 0
   · rw [if_pos h0]
     have g0 : (l.length : Int) = 0 := by omega
     simp (disch := omega) only [ZF, Z4, stp, just, Rd.bind, Rd.run, Rd.opt, upds, resA, resL, aLen, Z2, aBin, aInt, Nat.reduceBEq, Nat.reduceEqDiff, Nat.reduceLeDiff, ↓reduceIte, reduceCtorEq, ZT, F_26, g0]
   · rw [if_neg h0]
     have g0 : ¬ (l.length : Int) = 0 := by omega
     have g0' : ((l.length : Int) == 0) = false := by rw [beq_eq_false_iff_ne]; exact g0
     by_cases h6 : l.length > 6
     · rw [if_pos h6]
       have g1 : (l.length : Int) > 6 := by omega
       simp (disch := omega) only [ZF, Z4, stp, just, Rd.bind, Rd.run, Rd.opt, upds, resA, resL, aLen, Z2, aBin, aInt, Nat.reduceBEq, Nat.reduceEqDiff, Nat.reduceLeDiff, ↓reduceIte, reduceCtorEq, ZT, F_26, g0', g1]
     · rw [if_neg h6]
       have g1 : ¬ (l.length : Int) > 6 := by omega
       have hlen := Z5 l
       have hloop := loopE (f := execA E (kF (d + 1)) (fg 26) 0 36 [] 1000000 Z3J) (e := chE l) (R := fun e H => ([(2, .int .i64 e)], H)) (rcS l ex) l.length (E0 := []) rfl (by omega) (x := .exit 0) (se := ([(13, .bool false), (3, .int .i64 l.length), (0, .imm (ics l) l.length ex)], [])) (by simp)
         (fun i hi _ he => Z0j4 (by omega) i hi he) (fun i hi _ he => Z08e (by omega) i hi he) (fun _ => by simp (disch := omega) only [ZF, stp, just, Rd.bind, Rd.run, Rd.opt, upds, aLen, Z2, aBin, aInt, Nat.reduceBEq, Nat.reduceEqDiff, Nat.reduceLeDiff, ↓reduceIte, reduceCtorEq, ZT, F_26, rcS])
       simp only [rcS, cl0] at hloop
       generalize kF (d + 1) = C at *
       rcases hloop with ⟨hz, hloop⟩ | ⟨hz, H, hloop⟩
       · rw [hz]
         simp (disch := omega) only [ZF, Z4, stp, just, Rd.bind, Rd.run, Rd.opt, upds, resA, resL, aLen, Z2, aBin, aInt, Nat.reduceBEq, Nat.reduceEqDiff, Nat.reduceLeDiff, ↓reduceIte, reduceCtorEq, ZT, F_26, g0', g1, hloop]
       · simp (disch := omega) only [ZF, Z4, stp, just, Rd.bind, Rd.run, Rd.opt, upds, resA, resL, aLen, Z2, aBin, aInt, Nat.reduceBEq, Nat.reduceEqDiff, Nat.reduceLeDiff, ↓reduceIte, reduceCtorEq, ZT, F_26, g0', g1, hloop]
theorem Z2y {d : Nat} {site : Nat → Nat} {seen : List Nat} {l : List Int} {a : AV} (ha : IV l a) (hl : l.length ≤ 1000) : aBack site true seen (thaw (kF (d + 2)) 26 [a] [] 0) = .pure (.int .i64 (chkR l), []) :=
 Z4o (Z3j rfl (ZCI ha hl))
abbrev suS (l : List Int) (a : AV) (i : Nat) : St := ([(4, .int .i64 i), (3, .int .i64 (ps (rowF l) i)), (0, a)], [])
theorem Z01Z {C : Callee} {l : List Int} {a : AV} (ha : IV l a) (hl : l.length ≤ 1000) (hb : ∀ k, k < l.length → 0 ≤ rowF l k ∧ rowF l k ≤ 100000) : rsOf (bodyA E C fg 1000000 80 [a] [] 0) = some (.int .i64 (ps (rowF l) l.length)) := by
 have hps : ∀ k, k ≤ l.length → 0 ≤ ps (rowF l) k ∧ ps (rowF l) k ≤ 100000 * k := by
   intro k
   induction k with
   | zero => intro _; simp [ps]
   | succ k ih =>
     intro hk
     have := ih (by omega)
     have := hb k (by omega)
     simp only [ps]; omega
 rcases ha with ⟨rfl, rfl⟩ | ⟨ex, rfl⟩
 · have hloop := Za4 (f := (execA E C (fg 80) 0 18 [] 1000000 Z7n)) (E0 := []) (s0 := ([(4, .int .i64 0), (3, .int .i64 0), (0, .nilsl)], [])) rfl (e := .exit 0) (se := ([(8, .bool false), (4, .int .i64 0), (3, .int .i64 0), (0, .nilsl)], []))
     (by simp (disch := omega) only [ZF, stp, just, Rd.bind, Rd.run, Rd.opt, upds, aLen, Z2, aBin, aInt, Nat.reduceBEq, Nat.reduceEqDiff, Nat.reduceLeDiff, ↓reduceIte, reduceCtorEq, ZT, F_80]) (by simp)
   simp (disch := omega) only [ZF, Z4, resA, resL, Nat.reduceBEq, Nat.reduceEqDiff, Nat.reduceLeDiff, ↓reduceIte, reduceCtorEq, F_80, hloop, ps]
 · have hlen := Z5 l
   have hloop := loopM (f := (execA E C (fg 80) 0 18 [] 1000000 Z7n)) (E0 := []) (suS l (.imm (ics l) l.length ex)) l.length (fun i hi => by
       have hat := ZR hi
       have g1 : (i : Int) < l.length := by omega
       have := hps i (by omega)
       have := hb i hi
       have w : wrp .i64 (ps (rowF l) i + rowF l i) = ps (rowF l) i + rowF l i := Zs (by omega)
       simp (disch := omega) only [ZF, stp, just, Rd.bind, Rd.run, Rd.opt, upds, tsz, rdCells, aLoad, Z3, aNum, aLen, Z2, aBin, aInt, Nat.reduceLT, Nat.reduceBEq, Nat.reduceEqDiff, Nat.reduceLeDiff, ↓reduceIte, reduceCtorEq, ZT, F_80, suS, ps, g1, hat, hlen, w, Zk (show i < 1000000 by omega)]
       exact ⟨_, rfl, rfl⟩) rfl (by omega) (e := .exit 0) (se := ([(8, .bool false), (4, .int .i64 l.length), (3, .int .i64 (ps (rowF l) l.length)), (0, .imm (ics l) l.length ex)], []))
     (by simp (disch := omega) only [ZF, stp, just, Rd.bind, Rd.run, Rd.opt, upds, aLen, Z2, aBin, aInt, Nat.reduceBEq, Nat.reduceEqDiff, Nat.reduceLeDiff, ↓reduceIte, reduceCtorEq, ZT, F_80, suS]) (by simp)
   simp only [suS, cl0, ps] at hloop
   simp (disch := omega) only [ZF, Z4, resA, resL, Nat.reduceBEq, Nat.reduceEqDiff, Nat.reduceLeDiff, ↓reduceIte, reduceCtorEq, F_80, hloop]
theorem ZOT {d : Nat} {site : Nat → Nat} {seen : List Nat} {l : List Int} {a : AV} (ha : IV l a) (hl : l.length ≤ 1000) (hb : ∀ k, k < l.length → 0 ≤ rowF l k ∧ rowF l k ≤ 100000) : aBack site true seen (thaw (kF (d + 1)) 80 [a] [] 0) = .pure (.int .i64 (ps (rowF l) l.length), []) :=
 Z4o (Z3j rfl (Z01Z ha hl hb))
theorem Zar {l : List Int} {k i : Nat} (h : i < k) : rowF (l.take k) i = rowF l i := by
 simp only [rowF, List.getD_eq_getElem?_getD, List.getElem?_take, if_pos h]
theorem Z2R {d : Nat} {site : Nat → Nat} {seen : List Nat} {n : Nat} {l : List Int} (h : Rw n l) (hn : n ≤ 8) {k : Nat} (hk : k ≤ n) {ex : Bool} : aBack site true seen (thaw (kF (d + 1)) 80 [.imm (ics (l.take k)) k ex] [] 0) = .pure (.int .i64 (ps (rowF l) k), []) := by
 have hl : (l.take k).length = k := by rw [List.length_take, h.len]; omega
 have ha : IV (l.take k) (.imm (ics (l.take k)) k ex) := .inr ⟨ex, by rw [hl]⟩
 have := ZOT (d := d) (site := site) (seen := seen) ha (by omega) (fun i hi => by rw [Zar (by omega)]; have := rw_b h (k := i) (by omega); omega)
 rw [hl, Z07 k fun i hi => Zar hi] at this
 exact this
end Go.AM.Ytfmnoohhhokicaa
end
noncomputable section
namespace Go.AM.Ytfmnoohhhokicaa
open Go Go.AM
variable {C : Callee} {B N : Nat} {E0 : AHeap} (φ : AFr) (H : AHeap) (s : St)
def Z8C := kBody Proofs.Try.f24
def ZBS := kL Z8C
def ZgH := kO ZBS
def Ztk := opN ZgH 0
theorem Z0hc : XG 24 26 ZBS ZgH [4] := Z1 (by rfl) (by rfl) _
theorem ZVt : ZgH.toList = [Ztk] := nf
theorem ZRL : stepA E C B 26 ZgH Ztk (φ, H) = some (fput φ 4 (.bool false), H) := nf
def ZgV := kR Z8C
def ZgQ := kL ZgV
def ZBh := kL ZgQ
def Z1O := kO ZBh
def Zyw := opN Z1O 0
def Ztn := opN Z1O 1
def Zwg := opN Z1O 2
def Zvk := opN Z1O 3
def Zv8 := opN Z1O 4
theorem Z0hp : XG 24 26 ZBh Z1O [6, 7, 8, 9] := Z1 (by rfl) (by rfl) _
theorem ZTg : Z1O.toList = [Zyw, Ztn, Zwg, Zvk, Zv8] := nf
theorem Z02O : stepA E C B 26 Z1O Zyw (φ, H) = some (fput φ 6 (fget φ 0), H) := nf
theorem Z04T : stepA E C B 26 Z1O Ztn (φ, H) = stp (some 7) φ H (Z2 E.T (B + 7) .len #[22] [(fget φ 6)]) := nf
theorem Z05k : stepA E C B 26 Z1O Zwg (φ, H) = some (fput φ 8 (fget φ 1), H) := nf
theorem ZZa : stepA E C B 26 Z1O Zvk (φ, H) = stp (some 9) φ H (Z2 E.T (B + 9) .len #[22] [(fget φ 8)]) := nf
theorem ZYD : stepA E C B 26 Z1O Zv8 (φ, H) = stp (some 10) φ H (just (aBin E.T .neq 3 (fget φ 7) (fget φ 9))) := nf
def ZhL := kR ZgQ
def Zho := kT ZhL
def ZCL := kL Zho
def ZgW := kO ZCL
def ZtK := opN ZgW 0
theorem Z0it : XG 24 26 ZCL ZgW [0, 1, 10] := Z1 (by rfl) (by rfl) _
theorem ZT1 : ZgW.toList = [ZtK] := nf
theorem Z01a : stepA E C B 26 ZgW ZtK (φ, H) = some (fput φ 4 (.bool false), H) := nf
def ZRE := kR Zho
theorem Z0iC : execA E C (fg 24) B 26 E0 N ZRE s = some (.ret, s) := Zj (by rfl) s
theorem Z0h9 : XQ 24 26 Zho ZCL ZRE := Z0 (by rfl) _
def ZRr := kE ZhL
theorem Z0jw : execA E C (fg 24) B 26 E0 N ZRr s = some (.normal, s) := Ze (by rfl) s
theorem Z0jy : XC 24 26 ZhL 10 Zho ZRr := Zb (by rfl) _
theorem Z0k1 : XQ 24 26 ZgQ ZBh ZhL := Z0 (by rfl) _
def Zaw := kR ZgV
def Za0 := kL Zaw
def ZkA := kL Za0
def Zgp := kO ZkA
def ZtF := opN Zgp 0
theorem Z0dT : XG 24 26 ZkA Zgp [10] := Z1 (by rfl) (by rfl) _
theorem Z04S : Zgp.toList = [ZtF] := nf
theorem ZSD : stepA E C B 26 Zgp ZtF (φ, H) = some (fput φ 5 (.int .i64 0), H) := nf
def ZnE := kR Za0
def Zqr := kB ZnE
def Z4J := kB Zqr
def Z8w := kL Z4J
def ZjO := kL Z8w
def Z2C := kO ZjO
def ZAK := opN Z2C 0
def ZAr := opN Z2C 1
def ZxW := opN Z2C 2
def ZyJ := opN Z2C 3
theorem Z0ci : XG 24 26 ZjO Z2C [11, 12, 13] := Z1 (by rfl) (by rfl) _
theorem ZYU : Z2C.toList = [ZAK, ZAr, ZxW, ZyJ] := nf
theorem ZVZ : stepA E C B 26 Z2C ZAK (φ, H) = some (fput φ 11 (fget φ 5), H) := nf
theorem Z01w : stepA E C B 26 Z2C ZAr (φ, H) = some (fput φ 12 (fget φ 0), H) := nf
theorem ZUR : stepA E C B 26 Z2C ZxW (φ, H) = stp (some 13) φ H (Z2 E.T (B + 13) .len #[22] [(fget φ 12)]) := nf
theorem ZZi : stepA E C B 26 Z2C ZyJ (φ, H) = stp (some 14) φ H (just (aBin E.T .lss 3 (fget φ 11) (fget φ 13))) := nf
def ZaS := kR Z8w
def ZH0 := kT ZaS
theorem Z06C : execA E C (fg 24) B 26 E0 N ZH0 s = some (.normal, s) := Ze (by rfl) s
def ZI1 := kE ZaS
theorem Z07Y : execA E C (fg 24) B 26 E0 N ZI1 s = some (.exit 0, s) := ZL (by rfl) s
theorem Z07E : XC 24 26 ZaS 14 ZH0 ZI1 := Zb (by rfl) _
theorem Z0aO : XQ 24 26 Z8w ZjO ZaS := Z0 (by rfl) _
def Zcp := kR Z4J
def ZpF := kL Zcp
def Z9u := kB ZpF
def ZnG := kL Z9u
def ZP := kO ZnG
def Zx2 := opN ZP 0
def ZuW := opN ZP 1
def ZAl := opN ZP 2
def Zyj := opN ZP 3
def ZAX := opN ZP 4
def ZAJ := opN ZP 5
def Zua := opN ZP 6
def Zvu := opN ZP 7
def ZzI := opN ZP 8
theorem Z09Q : XD 24 26 ZnG ZP [14, 17, 18, 19, 20, 21, 22, 23, 24] := Z3I (by rfl) (by rfl) _
theorem ZV6 : ZP.toList = [Zx2, ZuW, ZAl, Zyj, ZAX, ZAJ, Zua, Zvu, ZzI] := nf
theorem ZJE : statOk ZP = true := by kernel_rfl
theorem ZQQ : drawA E C B 26 ZP s = if neat 26 s = true then drX ZP (runT E C B 26 ZP ZP.toList 0 s) else none := Z2e ZJE s
theorem ZOJ (l : List (Nat × Tr)) : dynOk ZP l = (!writing l || Zo [[], [], [0, 1], [0, 1, 2], [], [], [4, 5], [4, 5, 6], [0, 1, 2, 3, 4, 5, 6, 7]] (Zm l)) := Z1P (by kernel_rfl) l
theorem ZU5 : stepT E C B 26 ZP Zx2 (φ, H) = some ((fput φ 17 (fget φ 0), H), ⟨false, [], []⟩) := Z9 rfl (Zh rfl rfl)
theorem Z00o : stepT E C B 26 ZP ZuW (φ, H) = some ((fput φ 18 (fget φ 5), H), ⟨false, [], []⟩) := Z9 rfl (Zh rfl rfl)
theorem Z04I : stepT E C B 26 ZP ZAl (φ, H) = stpT (some 19) φ H (just (Z3 E.T 22 (fget φ 17) (fget φ 18))) := Z9 rfl (Zi rfl rfl)
theorem ZY7 : stepT E C B 26 ZP Zyj (φ, H) = stpT (some 20) φ H (just (aLoad E.T 3 (fget φ 19))) := Z9 rfl (Zi rfl rfl)
theorem ZUi : stepT E C B 26 ZP ZAX (φ, H) = some ((fput φ 21 (fget φ 1), H), ⟨false, [], []⟩) := Z9 rfl (Zh rfl rfl)
theorem Z03N : stepT E C B 26 ZP ZAJ (φ, H) = some ((fput φ 22 (fget φ 5), H), ⟨false, [], []⟩) := Z9 rfl (Zh rfl rfl)
theorem Z02c : stepT E C B 26 ZP Zua (φ, H) = stpT (some 23) φ H (just (Z3 E.T 22 (fget φ 21) (fget φ 22))) := Z9 rfl (Zi rfl rfl)
theorem ZW8 : stepT E C B 26 ZP Zvu (φ, H) = stpT (some 24) φ H (just (aLoad E.T 3 (fget φ 23))) := Z9 rfl (Zi rfl rfl)
theorem Z03u : stepT E C B 26 ZP ZzI (φ, H) = stpT (some 25) φ H (just (aBin E.T .neq 3 (fget φ 20) (fget φ 24))) := Z9 rfl (Zi rfl rfl)
def ZaT := kR Z9u
def Zaq := kT ZaT
def ZkG := kL Zaq
def ZgZ := kO ZkG
def ZyB := opN ZgZ 0
theorem Z090 : XG 24 26 ZkG ZgZ [0, 1, 5, 25] := Z1 (by rfl) (by rfl) _
theorem Z018 : ZgZ.toList = [ZyB] := nf
theorem ZVN : stepA E C B 26 ZgZ ZyB (φ, H) = some (fput φ 4 (.bool false), H) := nf
def ZIy := kR Zaq
theorem Z0af : execA E C (fg 24) B 26 E0 N ZIy s = some (.ret, s) := Zj (by rfl) s
theorem Z0eI : XQ 24 26 Zaq ZkG ZIy := Z0 (by rfl) _
def ZJm := kE ZaT
theorem Z0aD : execA E C (fg 24) B 26 E0 N ZJm s = some (.normal, s) := Ze (by rfl) s
theorem Z09S : XC 24 26 ZaT 25 Zaq ZJm := Zb (by rfl) _
theorem Z06L : XQ 24 26 Z9u ZnG ZaT := Z0 (by rfl) _
theorem Z09G : execA E C (fg 24) B 26 E0 N ZpF s = blockX 1 (fun s => (forget s.1 [25], s.2)) (execA E C (fg 24) B 26 E0 N Z9u s) := Zf (by rfl) (by rfl) s
def Zjn := kR Zcp
def Z4r := kO Zjn
def ZxI := opN Z4r 0
def Zw0 := opN Z4r 1
def Zuj := opN Z4r 2
theorem Z078 : XG 24 26 Zjn Z4r [15, 16] := Z1 (by rfl) (by rfl) _
theorem ZYj : Z4r.toList = [ZxI, Zw0, Zuj] := nf
theorem ZWb : stepA E C B 26 Z4r ZxI (φ, H) = some (fput φ 15 (fget φ 5), H) := nf
theorem Z01g : stepA E C B 26 Z4r Zw0 (φ, H) = stp (some 16) φ H (just (aBin E.T .add 3 (fget φ 15) (.int .i64 1))) := nf
theorem Z007 : stepA E C B 26 Z4r Zuj (φ, H) = some (fput φ 5 (fget φ 16), H) := nf
theorem Z0fm : XQ 24 26 Zcp ZpF Zjn := Z0 (by rfl) _
theorem Z0dQ : XQ 24 26 Z4J Z8w Zcp := Z0 (by rfl) _
theorem Z0c8 : execA E C (fg 24) B 26 E0 N Zqr s = iterA (execA E C (fg 24) B 26 E0 N Z4J) (headA E0) N s := ZM (by rfl) s
theorem Z0eP : execA E C (fg 24) B 26 E0 N ZnE s = blockX 0 (fun s => (forget s.1 [0, 1, 5, 14], s.2)) (execA E C (fg 24) B 26 E0 N Zqr s) := Zf (by rfl) (by rfl) s
theorem Z0cC : XQ 24 26 Za0 ZkA ZnE := Z0 (by rfl) _
def Z9E := kR Zaw
def ZiA := kL Z9E
def Zgw := kO ZiA
def Zwm := opN Zgw 0
theorem Z09n : XG 24 26 ZiA Zgw [] := Z1 (by rfl) (by rfl) _
theorem ZXE : Zgw.toList = [Zwm] := nf
theorem ZW0 : stepA E C B 26 Zgw Zwm (φ, H) = some (fput φ 4 (.bool true), H) := nf
def ZG1 := kR Z9E
theorem Z0ao : execA E C (fg 24) B 26 E0 N ZG1 s = some (.ret, s) := Zj (by rfl) s
theorem Z0ba : XQ 24 26 Z9E ZiA ZG1 := Z0 (by rfl) _
theorem Z09W : XQ 24 26 Zaw Za0 Z9E := Z0 (by rfl) _
theorem Z0hT : XQ 24 26 ZgV ZgQ Zaw := Z0 (by rfl) _
theorem Z0gY : XQ 24 26 Z8C ZBS ZgV := Z0 (by rfl) _
theorem Z0jX : fInfo E 24 = some ⟨26, #[.tmp 4], Z8C⟩ := nf
theorem b_24 (args : List AV) : bodyA E C fg N 24 args H B = bodyX E [.tmp 4] (execA E C (fg 24) B 26 H N Z8C (Z4 args 0 [], H)) := Zq Z0jX args H
abbrev F_24 := And.intro (And.intro (And.intro (And.intro (And.intro (And.intro @Z0hc @ZVt) (And.intro @ZRL @Z0hp)) (And.intro (And.intro @ZTg @Z02O) (And.intro @Z04T (And.intro @Z05k @ZZa)))) (And.intro (And.intro (And.intro @ZYD @Z0it) (And.intro @ZT1 @Z01a)) (And.intro (And.intro @Z0iC @Z0h9) (And.intro @Z0jw (And.intro @Z0jy @Z0k1))))) (And.intro (And.intro (And.intro (And.intro @Z0dT @Z04S) (And.intro @ZSD @Z0ci)) (And.intro (And.intro @ZYU @ZVZ) (And.intro @Z01w (And.intro @ZUR @ZZi)))) (And.intro (And.intro (And.intro @Z06C @Z07Y) (And.intro @Z07E @Z0aO)) (And.intro (And.intro @Z09Q @ZV6) (And.intro @ZQQ (And.intro @ZOJ @ZU5)))))) (And.intro (And.intro (And.intro (And.intro (And.intro @Z00o @Z04I) (And.intro @ZY7 @ZUi)) (And.intro (And.intro @Z03N @Z02c) (And.intro @ZW8 (And.intro @Z03u @Z090)))) (And.intro (And.intro (And.intro @Z018 @ZVN) (And.intro @Z0af @Z0eI)) (And.intro (And.intro @Z0aD @Z09S) (And.intro @Z06L (And.intro @Z09G @Z078))))) (And.intro (And.intro (And.intro (And.intro @ZYj @ZWb) (And.intro @Z01g @Z007)) (And.intro (And.intro @Z0fm @Z0dQ) (And.intro @Z0c8 (And.intro @Z0eP @Z0cC)))) (And.intro (And.intro (And.intro @Z09n @ZXE) (And.intro @ZW0 @Z0ao)) (And.intro (And.intro @Z0ba @Z09W) (And.intro @Z0hT (And.intro @Z0gY @b_24))))))
end Go.AM.Ytfmnoohhhokicaa
end
noncomputable section
namespace Go.AM.Ytfmnoohhhokicaa
open Go Go.AM Go.AM.Rub
theorem Z7L {l : List Int} {a : AV} (h : IV l a) : aLen E.T 22 a = .pure (.int .i64 (l.length : Int)) := by
 rcases h with ⟨rfl, rfl⟩ | ⟨ex, rfl⟩ <;> (simp only [aLen, T_22] <;> rfl)
def dfE (l m : List Int) (i : Nat) : Int := if rowF l i = rowF m i then 0 else 1
theorem ZlF {l m : List Int} (hl : l.length = m.length) : fe (dfE l m) 0 l.length = 0 ↔ l = m := by
 rw [Z7C]
 constructor
 · intro h
   refine Z4C hl fun i hi => ?_
   have := h i (by omega) (by omega)
   unfold dfE at this
   split at this
   · assumption
   · exact absurd this (by decide)
 · rintro rfl i _ _
   exact if_pos rfl
abbrev saS (a b : AV) (i : Nat) : St := ([(5, .int .i64 i), (1, b), (0, a)], [])
theorem ZM0 {C : Callee} {l m : List Int} {a b : AV} (ha : IV l a) (hb : IV m b) (hl : l.length ≤ 1000) : rsOf (bodyA E C fg 1000000 24 [a, b] [] 0) = some (.bool (decide (l = m))) := by
 have la := Z7L ha
 have lb := Z7L hb
 by_cases hlm : l.length = m.length
 · have g1 : ¬ (l.length : Int) ≠ m.length := by omega
   have g2 : ((l.length : Int) != m.length) = false := by rw [bne_eq_false_iff_eq]; omega
   have g3 : (l.length : Int) = m.length := by omega
   by_cases h0 : l.length = 0
   · have e1 : l = [] := List.length_eq_zero_iff.1 h0
     have e2 : m = [] := List.length_eq_zero_iff.1 (by omega)
     subst e1 e2
     rw [decide_eq_true rfl]
     have hloop := Za4 (f := (execA E C (fg 24) 0 26 [] 1000000 Z4J)) (E0 := []) (s0 := saS a b 0) (by rcases ha with ⟨_, rfl⟩ | ⟨_, rfl⟩ <;> rcases hb with ⟨_, rfl⟩ | ⟨_, rfl⟩ <;> rfl) (e := .exit 0) (se := ([(14, .bool false), (5, .int .i64 0), (1, b), (0, a)], []))
       (by simp (disch := omega) only [ZF, stp, just, Rd.bind, Rd.run, Rd.opt, upds, Z2, aBin, aInt, Nat.reduceBEq, Nat.reduceEqDiff, Nat.reduceLeDiff, ↓reduceIte, reduceCtorEq, F_24, la, saS, cl0]) (by simp)
     simp only [saS, cl0] at hloop
     simp (disch := omega) only [ZF, Z4, stp, just, Rd.bind, Rd.run, Rd.opt, upds, resA, resL, Z2, aBin, aInt, Nat.reduceBEq, Nat.reduceEqDiff, Nat.reduceLeDiff, ↓reduceIte, reduceCtorEq, F_24, la, lb, hloop]
   · obtain ⟨ea, rfl⟩ := Z0M ha (by omega)
     obtain ⟨eb, rfl⟩ := Z0M hb (by omega)
     have hlen := Z5 l
     have hlen2 := Z5 m
     have hloop := loopE (f := (execA E C (fg 24) 0 26 [] 1000000 Z4J)) (e := dfE l m) (R := fun _ H => ([(4, .bool false)], H)) (saS (.imm (ics l) l.length ea) (.imm (ics m) m.length eb)) l.length (E0 := []) rfl (by omega) (x := .exit 0) (se := ([(14, .bool false), (5, .int .i64 l.length), (1, .imm (ics m) m.length eb), (0, .imm (ics l) l.length ea)], [])) (by simp)
       (fun i hi _ he => by
         have a1 := ZR (l := l) (k := i) hi
         have a2 := ZR (l := m) (k := i) (by omega)
         have k1 : (i : Int) < l.length := by omega
         have k2 : (i : Int) < m.length := by omega
         have hq : rowF l i = rowF m i := by
           unfold dfE at he
           split at he
           · assumption
           · exact absurd he (by decide)
         rw [hq] at a1
         simp (disch := omega) only [ZF, stp, just, Rd.bind, Rd.run, Rd.opt, upds, tsz, rdCells, aLoad, Z3, aNum, aLen, Z2, aBin, aInt, Nat.reduceAdd, Nat.reduceLT, Nat.reduceBEq, Nat.reduceEqDiff, Nat.reduceLeDiff, ↓reduceIte, reduceCtorEq, stpT, Rd.foot, writing, Zm, Tr.empty, Zo, ZT, F_24, saS, k1, k2, a1, a2, hlen, hlen2, Zk (show i < 1000000 by omega)]
         exact ⟨_, rfl, rfl⟩)
       (fun i hi _ he => by
         have a1 := ZR (l := l) (k := i) hi
         have a2 := ZR (l := m) (k := i) (by omega)
         have k1 : (i : Int) < l.length := by omega
         have k2 : (i : Int) < m.length := by omega
         have hq : ¬ rowF l i = rowF m i := fun h => he (if_pos h)
         have hq2 : (rowF l i != rowF m i) = true := by rw [bne_iff_ne]; exact hq
         simp (disch := omega) only [ZF, stp, just, Rd.bind, Rd.run, Rd.opt, upds, tsz, rdCells, aLoad, Z3, aNum, aLen, Z2, aBin, aInt, Nat.reduceAdd, Nat.reduceLT, Nat.reduceBEq, Nat.reduceEqDiff, Nat.reduceLeDiff, ↓reduceIte, reduceCtorEq, stpT, Rd.foot, writing, Zm, Tr.empty, Zo, ZT, F_24, saS, k1, k2, a1, a2, hlen, hlen2, hq2]
         exact ⟨_, rfl⟩)
       (fun _ => by simp (disch := omega) only [ZF, stp, just, Rd.bind, Rd.run, Rd.opt, upds, aLen, Z2, aBin, aInt, Nat.reduceBEq, Nat.reduceEqDiff, Nat.reduceLeDiff, ↓reduceIte, reduceCtorEq, ZT, F_24, saS])
     simp only [saS, cl0] at hloop
     rcases hloop with ⟨hz, hloop⟩ | ⟨hz, H, hloop⟩
     · rw [decide_eq_true ((ZlF hlm).1 hz)]
       simp (disch := omega) only [ZF, Z4, stp, just, Rd.bind, Rd.run, Rd.opt, upds, resA, resL, aLen, Z2, aBin, aInt, Nat.reduceBEq, Nat.reduceEqDiff, Nat.reduceLeDiff, ↓reduceIte, reduceCtorEq, ZT, F_24, hloop, g3]
     · rw [decide_eq_false fun e => hz ((ZlF hlm).2 e)]
       simp (disch := omega) only [ZF, Z4, stp, just, Rd.bind, Rd.run, Rd.opt, upds, resA, resL, aLen, Z2, aBin, aInt, Nat.reduceBEq, Nat.reduceEqDiff, Nat.reduceLeDiff, ↓reduceIte, reduceCtorEq, ZT, F_24, hloop, g3]
 · rw [decide_eq_false fun e => hlm (by rw [e])]
   have g1 : (l.length : Int) ≠ m.length := by omega
   have g2 : ((l.length : Int) != m.length) = true := by rw [bne_iff_ne]; omega
   have g3 : ¬ (l.length : Int) = m.length := by omega
   simp (disch := omega) only [ZF, Z4, stp, just, Rd.bind, Rd.run, Rd.opt, upds, resA, resL, Z2, aBin, aInt, Nat.reduceBEq, Nat.reduceEqDiff, Nat.reduceLeDiff, ↓reduceIte, reduceCtorEq, F_24, la, lb, g2]
theorem Zee {d : Nat} {site : Nat → Nat} {seen : List Nat} {l m : List Int} {a b : AV} (ha : IV l a) (hb : IV m b) (hl : l.length ≤ 1000) : aBack site true seen (thaw (kF (d + 1)) 24 [a, b] [] 0) = .pure (.bool (decide (l = m)), []) :=
 Z3i (Z3j rfl (ZM0 ha hb hl))
end Go.AM.Ytfmnoohhhokicaa
end
noncomputable section
namespace Go.AM.Rub
theorem ZeM (g : Int → Int) {a : Nat → Int} {i j : Nat} (hij : i < j) : ∀ n, ps (fun k => g (mvF a i j k)) n = ps (fun k => g (a k)) n + (if i < n then g (a i - 1) - g (a i) else 0) + (if j < n then g (a j + 1) - g (a j) else 0)
 | 0 => by simp [ps]
 | n + 1 => by
   simp only [ps, ZeM g hij n]
   have e : mvF a i j n = (if n = i then a n - 1 else if n = j then a n + 1 else a n) := rfl
   rw [e]
   by_cases h1 : n = i
   · subst h1
     simp only [if_true, if_pos (Nat.lt_succ_self n), if_neg (Nat.lt_irrefl n), if_neg (show ¬ j < n by omega), if_neg (show ¬ j < n + 1 by omega)]; omega
   · by_cases h2 : n = j
     · subst h2
       simp only [if_neg h1, if_true, if_pos (show i < n by omega), if_pos (show i < n + 1 by omega), if_neg (Nat.lt_irrefl n), if_pos (Nat.lt_succ_self n)]; omega
     · have e1 : (i < n + 1) = (i < n) := by apply propext; omega
       have e2 : (j < n + 1) = (j < n) := by apply propext; omega
       simp only [if_neg h1, if_neg h2, e1, e2]; omega
def sumG (g : Int → Int) : List Int → Int
 | [] => 0
 | x :: l => g x + sumG g l
theorem Zda (g : Int → Int) : ∀ l : List Int, sumG g l = ps (fun k => g (rowF l k)) l.length
 | [] => rfl
 | x :: l => by
   have : ∀ k, ps (fun k => g (rowF (x :: l) k)) (k + 1) = g x + ps (fun k => g (rowF l k)) k := by
     intro k
     induction k with
     | zero => simp [ps, rowF]
     | succ k ih => rw [ps, ih, ps]; simp [rowF]; omega
   rw [sumG, Zda g l, List.length_cons, this]
theorem ZSb (g : Int → Int) {n : Nat} {l : List Int} (h : Rw n l) {i j : Nat} (r : Rb n l i j) : sumG g (mvL l i j) = sumG g l + (g (rowF l i - 1) - g (rowF l i)) + (g (rowF l j + 1) - g (rowF l j)) := by
 have hl := h.len
 have hj : j < l.length := by have := r.lj; omega
 rw [Zda, Zda, Z1v]
 have : ps (fun k => g (rowF (mvL l i j) k)) l.length = ps (fun k => g (mvF (rowF l) i j k)) l.length := Z07 _ fun k _ => by rw [Z2f r.lt hj]
 rw [this, ZeM g r.lt, if_pos (by have := r.lt; omega), if_pos hj]
def Conv (g : Int → Int) : Prop := ∀ x y : Int, 0 ≤ y → x ≤ 8 → x - y ≥ 2 → g (x - 1) + g (y + 1) ≤ g x + g y
theorem ZVe {g : Int → Int} (hg : Conv g) {n : Nat} {b : List Int} (hb : Rw n b) : ∀ (d : Nat) (a : List Int), Rw n a → MajL a b → apL a b = d → sumG g b ≤ sumG g a := by
 intro d
 induction d with
 | zero =>
   intro a ha h hd
   have c := Z8d a b
   have z := (ZcY (a := rowF a) (b := rowF b) a.length).1 (by omega)
   rw [Z4C (by rw [ha.len, hb.len]) (ZMC z h.eq)]
   exact Int.le_refl _
 | succ d ih =>
   intro a ha h hd
   have hne : a ≠ b := fun e => by
     subst e
     have := (ZcY (a := rowF a) (b := rowF a) a.length).2 fun k _ => Int.le_refl _
     unfold apL at hd; omega
   obtain ⟨i, j, r, h1, h2, h3, h4⟩ := ZHX ha hb h hne
   have := ih _ h1 h2 (by omega)
   have e := ZSb g ha r
   have x := ZJ ha.row i (by have := r.lt; have := r.lj; have := ha.len; omega)
   have y := ZJ ha.row j (by have := r.lj; have := ha.len; omega)
   have := hg (rowF a i) (rowF a j) y.1 x.2 r.df
   omega
def pw (x : Int) : Nat → Int
 | 0 => 1
 | k + 1 => pw x k * x
def cntL (t : Int) : List Int → Int
 | [] => 0
 | x :: l => (if x > t then 1 else 0) + cntL t l
def cnjF (l : List Int) (t : Nat) : Int := cntL t l
theorem Zlc (l : List Int) : (∀ x ∈ l, 0 ≤ x) → ∀ k : Nat, ps (cnjF l) k = sumG (fun x => min x k) l := by
 induction l with
 | nil =>
   intro _ k
   induction k with
   | zero => rfl
   | succ k ih => rw [ps, ih]; simp [cnjF, cntL, sumG]
 | cons x l ih =>
   intro h k
   have ih := ih (fun y hy => h y (by simp [hy])) k
   have hx := h x (by simp)
   have e : ∀ k : Nat, ps (cnjF (x :: l)) k = min x k + ps (cnjF l) k := by
     intro k
     induction k with
     | zero => simp only [ps]; omega
     | succ k ihk =>
       rw [ps, ihk, ps]
       simp only [cnjF, cntL]
       split <;> omega
   rw [e, ih]; rfl
theorem ZZ0 {n : Nat} {a b : List Int} (ha : Rw n a) (hb : Rw n b) (h : MajL a b) (k : Nat) : ps (cnjF a) k ≤ ps (cnjF b) k := by
 have nn : ∀ l : List Int, Rw n l → ∀ x ∈ l, 0 ≤ x := fun l hl x hx => by
   obtain ⟨i, hi⟩ := List.mem_iff_getElem?.1 hx
   have hlt := (List.getElem?_eq_some_iff.1 hi).1
   have := ZJ hl.row i hlt
   simp only [rowF, List.getD_eq_getElem?_getD, hi, Option.getD_some] at this
   exact this.1
 rw [Zlc a (nn a ha), Zlc b (nn b hb)]
 have cv : Conv (fun x => -min x (k : Int)) := fun x y h1 h2 h3 => by simp only; omega
 have := ZVe cv hb _ _ ha h rfl
 have e : ∀ l : List Int, sumG (fun x => -min x (k : Int)) l = -sumG (fun x => min x (k : Int)) l := by
   intro l
   induction l with
   | nil => rfl
   | cons x l ih => simp only [sumG, ih]; omega
 rw [e, e] at this
 omega
end Go.AM.Rub
end
noncomputable section
namespace Go.AM.Rub
def lowF (a b : Nat → Int) (k : Nat) : Int := min (ps a (k + 1)) (ps b (k + 1)) - min (ps a k) (ps b k)
def lowL (a b : List Int) : List Int := (List.range a.length).map (lowF (rowF a) (rowF b))
theorem ZE (a b : List Int) : (lowL a b).length = a.length := by simp [lowL]
theorem Z2n {a b : List Int} {k : Nat} (hk : k < a.length) : rowF (lowL a b) k = lowF (rowF a) (rowF b) k := by simp [rowF, lowL, hk]
theorem ZF0 (a b : Nat → Int) : ∀ k, ps (lowF a b) k = min (ps a k) (ps b k)
 | 0 => by simp [ps]
 | k + 1 => by rw [ps, ZF0 a b k, lowF]; omega
theorem Z6Y {a b : List Int} {k : Nat} (hk : k ≤ a.length) : ps (rowF (lowL a b)) k = min (ps (rowF a) k) (ps (rowF b) k) := by
 rw [← ZF0]
 exact Z07 k fun i hi => Z2n (by omega)
theorem ZrZ {n : Nat} {a b : List Int} (ha : Rw n a) (hb : Rw n b) : Rw n (lowL a b) := by
 have la := ha.len
 have lb := hb.len
 have da := Z1n ha.row
 have db := Z1n hb.row
 refine ⟨by rw [ZE, la], Z2i (fun k hk => ?_) (fun hk => ?_) (fun k hk => ?_)⟩
 · rw [ZE] at hk
   rw [Z2n hk, lowF, ps, ps]
   have := ZJ ha.row k hk
   have := ZJ hb.row k (by omega)
   omega
 · rw [ZE] at hk
   rw [Z2n hk, lowF, ps, ps]
   have := ZJ ha.row 0 hk
   have := ZJ hb.row 0 (by omega)
   simp only [ps]
   omega
 · rw [ZE] at hk
   rw [Z2n hk, Z2n (by omega), lowF, lowF]
   have h1 := da k hk
   have h2 := db k (by omega)
   simp only [ps]
   omega
theorem ZwP {n : Nat} {a b : List Int} (ha : Rw n a) (hb : Rw n b) (ht : ps (rowF a) n = ps (rowF b) n) : MajL a (lowL a b) ∧ MajL b (lowL a b) := by
 have la := ha.len
 have lb := hb.len
 unfold MajL
 rw [la, lb]
 refine ⟨⟨?_, fun k hk => ?_⟩, ⟨?_, fun k hk => ?_⟩⟩ <;> rw [Z6Y (by omega)] <;> omega
theorem Z5H {n : Nat} {a b l : List Int} (ha : Rw n a) (hb : Rw n b) (h1 : MajL a l) (h2 : MajL b l) : MajL (lowL a b) l := by
 have la := ha.len
 have lb := hb.len
 unfold MajL at *
 rw [la] at h1
 rw [lb] at h2
 rw [ZE, la]
 refine ⟨?_, fun k hk => ?_⟩
 · rw [Z6Y (by omega)]; have := h1.eq; have := h2.eq; omega
 · rw [Z6Y (by omega)]; have := h1.le k hk; have := h2.le k hk; omega
def cnjL (l : List Int) (many : Nat) : List Int := (List.range many).map (cnjF l)
theorem Zl (l : List Int) (m : Nat) : (cnjL l m).length = m := by simp [cnjL]
theorem Z1Q {l : List Int} {m t : Nat} (ht : t < m) : rowF (cnjL l m) t = cnjF l t := by simp [rowF, cnjL, ht]
theorem Z3R (t : Int) : ∀ l : List Int, 0 ≤ cntL t l ∧ cntL t l ≤ l.length
 | [] => by simp [cntL]
 | x :: l => by
   have := Z3R t l
   simp only [cntL, List.length_cons]
   split <;> omega
theorem Zg0 (t : Int) : ∀ l : List Int, cntL (t + 1) l ≤ cntL t l
 | [] => by simp [cntL]
 | x :: l => by
   have := Zg0 t l
   simp only [cntL]
   split <;> split <;> omega
theorem Z3q {n : Nat} {l : List Int} (h : l.length = n) (hn : n ≤ 8) (m : Nat) : Rw m (cnjL l m) := by
 refine ⟨Zl .., Z2i (fun k hk => ?_) (fun hk => ?_) (fun k hk => ?_)⟩
 · rw [Zl] at hk
   rw [Z1Q hk]; exact (Z3R _ l).1
 · rw [Zl] at hk
   rw [Z1Q hk]
   have := (Z3R ((0 : Nat) : Int) l).2
   unfold cnjF; omega
 · rw [Zl] at hk
   rw [Z1Q hk, Z1Q (by omega)]
   have := Zg0 (k : Int) l
   unfold cnjF
   rw [show ((k + 1 : Nat) : Int) = (k : Int) + 1 by omega]
   exact this
theorem ZI6 : ∀ {m : Int} {l : List Int}, IsRow m l → ∀ (t : Int) (i : Nat), i < l.length → (cntL t l > i ↔ rowF l i > t)
 | _, [], _, t, i, hi => by simp at hi
 | m, x :: l, ⟨h1, h2, h3⟩, t, i, hi => by
   have zero : x ≤ t → cntL t (x :: l) = 0 := fun hx => by
     have : ∀ {m : Int} {l : List Int}, IsRow m l → m ≤ t → cntL t l = 0 := by
       intro m l
       induction l generalizing m with
       | nil => intro _ _; rfl
       | cons y l ih =>
         rintro ⟨_, q, r⟩ hm
         simp only [cntL]
         rw [if_neg (by omega), ih r (by omega)]; rfl
     exact this (m := x) (l := x :: l) ⟨h1, Int.le_refl _, h3⟩ hx
   cases i with
   | zero =>
     have e : rowF (x :: l) 0 = x := by simp [rowF]
     rw [e]
     by_cases hx : x > t
     · have := (Z3R t l).1
       simp only [cntL]; rw [if_pos hx]; omega
     · rw [zero (by omega)]; omega
   | succ i =>
     have e : rowF (x :: l) (i + 1) = rowF l i := by simp [rowF]
     have ih := ZI6 h3 t i (by simpa using hi)
     rw [e]
     by_cases hx : x > t
     · simp only [cntL]; rw [if_pos hx]
       rw [← ih]; omega
     · rw [zero (by omega)]
       have := ZJ h3 i (by simpa using hi)
       omega
theorem Zed (p : Nat → Int) (v : Int) : ∀ m : Nat, cntL v ((List.range m).map p) = ps (fun k => if p k > v then 1 else 0) m
 | 0 => rfl
 | m + 1 => by
   have app : ∀ (l : List Int) (x : Int), cntL v (l ++ [x]) = cntL v l + (if x > v then 1 else 0) := by
     intro l x
     induction l with
     | nil => simp [cntL]
     | cons y l ih => simp only [List.cons_append, cntL, ih]; omega
   rw [List.range_succ, List.map_append, List.map_singleton, app, Zed p v m, ps]
theorem Zpv (v : Int) : ∀ m : Nat, ps (fun k => if v > (k : Int) then 1 else 0) m = max 0 (min v m)
 | 0 => by simp only [ps]; omega
 | m + 1 => by
   rw [ps, Zpv v m]
   split <;> omega
theorem Zdx {n : Nat} {l : List Int} (h : Rw n l) : cnjL (cnjL l 8) n = l := by
 have hl := h.len
 refine Z4C (by rw [Zl, hl]) fun i hi => ?_
 rw [Zl] at hi
 rw [Z1Q hi, cnjF, cnjL, Zed]
 have e : ps (fun k => if cnjF l k > (i : Int) then 1 else 0) 8 = ps (fun k => if rowF l i > (k : Int) then 1 else 0) 8 := Z07 8 fun k _ => by
   have := ZI6 h.row (k : Int) i (by omega)
   unfold cnjF
   by_cases h2 : rowF l i > (k : Int)
   · rw [if_pos h2, if_pos (this.2 h2)]
   · rw [if_neg h2, if_neg fun h3 => h2 (this.1 h3)]
 rw [e, Zpv]
 have := ZJ h.row i (by omega)
 omega
theorem Zsl {k : Int} : ∀ {l : List Int}, (∀ x ∈ l, x ≤ k) → sumG (fun x => min x k) l = totL l
 | [], _ => rfl
 | x :: l, h => by
   have := Zsl (l := l) fun y hy => h y (by simp [hy])
   have := h x (by simp)
   simp only [sumG, totL]; omega
theorem ZyT {m : Int} {l : List Int} (h : IsRow m l) {x : Int} (hx : x ∈ l) : 0 ≤ x ∧ x ≤ m := by
 obtain ⟨i, hi⟩ := List.mem_iff_getElem?.1 hx
 have := ZJ h i (List.getElem?_eq_some_iff.1 hi).1
 simp only [rowF, List.getD_eq_getElem?_getD, hi, Option.getD_some] at this
 exact this
theorem Z79 {n : Nat} {l : List Int} (h : Rw n l) {m : Nat} (hm : ∀ x ∈ l, x ≤ m) : totL (cnjL l m) = totL l := by
 have := Zlc l (fun x hx => (ZyT h.row hx).1) m
 rw [Zsl hm] at this
 rw [← this, ← Z0S, Zl]
 exact Z07 m fun k hk => Z1Q hk
theorem Zop {a b : List Int} (hl : a.length = b.length) : MajL a b → totL a = totL b := fun h => by
 have := h.eq
 rw [Z0S, hl, Z0S] at this
 exact this
theorem Z3Q {n m : Nat} {a b : List Int} (ha : Rw n a) (hb : Rw n b) (h : MajL a b) (ma : ∀ x ∈ a, x ≤ m) (mb : ∀ x ∈ b, x ≤ m) : MajL (cnjL b m) (cnjL a m) := by
 unfold MajL
 rw [Zl]
 have e : ∀ l : List Int, ∀ k, k ≤ m → ps (rowF (cnjL l m)) k = ps (cnjF l) k := fun l k hk => Z07 k fun i hi => Z1Q (by omega)
 refine ⟨?_, fun k hk => ?_⟩
 · have x := Z0S (cnjL b m)
   have y := Z0S (cnjL a m)
   rw [Zl] at x y
   rw [x, y, Z79 ha ma, Z79 hb mb, Zop (by rw [ha.len, hb.len]) h]
 · rw [e _ k hk, e _ k hk]
   exact ZZ0 ha hb h k
def joinL (a b : List Int) : List Int := cnjL (lowL (cnjL a 8) (cnjL b 8)) a.length
theorem ZWX {n : Nat} {a b : List Int} {k : Int} (ha : Rw n a) (hb : Rw n b) (ka : ∀ x ∈ a, x ≤ k) (kb : ∀ x ∈ b, x ≤ k) : ∀ x ∈ lowL a b, x ≤ k := by
 intro x hx
 obtain ⟨i, hi⟩ := List.mem_iff_getElem?.1 hx
 have hlt := (List.getElem?_eq_some_iff.1 hi).1
 rw [ZE] at hlt
 have e := Z2n (b := b) hlt
 have e2 : rowF (lowL a b) i = x := by simp only [rowF, List.getD_eq_getElem?_getD, hi, Option.getD_some]
 have m : ∀ {l : List Int}, i < l.length → rowF l i ∈ l := fun {l} h => by simp [rowF, h]
 have := ka _ (m hlt)
 have := kb _ (m (by rw [hb.len, ← ha.len]; exact hlt))
 rw [e2, lowF, ps, ps] at e
 omega
theorem ZHN {n : Nat} {a b : List Int} (hn : n ≤ 8) (ha : Rw n a) (hb : Rw n b) (ht : totL a = totL b) :
   Rw n (joinL a b) ∧ MajL (joinL a b) a ∧ MajL (joinL a b) b ∧ ∀ l, Rw n l → MajL l a → MajL l b → MajL l (joinL a b) := by
 have la := ha.len
 have lb := hb.len
 have ca := Z3q la hn 8
 have cb := Z3q lb hn 8
 have bd : ∀ {l : List Int}, l.length = n → ∀ x ∈ cnjL l 8, x ≤ n := fun {l} hl x hx => by
   simp only [cnjL, List.mem_map] at hx
   obtain ⟨t, _, rfl⟩ := hx
   have := (Z3R (t : Int) l).2
   unfold cnjF; omega
 have b8 : ∀ {l : List Int}, Rw n l → ∀ x ∈ l, x ≤ ((8 : Nat) : Int) := fun {l} hl x hx => (ZyT hl.row hx).2
 have lo := ZrZ ca cb
 have tt : ps (rowF (cnjL a 8)) 8 = ps (rowF (cnjL b 8)) 8 := by
   have x := Z0S (cnjL a 8)
   have y := Z0S (cnjL b 8)
   rw [Zl] at x y
   rw [x, y, Z79 ha (b8 ha), Z79 hb (b8 hb), ht]
 obtain ⟨l1, l2⟩ := ZwP ca cb tt
 have bl := ZWX ca cb (bd la) (bd lb)
 have j1 := Z3Q ca lo l1 (bd la) bl
 have j2 := Z3Q cb lo l2 (bd lb) bl
 rw [Zdx ha] at j1
 rw [Zdx hb] at j2
 have ej : joinL a b = cnjL (lowL (cnjL a 8) (cnjL b 8)) n := by rw [joinL, la]
 refine ⟨by rw [ej]; exact Z3q (n := 8) lo.len (Nat.le_refl _) n, by rw [ej]; exact j1, by rw [ej]; exact j2, fun l hl h1 h2 => ?_⟩
 have m1 := Z3Q hl ha h1 (b8 hl) (b8 ha)
 have m2 := Z3Q hl hb h2 (b8 hl) (b8 hb)
 have cl := Z3q hl.len hn 8
 have := Z3Q lo cl (Z5H ca cb m1 m2) bl (bd hl.len)
 rw [Zdx hl] at this
 rw [ej]; exact this
end Go.AM.Rub
end
noncomputable section
namespace Go.AM.Ytfmnoohhhokicaa
open Go Go.AM Go.AM.Rub
theorem Zgi {C : Callee} {site : Nat → Nat} {seen : List Nat} {f : FuncId} {args : List AV} {id id' n n' g g' sz sz' : Nat} {cells cells' : List AV} {k : IntKind} {z : Int} {H' : AHeap} (h : C f args [] 0 = some (.tup [.ref id 0 n n g sz false, .ref id' 0 n' n' g' sz' false, .int k z], H')) (hg : hget H' id = some ⟨.row, cells⟩) (hg' : hget H' id' = some ⟨.row, cells'⟩) (hne : id' ≠ id) (hs : site 1 ≠ site 0) (e1 : cells.length = g) (e2 : cells'.length = g') :
   aBack site true seen (thaw C f args [] 0) = Z5k (site 0) (site 1) seen (fun k0 k1 => .tup [.ref k0 0 n n g sz false, .ref k1 0 n' n' g' sz' false, .int k z]) ⟨.row, cells⟩ ⟨.row, cells'⟩ := by
 subst e1; subst e2
 have hb : ∀ off, (site 1 + off == site 0 + off) = false := fun off => by rw [beq_eq_false_iff_ne]; omega
 simp only [thaw, h, frzRet, aBack, sitesB, aBackAt, imp, imps, hg, hg', hne, hb, List.length_nil, List.length_cons, List.not_mem_nil, List.mem_cons, or_false, not_false_eq_true, and_true, if_true, List.map_cons, List.map_nil, AM.apart, List.elem_cons, List.elem_nil, Bool.not_false, Bool.and_true, AV.leads, AV.leads.leadsL, Bool.or_false, Bool.true_or, Nat.zero_add, Z5k]
def pairE (a b : List Int) : Int := if chkR a ≠ 0 then chkR a else if chkR b ≠ 0 then chkR b else if a.length ≠ b.length then 5 else if ps (rowF a) a.length ≠ ps (rowF b) b.length then 17 else 0
theorem Z5m {a b : List Int} : pairE a b = 0 ↔ ∃ n, 0 < n ∧ n ≤ 6 ∧ Rw n a ∧ Rw n b ∧ ps (rowF a) n = ps (rowF b) n := by
 unfold pairE
 by_cases ha : chkR a = 0
 · rw [if_neg (fun e => e ha)]
   by_cases hb : chkR b = 0
   · rw [if_neg (fun e => e hb)]
     obtain ⟨a1, a2, a3⟩ := Z00.1 ha
     obtain ⟨b1, b2, b3⟩ := Z00.1 hb
     by_cases hl : a.length = b.length
     · rw [if_neg (fun e => e hl)]
       by_cases hs : ps (rowF a) a.length = ps (rowF b) b.length
       · rw [if_neg (fun e => e hs)]
         rw [← hl] at hs b3
         exact ⟨fun _ => ⟨a.length, a1, a2, a3, b3, hs⟩, fun _ => rfl⟩
       · rw [if_pos hs]
         refine ⟨fun e => absurd e (by decide), fun ⟨n, _, _, r1, r2, r3⟩ => ?_⟩
         rw [r1.len, r2.len] at hs; exact absurd r3 hs
     · rw [if_pos hl]
       refine ⟨fun e => absurd e (by decide), fun ⟨n, _, _, r1, r2, r3⟩ => ?_⟩
       rw [r1.len, r2.len] at hl; exact absurd rfl hl
   · rw [if_pos hb]
     refine ⟨fun e => absurd e hb, fun ⟨n, h0, h6, r1, r2, r3⟩ => absurd (Z00.2 ⟨by rw [r2.len]; exact h0, by rw [r2.len]; exact h6, by rw [r2.len]; exact r2⟩) hb⟩
 · rw [if_pos ha]
   refine ⟨fun e => absurd e ha, fun ⟨n, h0, h6, r1, r2, r3⟩ => absurd (Z00.2 ⟨by rw [r1.len]; exact h0, by rw [r1.len]; exact h6, by rw [r1.len]; exact r1⟩) ha⟩
theorem ZKc {d : Nat} {l m : List Int} {a b : AV} (ha : IV l a) (hb : IV m b) (hl : l.length ≤ 1000) (hm : m.length ≤ 1000) :
   (pairE l m ≠ 0 ∧ ∃ H, bodyA E (kF (d + 1)) fg 1000000 85 [a, b] [] 0 = some (.tup [.nilsl, .nilsl, .int .i64 (pairE l m)], H)) ∨
   (pairE l m = 0 ∧ ∃ H, bodyA E (kF (d + 1)) fg 1000000 85 [a, b] [] 0 = some (.tup [.ref 20 0 (l.length + 1) (l.length + 1) (l.length + 1) 1 false, .ref 22 0 (m.length + 1) (m.length + 1) (m.length + 1) 1 false, .int .i64 0], H) ∧ hget H 20 = some ⟨.row, ics (riL l)⟩ ∧ hget H 22 = some ⟨.row, ics (riL m)⟩) := by
 have hc1 := fun (site : Nat → Nat) seen => Z3k (d := d) (site := site) (seen := seen) ha hl
 have hc2 := fun (site : Nat → Nat) seen => Z3k (d := d) (site := site) (seen := seen) hb hm
 have sa := ZI ha
 have sb := ZI hb
 unfold pairE
 by_cases h1 : chkR l = 0
 · rw [if_neg (fun e => e h1)]
   rw [h1] at hc1
   obtain ⟨a1, a2, a3⟩ := Z00.1 h1
   by_cases h2 : chkR m = 0
   · rw [if_neg (fun e => e h2)]
     rw [h2] at hc2
     obtain ⟨b1, b2, b3⟩ := Z00.1 h2
     have r1 := fun (site : Nat → Nat) seen => Z25 (d := d) (site := site) (seen := seen) ha a3 (by omega)
     have r2 := fun (site : Nat → Nat) seen => Z25 (d := d) (site := site) (seen := seen) hb b3 (by omega)
     obtain ⟨ea, rfl⟩ := Z0M ha a1
     obtain ⟨eb, rfl⟩ := Z0M hb b1
     have l1 := Z5 l
     have l2 := Z5 m
     have l3 := Z1o l
     have l4 := Z1o m
     generalize kF (d + 1) = C at *
     by_cases h3 : l.length = m.length
     · rw [if_neg (fun e => e h3)]
       have g1 : ¬ (l.length : Int) ≠ m.length := by omega
       have g2 : ((l.length : Int) != m.length) = false := by rw [bne_eq_false_iff_eq]; omega
       have g3 : (l.length : Int) = m.length := by omega
       have g4 : (l.length : Int) < ((l.length + 1 : Nat) : Int) := by omega
       have g5 : (m.length : Int) < ((m.length + 1 : Nat) : Int) := by omega
       have t1 : (ics (riL l))[l.length]? = some (.int .i64 (ps (rowF l) l.length)) := Z1F (Z2P (Nat.le_refl _))
       have t2 : (ics (riL m))[m.length]? = some (.int .i64 (ps (rowF m) m.length)) := Z1F (Z2P (Nat.le_refl _))
       by_cases h4 : ps (rowF l) l.length = ps (rowF m) m.length
       · rw [if_neg (fun e => e h4)]
         refine .inr ⟨rfl, ?_⟩
         generalize ps (rowF l) l.length = p at *
         generalize ps (rowF m) m.length = q at *
         subst h4
         simp (disch := omega) only [ZF, Z4, stp, just, Rd.bind, Rd.run, Rd.opt, upds, tsz, rdCells, aLoad, resA, resL, Z3, aNum, aLen, Z2, aBin, aInt, Nat.reduceAdd, Nat.reduceLT, Nat.reduceBEq, Nat.reduceEqDiff, Nat.reduceLeDiff, ↓reduceIte, reduceCtorEq, stpT, Rd.foot, writing, Zm, Tr.empty, Zo, apartT, disj, aCall, snaps, ZT, F_85, hc1, hc2, r1, r2, l3, l4, g2, g4, g5, t1, t2]
         exact ⟨_, rfl, rfl, rfl⟩
       · rw [if_pos h4]
         refine .inl ⟨by decide, ?_⟩
         generalize ps (rowF l) l.length = p at *
         generalize ps (rowF m) m.length = q at *
         have h4' : (p != q) = true := by rw [bne_iff_ne]; exact h4
         simp (disch := omega) only [ZF, Z4, stp, just, Rd.bind, Rd.run, Rd.opt, upds, tsz, rdCells, aLoad, resA, resL, Z3, aNum, aLen, Z2, aBin, aInt, Nat.reduceAdd, Nat.reduceLT, Nat.reduceBEq, Nat.reduceEqDiff, Nat.reduceLeDiff, ↓reduceIte, reduceCtorEq, stpT, Rd.foot, writing, Zm, Tr.empty, Zo, apartT, disj, aCall, snaps, ZT, F_85, hc1, hc2, r1, r2, l3, l4, g2, g4, g5, h4', t1, t2]
         exact ⟨_, rfl⟩
     · rw [if_pos h3]
       refine .inl ⟨by decide, ?_⟩
       have g1 : (l.length : Int) ≠ m.length := by omega
       have g2 : ((l.length : Int) != m.length) = true := by rw [bne_iff_ne]; omega
       have g3 : ¬ (l.length : Int) = m.length := by omega
       simp (disch := omega) only [ZF, Z4, stp, just, Rd.bind, Rd.run, Rd.opt, upds, tsz, rdCells, aLoad, resA, resL, Z3, aNum, aLen, Z2, aBin, aInt, Nat.reduceAdd, Nat.reduceLT, Nat.reduceBEq, Nat.reduceEqDiff, Nat.reduceLeDiff, ↓reduceIte, reduceCtorEq, stpT, Rd.foot, aCall, snaps, ZT, F_85, hc1, hc2, r1, r2, l3, g2, if_pos]
       exact ⟨_, rfl⟩
   · rw [if_pos h2]
     refine .inl ⟨h2, ?_⟩
     generalize kF (d + 1) = C at *
     generalize chkR m = z at *
     have h0' : (z == 0) = false := by rw [beq_eq_false_iff_ne]; exact h2
     simp (disch := omega) only [ZF, Z4, stp, just, Rd.bind, Rd.run, Rd.opt, upds, resA, resL, aBin, aInt, Nat.reduceBEq, Nat.reduceEqDiff, Nat.reduceLeDiff, ↓reduceIte, reduceCtorEq, aCall, snaps, F_85, hc1, hc2, h2, sa 198, sb 198]
     exact ⟨_, rfl⟩
 · rw [if_pos h1]
   refine .inl ⟨h1, ?_⟩
   generalize kF (d + 1) = C at *
   generalize chkR l = z at *
   have h0' : (z == 0) = false := by rw [beq_eq_false_iff_ne]; exact h1
   simp (disch := omega) only [ZF, Z4, stp, just, Rd.bind, Rd.run, Rd.opt, upds, resA, resL, aBin, aInt, Nat.reduceBEq, Nat.reduceEqDiff, Nat.reduceLeDiff, ↓reduceIte, reduceCtorEq, aCall, snaps, F_85, hc1, h1, sa 198]
   exact ⟨_, rfl⟩
def PaC (C : Callee) (a b : AV) (l m : List Int) : Prop :=
 (pairE l m ≠ 0 ∧ ∀ (site : Nat → Nat) seen, aBack site true seen (thaw C 85 [a, b] [] 0) = .pure (.tup [.nilsl, .nilsl, .int .i64 (pairE l m)], [])) ∨
 (pairE l m = 0 ∧ ∀ (site : Nat → Nat) seen, site 1 ≠ site 0 → aBack site true seen (thaw C 85 [a, b] [] 0) = Z5k (site 0) (site 1) seen (fun k k' => .tup [.ref k 0 (l.length + 1) (l.length + 1) (l.length + 1) 1 false, .ref k' 0 (m.length + 1) (m.length + 1) (m.length + 1) 1 false, .int .i64 0]) ⟨.row, ics (riL l)⟩ ⟨.row, ics (riL m)⟩)
theorem paC {d : Nat} {l m : List Int} {a b : AV} (ha : IV l a) (hb : IV m b) (hl : l.length ≤ 1000) (hm : m.length ≤ 1000) : PaC (kF (d + 2)) a b l m := by
 rcases ZKc (d := d) ha hb hl hm with ⟨h, H, h1⟩ | ⟨h, H, h1, h2, h3⟩
 · exact .inl ⟨h, fun site seen => Z0m (by rw [ZW rfl]; exact h1) rfl (fun _ => rfl) rfl⟩
 · exact .inr ⟨h, fun site seen hs => Zgi (by rw [ZW rfl]; exact h1) h2 h3 (by decide) hs (Z1o l) (Z1o m)⟩
end Go.AM.Ytfmnoohhhokicaa
end
noncomputable section
namespace Go.AM.Ytfmnoohhhokicaa
open Go Go.AM Go.AM.Rub
theorem ZJb (d : Nat) : ([1, 2, 3, 4, 5, 6].all fun n => match kF (d + 4) 111 [.int .u64 n] [] 0 with | some (.int .i64 _, _) => true | _ => false) = true := by kernel_rfl
end Go.AM.Ytfmnoohhhokicaa
end
noncomputable section
namespace Go.AM
theorem loopE {E0 : AHeap} {f : St → XR} (st : Nat → St) (n : Nat) (h : ∀ i, i < n → ∃ s', f (st i) = some (.normal, s') ∧ headA E0 s' = st (i + 1)) (h0 : headA E0 (st 0) = st 0) (hn : n < 1000) {e : Ex} {se : St} (he : f (st n) = some (e, se)) (hne : e ≠ .normal) :
   iterA f (headA E0) 1000 (st 0) = some (e, se) :=
 Z5r st n 1000 0 (st 0) h0 hn (fun i _ hi => h i (by omega)) (by rw [Nat.zero_add]; exact he) hne
end Go.AM
end
noncomputable section
namespace Go.AM.Ytfmnoohhhokicaa
open Go Go.AM Go.AM.Rub
def lcs (L : List (List Int)) : List AV := L.map fun l => .imm (ics l) l.length false
theorem ZZ (L : List (List Int)) : (lcs L).length = L.length := by simp [lcs]
theorem Z8G {L : List (List Int)} {k : Nat} {l : List Int} (h : L[k]? = some l) : (lcs L)[k]? = some (.imm (ics l) l.length false) := by simp [lcs, h]
theorem Zjb (L : List (List Int)) (l : List Int) : lcs L ++ [.imm (ics l) l.length false] = lcs (L ++ [l]) := by simp [lcs]
theorem Zej (L : List (List Int)) : (lcs L).take L.length = lcs L := List.take_of_length_le (by rw [ZZ]; exact Nat.le_refl _)
theorem Z4E {n : Nat} (h : n ≤ 1000000) : roomOk E.T 22 n = true := by
 simp only [roomOk, T_22, decide_eq_true_eq]; exact ⟨by decide, rfl, by omega⟩
theorem Z3n {k : Nat} {L : List (List Int)} (h : 0 < L.length) : oH k (lcs L) = [(k, ⟨.row, lcs L⟩)] := ZRy k (by rw [ZZ]; exact h)
end Go.AM.Ytfmnoohhhokicaa
end
noncomputable section
namespace Go.AM.Ytfmnoohhhokicaa
open Go Go.AM Go.AM.Rub
theorem Z5T {d : Nat} {site : Nat → Nat} {seen : List Nat} {n : Nat} {l : List Int} (h : Rw n l) (hn : n ≤ 8) {ex : Bool} : aBack site true seen (thaw (kF (d + 1)) 80 [.imm (ics l) n ex] [] 0) = .pure (.int .i64 (ps (rowF l) n), []) := by
 have := Z2R (d := d) (site := site) (seen := seen) h hn (Nat.le_refl n) (ex := ex)
 rw [List.take_of_length_le (by rw [h.len]; exact Nat.le_refl _)] at this
 exact this
theorem Z026 {d : Nat} {l m : List Int} {a b : AV} (ha : IV l a) (hb : IV m b) (hl : l.length ≤ 1000) (hm : m.length ≤ 1000) : rsOf (bodyA E (kF (d + 2)) fg 1000000 87 [a, b] [] 0) = some (.int .i64 (pairE l m)) := by
 have hc1 := fun (site : Nat → Nat) seen => Z2y (d := d) (site := site) (seen := seen) ha hl
 have hc2 := fun (site : Nat → Nat) seen => Z2y (d := d) (site := site) (seen := seen) hb hm
 have sa := ZI ha
 have sb := ZI hb
 have la := Z7L ha
 have lb := Z7L hb
 unfold pairE
 by_cases h1 : chkR l = 0
 · rw [if_neg (fun e => e h1)]
   by_cases h2 : chkR m = 0
   · rw [if_neg (fun e => e h2)]
     obtain ⟨p1, q1, r1⟩ := Z00.1 h1
     obtain ⟨p2, q2, r2⟩ := Z00.1 h2
     obtain ⟨x, rfl⟩ := Z0M ha p1
     obtain ⟨y, rfl⟩ := Z0M hb p2
     have s1 := fun (site : Nat → Nat) seen x => Z5T (d := d + 1) (site := site) (seen := seen) (ex := x) r1 (by omega)
     have s2 := fun (site : Nat → Nat) seen x => Z5T (d := d + 1) (site := site) (seen := seen) (ex := x) r2 (by omega)
     rw [h1] at hc1
     rw [h2] at hc2
     by_cases h3 : l.length = m.length
     · have g2 : ((l.length : Int) != m.length) = false := by rw [bne_eq_false_iff_eq]; omega
       rw [if_neg (fun e => e h3)]
       by_cases h4 : ps (rowF l) l.length = ps (rowF m) m.length
       · have g4 : (ps (rowF l) l.length != ps (rowF m) m.length) = false := by rw [bne_eq_false_iff_eq]; exact h4
         rw [if_neg (fun e => e h4)]
         generalize ps (rowF l) l.length = u at *
         generalize ps (rowF m) m.length = v at *
         generalize kF (d + 2) = C at *
         simp (disch := omega) only [ZF, ↓gd, Z4, stp, opPick, just, Rd.bind, Rd.run, Rd.opt, upds, resA, resL, Z2, aBin, aInt, Nat.reduceBEq, Nat.reduceEqDiff, Nat.reduceLeDiff, ↓reduceIte, reduceCtorEq, aCall, snaps, F_87, hc1, hc2, la, lb, g2, s1, s2, g4]
       · have g4 : (ps (rowF l) l.length != ps (rowF m) m.length) = true := by rw [bne_iff_ne]; exact h4
         rw [if_pos h4]
         generalize ps (rowF l) l.length = u at *
         generalize ps (rowF m) m.length = v at *
         generalize kF (d + 2) = C at *
         simp (disch := omega) only [ZF, ↓gd, Z4, stp, opPick, just, Rd.bind, Rd.run, Rd.opt, upds, resA, resL, Z2, aBin, aInt, Nat.reduceBEq, Nat.reduceEqDiff, Nat.reduceLeDiff, ↓reduceIte, reduceCtorEq, aCall, snaps, F_87, hc1, hc2, la, lb, g2, s1, s2, g4]
     · have g2 : ((l.length : Int) != m.length) = true := by rw [bne_iff_ne]; omega
       rw [if_pos h3]
       generalize kF (d + 2) = C at *
       simp (disch := omega) only [ZF, ↓gd, Z4, stp, opPick, just, Rd.bind, Rd.run, Rd.opt, upds, resA, resL, Z2, aBin, aInt, Nat.reduceBEq, Nat.reduceEqDiff, Nat.reduceLeDiff, ↓reduceIte, reduceCtorEq, aCall, snaps, Int.reduceEq, F_87, hc1, hc2, la, lb, g2]
   · rw [if_pos h2]
     rw [h1] at hc1
     generalize kF (d + 2) = C at *
     generalize chkR m = z at *
     have h0' : (z == 0) = false := by rw [beq_eq_false_iff_ne]; exact h2
     simp (disch := omega) only [ZF, ↓gd, Z4, stp, opPick, just, Rd.bind, Rd.run, Rd.opt, upds, resA, resL, aBin, aInt, Nat.reduceBEq, Nat.reduceEqDiff, Nat.reduceLeDiff, ↓reduceIte, reduceCtorEq, aCall, snaps, F_87, hc1, hc2, h0', sa 198, sb 198]
 · rw [if_pos h1]
   generalize kF (d + 2) = C at *
   generalize chkR l = z at *
   have h0' : (z == 0) = false := by rw [beq_eq_false_iff_ne]; exact h1
   simp (disch := omega) only [ZF, ↓gd, Z4, stp, opPick, just, Rd.bind, Rd.run, Rd.opt, upds, resA, resL, aBin, aInt, Nat.reduceBEq, Nat.reduceEqDiff, Nat.reduceLeDiff, ↓reduceIte, reduceCtorEq, aCall, snaps, F_87, hc1, h0', sa 198]
theorem ZML {d : Nat} {site : Nat → Nat} {seen : List Nat} {l m : List Int} {a b : AV} (ha : IV l a) (hb : IV m b) (hl : l.length ≤ 1000) (hm : m.length ≤ 1000) : aBack site true seen (thaw (kF (d + 3)) 87 [a, b] [] 0) = .pure (.int .i64 (pairE l m), []) :=
 Z4o (Z3j rfl (Z026 ha hb hl hm))
def abE (a b : List Int) (k : Nat) : Int := if ps (rowF a) k < ps (rowF b) k then 1 else 0
theorem ZJk {n : Nat} {a b : List Int} (ha : Rw n a) (he : ps (rowF a) n = ps (rowF b) n) : fe (abE a b) 0 (n + 1) = 0 ↔ MajL a b := by
 rw [Z7C]
 constructor
 · intro h
   refine ⟨by rw [ha.len]; exact he, fun k hk => ?_⟩
   rw [ha.len] at hk
   have := h k (by omega) (by omega)
   unfold abE at this
   split at this
   · exact absurd this (by decide)
   · omega
 · intro h i _ hi
   have := h.le i (by rw [ha.len]; omega)
   unfold abE
   rw [if_neg (by omega)]
abbrev abS (a b : List Int) (n : Nat) (x y : Bool) (i : Nat) : St := ([(5, .int .i64 i), (1, .imm (ics b) n y), (0, .imm (ics a) n x)], [])
theorem ZHe {d : Nat} {a b : List Int} {n : Nat} {x y : Bool} (ha : Rw n a) (hb : Rw n b) (hn : n ≤ 8) : rsOf (bodyA E (kF (d + 1)) fg 1000000 118 [.imm (ics a) n x, .imm (ics b) n y] [] 0) = some (.bool (decide (fe (abE a b) 0 (n + 1) = 0))) := by
 have la : (ics a).length = n := by rw [Z5, ha.len]
 have lb : (ics b).length = n := by rw [Z5, hb.len]
 have hloop := loopE (f := execA E (kF (d + 1)) (fg 118) 0 21 [] 1000000 Z5Y) (e := abE a b) (R := fun _ H => ([(4, .bool false)], H)) (abS a b n x y) (n + 1) (E0 := []) rfl (by omega) (x := .exit 0) (se := ([(9, .bool false), (5, .int .i64 (n + 1 : Nat)), (1, .imm (ics b) n y), (0, .imm (ics a) n x)], [])) (by simp)
   (fun i hi _ he => by
     have ta := fun (site : Nat → Nat) seen x => Z2R (d := d) (site := site) (seen := seen) (ex := x) ha hn (show i ≤ n by omega)
     have tb := fun (site : Nat → Nat) seen x => Z2R (d := d) (site := site) (seen := seen) (ex := x) hb hn (show i ≤ n by omega)
     have a1 : List.take i (ics a) = ics (a.take i) := Z5e a _
     have b1 : List.take i (ics b) = ics (b.take i) := Z5e b _
     have g1 : (i : Int) ≤ n := by omega
     have g2 : (0 : Int) ≤ (i : Int) ∧ (i : Int) ≤ (n : Int) := by omega
     have g3 : ¬ ps (rowF a) i < ps (rowF b) i := fun h => by unfold abE at he; rw [if_pos h] at he; exact absurd he (by decide)
     generalize kF (d + 1) = C at *
     generalize ps (rowF a) i = u at *
     generalize ps (rowF b) i = v at *
     simp (disch := omega) only [ZF, stp, just, Rd.bind, Rd.run, Rd.opt, upds, tsz, aNum, aLen, Z2, aBin, aInt, Nat.reduceAdd, Nat.reduceBEq, Nat.reduceEqDiff, Nat.reduceLeDiff, ↓reduceIte, reduceCtorEq, stpT, Rd.foot, writing, Zm, Tr.empty, Zo, window, aCall, snaps, aSlice, aBounds, bMax, bHigh, bLow, ZT, Z9q, abS, la, lb, ta, tb, a1, b1, g1, g2, g3, Zk (show i < 1000000 by omega)]
     exact ⟨_, rfl, rfl⟩)
   (fun i hi _ he => by
     have ta := fun (site : Nat → Nat) seen x => Z2R (d := d) (site := site) (seen := seen) (ex := x) ha hn (show i ≤ n by omega)
     have tb := fun (site : Nat → Nat) seen x => Z2R (d := d) (site := site) (seen := seen) (ex := x) hb hn (show i ≤ n by omega)
     have a1 : List.take i (ics a) = ics (a.take i) := Z5e a _
     have b1 : List.take i (ics b) = ics (b.take i) := Z5e b _
     have g1 : (i : Int) ≤ n := by omega
     have g2 : (0 : Int) ≤ (i : Int) ∧ (i : Int) ≤ (n : Int) := by omega
     have g3 : ps (rowF a) i < ps (rowF b) i := Classical.byContradiction fun h => he (by unfold abE; rw [if_neg h])
     generalize kF (d + 1) = C at *
     generalize ps (rowF a) i = u at *
     generalize ps (rowF b) i = v at *
     simp (disch := omega) only [ZF, stp, just, Rd.bind, Rd.run, Rd.opt, upds, tsz, aNum, aLen, Z2, aBin, aInt, Nat.reduceAdd, Nat.reduceBEq, Nat.reduceEqDiff, Nat.reduceLeDiff, ↓reduceIte, reduceCtorEq, stpT, Rd.foot, writing, Zm, Tr.empty, Zo, window, aCall, snaps, aSlice, aBounds, bMax, bHigh, bLow, ZT, Z9q, abS, la, lb, ta, tb, a1, b1, g1, g2, g3]
     exact ⟨_, rfl⟩)
   (fun _ => by
     have g1 : ¬ (((n + 1 : Nat) : Int) ≤ n) := by omega
     generalize kF (d + 1) = C at *
     simp (disch := omega) only [ZF, stp, just, Rd.bind, Rd.run, Rd.opt, upds, aLen, Z2, aBin, aInt, Nat.reduceBEq, Nat.reduceEqDiff, Nat.reduceLeDiff, ↓reduceIte, reduceCtorEq, ZT, Z9q, abS, g1])
 simp only [abS, cl0] at hloop
 generalize kF (d + 1) = C at *
 rcases hloop with ⟨hz, hloop⟩ | ⟨hz, H, hloop⟩
 · rw [decide_eq_true hz]
   simp (disch := omega) only [ZF, Z4, resA, resL, Nat.reduceBEq, Nat.reduceEqDiff, Nat.reduceLeDiff, ↓reduceIte, Z9q, hloop]
 · rw [decide_eq_false hz]
   simp (disch := omega) only [ZF, Z4, resA, resL, Nat.reduceBEq, Nat.reduceEqDiff, Nat.reduceLeDiff, ↓reduceIte, Z9q, hloop]
theorem ZDi {d : Nat} {site : Nat → Nat} {seen : List Nat} {a b : List Int} {n : Nat} {x y : Bool} (ha : Rw n a) (hb : Rw n b) (hn : n ≤ 8) : aBack site true seen (thaw (kF (d + 2)) 118 [.imm (ics a) n x, .imm (ics b) n y] [] 0) = .pure (.bool (decide (fe (abE a b) 0 (n + 1) = 0)), []) :=
 Z3i (Z3j rfl (ZHe ha hb hn))
end Go.AM.Ytfmnoohhhokicaa
end
noncomputable section
namespace Go.AM.Rub
def ad (out : List (List Int)) (l : List Int) : List (List Int) := if l ∈ out then out else out ++ [l]
end Go.AM.Rub
end
noncomputable section
namespace Go.AM.Ytfmnoohhhokicaa
open Go Go.AM Go.AM.Rub
theorem ocvL (k : Nat) (L : List (List Int)) : (L = [] ∧ oV k 1 L.length = .nilsl ∧ oH k (lcs L) = []) ∨ (0 < L.length ∧ oV k 1 L.length = .ref k 0 L.length L.length L.length 1 false ∧ oH k (lcs L) = [(k, ⟨.row, lcs L⟩)]) := by
 cases L with
 | nil => exact .inl ⟨rfl, rfl, rfl⟩
 | cons x L => exact .inr ⟨by simp, Z14 (by simp), Z3n (by simp)⟩
end Go.AM.Ytfmnoohhhokicaa
end
noncomputable section
namespace Go.AM.Rub
def fuR (l : List Int) (m : Nat) (left most : Int) : List (List Int) := (rowsL m left most).map (l ++ ·)
theorem Z03v (m : Nat) (left most : Int) : fuR [] m left most = rowsL m left most := by
 unfold fuR; simp
theorem ZLJ (l : List Int) (m : Nat) (left most : Int) : fuR l (m + 1) left most = (dn (min most left)).flatMap fun t => fuR (l ++ [t]) m (left - t) t := by
 unfold fuR
 simp only [rowsL, List.map_flatMap, List.map_map]
 congr 1
 funext t
 congr 1
 funext r
 simp
def fuP (l : List Int) (m : Nat) (left : Int) (m0 : Nat) (j : Nat) : List (List Int) := (List.range j).flatMap fun (i : Nat) => fuR (l ++ [((m0 : Int) - i)]) m (left - ((m0 : Int) - i)) ((m0 : Int) - i)
theorem ZqM (l : List Int) (m : Nat) (left : Int) (m0 j : Nat) : fuP l m left m0 (j + 1) = fuP l m left m0 j ++ fuR (l ++ [((m0 : Int) - j)]) m (left - ((m0 : Int) - j)) ((m0 : Int) - j) := by
 unfold fuP
 rw [List.range_succ, List.flatMap_append]
 simp
theorem Z2Q : ∀ n : Nat, dnN n = (List.range (n + 1)).map fun (i : Nat) => (n : Int) - i
 | 0 => rfl
 | n + 1 => by
   have h : List.range (n + 1 + 1) = 0 :: (List.range (n + 1)).map Nat.succ := List.range_succ_eq_map
   rw [dnN, Z2Q n, h, List.map_cons, List.map_map]
   congr 1
   apply List.map_congr_left
   intro a _
   simp only [Function.comp_apply]
   omega
theorem Z01e (l : List Int) (m : Nat) {left most : Int} {m0 : Nat} (h : min most left = m0) : fuP l m left m0 (m0 + 1) = fuR l (m + 1) left most := by
 rw [ZLJ, h]
 unfold fuP dn
 rw [if_neg (by omega), Int.toNat_natCast, Z2Q, List.flatMap_map]
theorem ZZN (l : List Int) (m : Nat) (left most : Int) (h : most ≤ 8) : (fuR l m left most).length ≤ 9 ^ m := by
 unfold fuR
 rw [List.length_map]
 exact Z45 m left most h
theorem ZBa (l : List Int) (m : Nat) (left : Int) (m0 : Nat) (h : m0 ≤ 8) : ∀ j, j ≤ m0 + 1 → (fuP l m left m0 j).length ≤ j * 9 ^ m
 | 0, _ => by simp [fuP]
 | j + 1, hj => by
   have ih := ZBa l m left m0 h j (by omega)
   have := ZZN (l ++ [((m0 : Int) - j)]) m (left - ((m0 : Int) - j)) ((m0 : Int) - j) (by omega)
   rw [ZqM, List.length_append, Nat.succ_mul]
   omega
end Go.AM.Rub
end
noncomputable section
namespace Go.AM.Ytfmnoohhhokicaa
open Go Go.AM Go.AM.Rub
def cz (l : List Int) : AV := if l = [] then .nilsl else .imm (ics l) l.length false
def lcz (L : List (List Int)) : List AV := L.map cz
theorem Z3d (L : List (List Int)) : (lcz L).length = L.length := by simp [lcz]
theorem Z07P {L : List (List Int)} {k : Nat} {l : List Int} (h : L[k]? = some l) : (lcz L)[k]? = some (cz l) := by simp [lcz, h]
theorem ZAA {L : List (List Int)} (h : ∀ l ∈ L, l ≠ []) : lcz L = lcs L := by
 unfold lcz lcs
 apply List.map_congr_left
 intro l hl
 unfold cz
 rw [if_neg (h l hl)]
def RrC (C : Callee) (n : Nat) (s m : Int) : Prop := ∀ (site : Nat → Nat) seen, aBack site true seen (thaw C 97 [.int .i64 n, .int .i64 s, .int .i64 m] [] 0) =
 if rowsL n s m = [] then .pure (.nilsl, []) else Z0I (site 0) seen (fun k => .ref k 0 (rowsL n s m).length (rowsL n s m).length (rowsL n s m).length 1 false) ⟨.row, lcz (rowsL n s m)⟩
abbrev rqI (n : Nat) (s t : Int) (L out : List (List Int)) (i : Nat) : St := ([(10, .int .i64 i), (9, .ref 29 0 L.length L.length L.length 1 false), (8, .int .i64 t), (7, oV 45 1 out.length), (1, .int .i64 s), (0, .int .i64 n)], (29, ⟨.row, lcz L⟩) :: oH 45 (lcs out))
theorem Z0fB {C : Callee} {n : Nat} {s t : Int} {L out : List (List Int)} (hL : L.length ≤ 900000) (ho : out.length ≤ 900000) (i : Nat) {x : List Int} (hi : L[i]? = some x) (hx : x.length ≤ 100) :
   ∃ s', (execA E C (fg 97) 0 47 [] 1000000 Z3K) (rqI n s t L out i) = some (.normal, s') ∧ headA [] s' = rqI n s t L (out ++ [[t] ++ x]) (i + 1) := by
 have hil := (List.getElem?_eq_some_iff.1 hi).1
 have hat := Z07P hi
 have hlL := Z3d L
 have g1 : (i : Int) < L.length := by omega
 have e1 : ics [t] = [.int .i64 t] := rfl
 have eapp : ics ([t] ++ x) = .int .i64 t :: ics x := rfl
 have hsn := Zjb out ([t] ++ x)
 have hlx : ([t] ++ x).length = x.length + 1 := by simp
 have hlo := ZZ out
 have hto := Zej out
 have hno : ¬ out.length + 1 ≤ out.length := by omega
 have o1' : oV 45 1 (out ++ [[t] ++ x]).length = .ref 45 0 (out.length + 1) (out.length + 1) (out.length + 1) 1 false := by rw [Z14 (by simp)]; simp
 have o2' : oH 45 (lcs (out ++ [[t] ++ x])) = [(45, ⟨.row, lcs (out ++ [[t] ++ x])⟩)] := Z3n (by simp)
 have hlix : (ics x).length = x.length := Z5 x
 have htx : List.take x.length (ics x) = ics x := List.take_of_length_le (by omega)
 have hrm := Z4E (show out.length + 1 ≤ 1000000 by omega)
 have l1 : (AV.int .i64 t :: ics x).length = x.length + 1 := by rw [List.length_cons, hlix]
 have t1 : List.take (x.length + 1) (AV.int .i64 t :: ics x) = .int .i64 t :: ics x := List.take_of_length_le (by omega)
 simp only [rqI]
 rw [o1', o2', ← hsn, hlx, eapp]
 by_cases hx0 : x = []
 · subst hx0
   have ec : cz [] = .nilsl := rfl
   have ei : ics ([] : List Int) = [] := rfl
   rw [ec] at hat
   rw [ei, List.length_nil]
   rcases ocvL 45 out with ⟨hm, o1, o2⟩ | ⟨_, o1, o2⟩ <;> rw [o1, o2]
   · subst hm
     have z1 : lcs [] = [] := rfl
     have z2 : ([] : List (List Int)).length = 0 := rfl
     rw [z1, z2]
     simp only [List.nil_append, Nat.zero_add]
     generalize lcz L = LL at *
     generalize L.length = ll at *
     simp (disch := omega) only [ZF, stp, just, Rd.bind, Rd.run, Rd.opt, upds, acells, zeroCells, tsz, elemT, rdCells, aLoad, fresh, Z3, aNum, aLen, Z2, aBin, aInt, putC, evO, Nat.reduceAdd, Nat.reduceLT, Nat.reduceBEq, Nat.reduceEqDiff, Nat.reduceLeDiff, ↓reduceIte, reduceCtorEq, Z8, Zn, partsOf, fillA, repC, Zu, aAppend, srcOf, window, snaps, ZT, F_97, hat, hlL, g1, Z4E (show 1 ≤ 1000000 by omega), Zk (show i < 1000000 by omega)]
     exact ⟨_, rfl, rfl⟩
   · simp only [Nat.zero_add]
     generalize lcz L = LL at *
     generalize L.length = ll at *
     generalize lcs out = OL at *
     generalize out.length = ol at *
     simp (disch := omega) only [ZF, stp, just, Rd.bind, Rd.run, Rd.opt, upds, acells, zeroCells, tsz, elemT, rdCells, aLoad, fresh, Z3, aNum, aLen, Z2, aBin, aInt, putC, evO, Nat.reduceAdd, Nat.reduceLT, Nat.reduceBEq, Nat.reduceEqDiff, Nat.reduceLeDiff, ↓reduceIte, reduceCtorEq, Z8, Zn, partsOf, fillA, repC, Zu, aAppend, srcOf, window, snaps, ZT, F_97, hat, hlL, g1, hlo, hto, hno, hrm, Zk (show i < 1000000 by omega)]
     exact ⟨_, rfl, rfl⟩
 · have ec : cz x = .imm (ics x) x.length false := by unfold cz; rw [if_neg hx0]
   have hx1 : 0 < x.length := by cases x with | nil => exact absurd rfl hx0 | cons a b => simp
   have hn0 : ¬ x.length = 0 := by omega
   have hn1 : ¬ x.length + 1 ≤ 1 := by omega
   have hn2 : ¬ 1 + x.length ≤ 1 := by omega
   have c1 : 1 + x.length = x.length + 1 := by omega
   rw [ec] at hat
   rcases ocvL 45 out with ⟨hm, o1, o2⟩ | ⟨_, o1, o2⟩ <;> rw [o1, o2]
   · subst hm
     have z1 : lcs [] = [] := rfl
     have z2 : ([] : List (List Int)).length = 0 := rfl
     rw [z1, z2]
     simp only [List.nil_append, Nat.zero_add]
     generalize lcz L = LL at *
     generalize L.length = ll at *
     generalize ics x = X at *
     generalize x.length = xl at *
     simp (disch := omega) only [ZF, stp, just, Rd.bind, Rd.run, Rd.opt, upds, acells, zeroCells, tsz, elemT, rdCells, aLoad, fresh, Z3, aNum, aLen, Z2, aBin, aInt, putC, evO, Nat.reduceAdd, Nat.reduceLT, Nat.reduceBEq, Nat.reduceEqDiff, Nat.reduceLeDiff, ↓reduceIte, reduceCtorEq, Z8, Zn, partsOf, fillA, repC, Zu, aAppend, srcOf, window, snaps, ZT, F_97, hat, hlL, g1, hlix, l1, t1, hn0, hn1, c1, Z23 (show xl + 1 ≤ 1000000 by omega), Z4E (show 1 ≤ 1000000 by omega), Zk (show i < 1000000 by omega)]
     exact ⟨_, rfl, rfl⟩
   · generalize lcz L = LL at *
     generalize L.length = ll at *
     generalize lcs out = OL at *
     generalize out.length = ol at *
     generalize ics x = X at *
     generalize x.length = xl at *
     simp (disch := omega) only [ZF, stp, just, Rd.bind, Rd.run, Rd.opt, upds, acells, zeroCells, tsz, elemT, rdCells, aLoad, fresh, Z3, aNum, aLen, Z2, aBin, aInt, putC, evO, Nat.reduceAdd, Nat.reduceLT, Nat.reduceBEq, Nat.reduceEqDiff, Nat.reduceLeDiff, ↓reduceIte, reduceCtorEq, Z8, Zn, partsOf, fillA, repC, Zu, aAppend, srcOf, window, snaps, ZT, F_97, hat, hlL, g1, hlix, l1, t1, hn0, hn1, c1, hlo, hto, hno, hrm, Z23 (show xl + 1 ≤ 1000000 by omega), Zk (show i < 1000000 by omega)]
     exact ⟨_, rfl, rfl⟩
theorem ZRI (n : Nat) (s t : Int) : fuR [t] n s t = (rowsL n s t).map ([t] ++ ·) := rfl
abbrev rqO (n : Nat) (s t : Int) (out : List (List Int)) : St := ([(8, .int .i64 t), (7, oV 45 1 out.length), (1, .int .i64 s), (0, .int .i64 n)], oH 45 (lcs out))
theorem Z0ih {C : Callee} {n : Nat} {s t : Int} (hC : RrC C n (s - t) t) (hn : n ≤ 6) (ht : 0 ≤ t ∧ t ≤ 8) (hs : 0 ≤ s ∧ s ≤ 1000) (out : List (List Int)) (ho : out.length + 9 ^ n ≤ 900000) :
   ∃ s', (execA E C (fg 97) 0 47 [] 1000000 Z4Y) (rqO (n + 1) s t out) = some (.normal, s') ∧ headA [] s' = rqO (n + 1) s (t - 1) (out ++ fuR [t] n (s - t) t) := by
 have hlen := Z45 n (s - t) t ht.2
 have hel : ∀ l ∈ rowsL n (s - t) t, l.length = n := fun l hl => ((Z0W n (s - t) t l).1 hl).1
 unfold RrC at hC
 rw [ZRI]
 generalize rowsL n (s - t) t = L at *
 have h9 : L.length ≤ 900000 := by
   generalize 9 ^ n = N at *
   omega
 have ho2 : out.length + L.length ≤ 900000 := by
   generalize 9 ^ n = N at *
   omega
 clear ho hlen
 have w1 : wrp .i64 (((n + 1 : Nat) : Int) - 1) = (n : Int) := by rw [Zs (by omega)]; omega
 have w2 : wrp .i64 (s - t) = s - t := Zs (by omega)
 have w3 : wrp .i64 (t - 1) = t - 1 := Zs (by omega)
 have g0 : t ≥ 0 := ht.1
 by_cases hn0 : L = []
 · subst hn0
   simp only [if_true] at hC
   have hloop := Za4 (f := (execA E C (fg 97) 0 47 [] 1000000 Z3K)) (E0 := []) (s0 := ([(10, .int .i64 0), (9, .nilsl), (8, .int .i64 t), (7, oV 45 1 out.length), (1, .int .i64 s), (0, .int .i64 ((n + 1 : Nat) : Int))], oH 45 (lcs out))) (by rcases ocvL 45 out with ⟨_, o1, o2⟩ | ⟨_, o1, o2⟩ <;> rw [o1, o2] <;> rfl) (e := .exit 2)
     (se := ([(33, .bool false), (10, .int .i64 0), (9, .nilsl), (8, .int .i64 t), (7, oV 45 1 out.length), (1, .int .i64 s), (0, .int .i64 ((n + 1 : Nat) : Int))], oH 45 (lcs out)))
     (by simp (disch := omega) only [ZF, stp, just, Rd.bind, Rd.run, Rd.opt, upds, aLen, Z2, aBin, aInt, Nat.reduceBEq, Nat.reduceEqDiff, Nat.reduceLeDiff, ↓reduceIte, ZT, F_97]) (by simp)
   simp only [rqO, List.map_nil, List.append_nil]
   rcases ocvL 45 out with ⟨_, o1, o2⟩ | ⟨_, o1, o2⟩ <;> rw [o1, o2] at hloop ⊢ <;>
     simp (disch := omega) only [ZF, stp, just, Rd.bind, Rd.run, Rd.opt, upds, aBin, aInt, Nat.reduceBEq, Nat.reduceEqDiff, Nat.reduceLeDiff, ↓reduceIte, reduceCtorEq, aCall, snaps, F_97, g0, w1, w2, w3, hC, hloop] <;> exact ⟨_, rfl, rfl⟩
 · simp only [if_neg hn0] at hC
   have hloop := loopM (f := (execA E C (fg 97) 0 47 [] 1000000 Z3K)) (E0 := []) (fun i => rqI (n + 1) s t L (out ++ (L.take i).map ([t] ++ ·)) i) L.length (fun i hi => by
       have hk : L[i]? = some L[i] := List.getElem?_eq_getElem hi
       have htk : L.take (i + 1) = L.take i ++ [L[i]] := by rw [List.take_add_one, hk]; rfl
       have := Z0fB (C := C) (n := n + 1) (s := s) (t := t) (L := L) (out := out ++ (L.take i).map ([t] ++ ·)) h9 (by rw [List.length_append, List.length_map, List.length_take]; omega) i hk (by rw [hel _ (List.mem_of_getElem? hk)]; omega)
       simp only [htk, List.map_append, List.map_cons, List.map_nil, ← List.append_assoc] at this ⊢
       exact this) (by
       simp only [List.take_zero, List.map_nil, List.append_nil, rqI]
       rcases ocvL 45 out with ⟨_, o1, o2⟩ | ⟨_, o1, o2⟩ <;> rw [o1, o2] <;> rfl) (by omega)
     (e := .exit 2) (se := (((33, .bool false) :: (rqI (n + 1) s t L (out ++ L.map ([t] ++ ·)) L.length).1 : AFr), (rqI (n + 1) s t L (out ++ L.map ([t] ++ ·)) L.length).2))
     (by
       have hlL := Z3d L
       simp only [rqI, List.take_length]
       generalize lcz L = LL at *
       rcases ocvL 45 (out ++ L.map ([t] ++ ·)) with ⟨_, o1, o2⟩ | ⟨_, o1, o2⟩ <;> rw [o1, o2] <;>
         simp (disch := omega) only [ZF, stp, just, Rd.bind, Rd.run, Rd.opt, upds, aLen, Z2, aBin, aInt, Nat.reduceBEq, Nat.reduceEqDiff, Nat.reduceLeDiff, ↓reduceIte, ZT, F_97, hlL]) (by simp)
   have e0 : out ++ (L.take 0).map ([t] ++ ·) = out := by simp
   have hpos : 0 < (out ++ L.map ([t] ++ ·)).length := by
     have : 0 < L.length := by cases L with | nil => exact absurd rfl hn0 | cons a b => simp
     rw [List.length_append, List.length_map]; omega
   simp only [rqI, e0, cl0, Z14 hpos, Z3n hpos] at hloop
   simp only [rqO, Z14 hpos, Z3n hpos]
   generalize out ++ L.map ([t] ++ ·) = out2 at *
   generalize lcs out2 = O2 at *
   generalize out2.length = o2l at *
   have hlL := Z3d L
   generalize lcz L = LL at *
   generalize L.length = ll at *
   rcases ocvL 45 out with ⟨_, o1, o2⟩ | ⟨_, o1, o2⟩ <;> rw [o1, o2] at hloop ⊢ <;>
     simp (disch := omega) only [ZF, stp, just, Rd.bind, Rd.run, Rd.opt, upds, aBin, aInt, Nat.reduceBEq, Nat.reduceEqDiff, Nat.reduceLeDiff, ↓reduceIte, reduceCtorEq, aCall, snaps, F_97, g0, w1, w2, w3, hC, hloop] <;> exact ⟨_, rfl, rfl⟩
theorem Z05h {n : Nat} {s m : Int} : ∀ l ∈ rowsL (n + 1) s m, l ≠ [] := fun l hl e => by
 have := ((Z0W (n + 1) s m l).1 hl).1
 rw [e] at this; simp at this
theorem rrows : ∀ (n d : Nat) (s m : Int), n ≤ 6 → 0 ≤ s ∧ s ≤ 1000 → 0 ≤ m ∧ m ≤ 8 → RrC (kF (d + n + 1)) n s m
 | 0, d, s, m, _, hs, hm => by
   intro site seen
   by_cases h0 : s = 0
   · subst h0
     have e : rowsL 0 0 m = [[]] := rfl
     rw [e, if_neg (by simp)]
     have key : ∃ H, bodyA E (kF d) fg 1000000 97 [.int .i64 0, .int .i64 0, .int .i64 m] [] 0 = some (.ref 15 0 1 1 1 1 false, H) ∧ hget H 15 = some ⟨.row, [.nilsl]⟩ := by
       generalize kF d = C at *
       simp (disch := omega) only [ZF, Z4, stp, just, Rd.bind, Rd.run, Rd.opt, upds, acells, zeroCells, tsz, elemT, resA, resL, fresh, aBin, aInt, putC, evO, ofV, ofV1, Nat.reduceAdd, Nat.reduceLT, Nat.reduceBEq, Nat.reduceEqDiff, Nat.reduceLeDiff, ↓reduceIte, reduceCtorEq, Z8, Zn, partsOf, fillA, repC, snaps, ZT, F_97]
       exact ⟨_, rfl, rfl⟩
     obtain ⟨H, h1, h2⟩ := key
     exact Z22 (by rw [ZW rfl]; exact h1) h2 rfl
   · have e : rowsL 0 s m = [] := by simp only [rowsL]; rw [if_neg h0]
     rw [e, if_pos rfl]
     have g : s > 0 := by omega
     have key : ∃ H, bodyA E (kF d) fg 1000000 97 [.int .i64 0, .int .i64 s, .int .i64 m] [] 0 = some (.nilsl, H) := by
       generalize kF d = C at *
       simp (disch := omega) only [ZF, Z4, stp, just, Rd.bind, Rd.run, Rd.opt, upds, resA, resL, aBin, aInt, Nat.reduceAdd, Nat.reduceBEq, Nat.reduceEqDiff, Nat.reduceLeDiff, ↓reduceIte, reduceCtorEq, F_97, g]
       exact ⟨_, rfl⟩
     obtain ⟨H, h1⟩ := key
     exact ZeQ ⟨H, by rw [ZW rfl]; exact h1⟩
 | n + 1, d, s, m, hn, hs, hm => by
   intro site seen
   obtain ⟨m0, hm0⟩ : ∃ m0 : Nat, min m s = m0 := ⟨(min m s).toNat, by omega⟩
   have hrec : ∀ j : Nat, j < m0 + 1 → RrC (kF (d + n + 1)) n (s - ((m0 : Int) - j)) ((m0 : Int) - j) := fun j hj => rrows n d (s - ((m0 : Int) - j)) ((m0 : Int) - j) (by omega) (by omega) (by omega)
   have hall := Z01e [] n hm0
   rw [Z03v] at hall
   have h9 : 9 ^ (n + 1) ≤ 531441 := by have := Nat.pow_le_pow_right (n := 9) (show 0 < 9 by omega) (show n + 1 ≤ 6 by omega); omega
   have h9' : 9 ^ (n + 1) = 9 * 9 ^ n := by rw [Nat.pow_succ, Nat.mul_comm]
   have hfl : ∀ j, j ≤ m0 + 1 → (fuP [] n s m0 j).length ≤ j * 9 ^ n := ZBa [] n s m0 (by omega)
   have hj9 : ∀ j, j ≤ m0 → j * 9 ^ n ≤ 8 * 9 ^ n := fun j hj => Nat.mul_le_mul_right _ (by omega)
   have hA8 : ∀ j, j ≤ m0 → (fuP [] n s m0 j).length + 9 ^ n ≤ 900000 := fun j hj => by
     have h1 := hfl j (by omega)
     have h2 := hj9 j hj
     rw [h9'] at h9
     generalize 9 ^ n = N at *
     generalize j * N = q at *
     omega
   clear hfl hj9 h9 h9'
   have emin : (if s < m then s else m) = (m0 : Int) := by rw [← hm0]; split <;> omega
   have e2 : ∀ j : Nat, (m0 : Int) - ((j + 1 : Nat) : Int) = (m0 : Int) - j - 1 := fun j => by omega
   have ge : ¬ (m0 : Int) - ((m0 + 1 : Nat) : Int) ≥ 0 := by omega
   have gn : ¬ ((n + 1 : Nat) : Int) = 0 := by omega
   have gn' : (((n + 1 : Nat) : Int) == 0) = false := by rw [beq_eq_false_iff_ne]; exact gn
   have hloop := loopM (f := execA E (kF (d + n + 1)) (fg 97) 0 47 [] 1000000 Z4Y) (E0 := []) (fun j => rqO (n + 1) s ((m0 : Int) - j) (fuP [] n s m0 j)) (m0 + 1) (fun j hj => by
       simp only [ZqM, e2, List.nil_append]
       exact Z0ih (hrec j hj) (by omega) (by omega) hs (fuP [] n s m0 j) (hA8 j (by omega))) rfl (by omega)
     (e := .exit 0) (se := (((20, .bool false) :: (rqO (n + 1) s ((m0 : Int) - ((m0 + 1 : Nat) : Int)) (rowsL (n + 1) s m)).1 : AFr), (rqO (n + 1) s ((m0 : Int) - ((m0 + 1 : Nat) : Int)) (rowsL (n + 1) s m)).2))
     (by
       simp only [rqO, hall]
       rcases ocvL 45 (rowsL (n + 1) s m) with ⟨_, o1, o2⟩ | ⟨_, o1, o2⟩ <;> rw [o1, o2] <;>
         simp (disch := omega) only [ZF, stp, just, Rd.bind, Rd.run, Rd.opt, upds, aBin, aInt, Nat.reduceBEq, Nat.reduceEqDiff, Nat.reduceLeDiff, ↓reduceIte, F_97, ge]) (by simp)
   have e0 : fuP [] n s m0 0 = [] := rfl
   have v0 : oV 45 1 ([] : List (List Int)).length = .nilsl := rfl
   have o0 : oH 45 (lcs []) = [] := rfl
   have z0 : (m0 : Int) - ((0 : Nat) : Int) = m0 := by omega
   simp only [rqO, e0, v0, o0, z0] at hloop
   rw [ZAA Z05h]
   have key : (rowsL (n + 1) s m = [] ∧ ∃ H, bodyA E (kF (d + n + 1)) fg 1000000 97 [.int .i64 ((n + 1 : Nat) : Int), .int .i64 s, .int .i64 m] [] 0 = some (.nilsl, H)) ∨ (0 < (rowsL (n + 1) s m).length ∧ ∃ H, bodyA E (kF (d + n + 1)) fg 1000000 97 [.int .i64 ((n + 1 : Nat) : Int), .int .i64 s, .int .i64 m] [] 0 = some (.ref 45 0 (rowsL (n + 1) s m).length (rowsL (n + 1) s m).length (rowsL (n + 1) s m).length 1 false, H) ∧ hget H 45 = some ⟨.row, lcs (rowsL (n + 1) s m)⟩) := by
     clear hrec hall hA8 e2
     generalize rowsL (n + 1) s m = R at *
     generalize kF (d + n + 1) = C at *
     rcases ocvL 45 R with ⟨hn1, o1, o2⟩ | ⟨hp1, o1, o2⟩ <;> rw [o1, o2] at hloop
     · refine .inl ⟨hn1, ?_⟩
       simp (disch := omega) only [ZF, Z4, stp, justO, just, Rd.bind, Rd.run, Rd.opt, upds, acells, zeroCells, tsz, elemT, resA, resL, fresh, Z2, aMin, aBin, aInt, putC, evO, ofV, ofV1, Nat.reduceAdd, Nat.reduceLT, Nat.reduceBEq, Nat.reduceEqDiff, Nat.reduceLeDiff, ↓reduceIte, reduceCtorEq, Z8, Zn, partsOf, fillA, repC, snaps, ZT, F_97, gn', emin, hloop]
       exact ⟨_, rfl⟩
     · refine .inr ⟨hp1, ?_⟩
       simp (disch := omega) only [ZF, Z4, stp, justO, just, Rd.bind, Rd.run, Rd.opt, upds, acells, zeroCells, tsz, elemT, resA, resL, fresh, Z2, aMin, aBin, aInt, putC, evO, ofV, ofV1, Nat.reduceAdd, Nat.reduceLT, Nat.reduceBEq, Nat.reduceEqDiff, Nat.reduceLeDiff, ↓reduceIte, reduceCtorEq, Z8, Zn, partsOf, fillA, repC, snaps, ZT, F_97, gn', emin, hloop]
       exact ⟨_, rfl, rfl⟩
   rcases key with ⟨e, H, h1⟩ | ⟨hp, H, h1, h2⟩
   · rw [if_pos e]
     exact ZeQ ⟨H, by rw [show d + (n + 1) + 1 = (d + n + 1) + 1 by omega, ZW rfl]; exact h1⟩
   · rw [if_neg (fun e => by rw [e] at hp; simp at hp)]
     exact Z22 (by rw [show d + (n + 1) + 1 = (d + n + 1) + 1 by omega, ZW rfl]; exact h1) h2 (ZZ _)
end Go.AM.Ytfmnoohhhokicaa
end
noncomputable section
namespace Go.AM.Ytfmnoohhhokicaa
open Go Go.AM Go.AM.Rub
theorem Zos {n : Nat} {l : List Int} (h : Rw n l) : l ∈ rowsL n (ps (rowF l) n) 8 := by
 rw [Z0W]
 exact ⟨h.len, by rw [← Z0S, h.len], h.row⟩
theorem Zd6 {n : Nat} {s : Int} {l : List Int} (h : l ∈ rowsL n s 8) : Rw n l ∧ ps (rowF l) n = s := by
 rw [Z0W] at h
 exact ⟨⟨h.1, h.2.2⟩, by rw [← h.2.1, ← Z0S, h.1]⟩
end Go.AM.Ytfmnoohhhokicaa
end
noncomputable section
namespace Go.AM.Ytfmnoohhhokicaa
open Go Go.AM Go.AM.Rub
theorem Z3W {C : Callee} {site : Nat → Nat} {seen : List Nat} {f : FuncId} {args : List AV} {cells : List AV} {n : Nat} {ex : Bool} {k : IntKind} {z : Int} {H' : AHeap} (h : C f args [] 0 = some (.tup [.imm cells n ex, .int k z], H')) : aBack site true seen (thaw C f args [] 0) = (frz seen).bind fun us => .pure (.tup [.imm cells n ex, .int k z], us ++ []) := by
 simp only [thaw, h, frzRet, aBack, sitesB, aBackAt, imp, imps, List.map_nil, AM.apart, if_true, AV.leads, AV.leads.leadsL, Bool.true_or, freeOff, allFree, freeAll, Rd.bind]
def qx (down : Bool) (n : Nat) (x y : List Int) : Bool := if down then decide (fe (abE x y) 0 (n + 1) = 0) else decide (fe (abE y x) 0 (n + 1) = 0)
def exP (down : Bool) (n : Nat) (a b l : List Int) : Bool := qx down n a l && qx down n b l
def ExC (C : Callee) (n : Nat) : Prop := ∀ (site : Nat → Nat) seen x y u v, Rw n x → Rw n y → aBack site true seen (thaw C 118 [.imm (ics x) n u, .imm (ics y) n v] [] 0) = .pure (.bool (decide (fe (abE x y) 0 (n + 1) = 0)), [])
abbrev exS (a b : List Int) (n : Nat) (x y down : Bool) (R M : List (List Int)) (i : Nat) : St := ([(11, .int .i64 i), (10, oV 75 1 M.length), (9, .ref 25 0 R.length R.length R.length 1 false), (2, .bool down), (1, .imm (ics b) n y), (0, .imm (ics a) n x)], (25, ⟨.row, lcs R⟩) :: oH 75 (lcs M))
theorem Z0hd {C : Callee} {a b l : List Int} {n : Nat} {x y down : Bool} {R M : List (List Int)} (hC : ExC C n) (ra : Rw n a) (rb : Rw n b) (rl : Rw n l) (i : Nat) (hR : R.length ≤ 900000) (hM : M.length ≤ 900000) (hi : R[i]? = some l) :
   ∃ s', (execA E C (fg 102) 0 123 [] 1000000 Z3r) (exS a b n x y down R M i) = some (.normal, s') ∧ headA [] s' = exS a b n x y down R (M ++ [l].filter (exP down n a b)) (i + 1) := by
 have hil := (List.getElem?_eq_some_iff.1 hi).1
 have hat := Z8G hi
 rw [rl.len] at hat
 have hlr := ZZ R
 have g1 : (i : Int) < R.length := by omega
 have hsn := Zjb M l
 rw [rl.len] at hsn
 have hlm := ZZ M
 have htm := Zej M
 have hno : ¬ M.length + 1 ≤ M.length := by omega
 have hrm := Z4E (show M.length + 1 ≤ 1000000 by omega)
 have hf : [l].filter (exP down n a b) = if exP down n a b l = true then [l] else [] := by simp [List.filter_cons]
 have e1 := fun (site : Nat → Nat) seen u v => hC site seen a l u v ra rl
 have e2 := fun (site : Nat → Nat) seen u v => hC site seen b l u v rb rl
 have e3 := fun (site : Nat → Nat) seen u v => hC site seen l a u v rl ra
 have e4 := fun (site : Nat → Nat) seen u v => hC site seen l b u v rl rb
 rw [hf]
 obtain ⟨v1, hv1⟩ : ∃ v, qx down n a l = v := ⟨_, rfl⟩
 obtain ⟨v2, hv2⟩ : ∃ v, qx down n b l = v := ⟨_, rfl⟩
 have hp : exP down n a b l = (v1 && v2) := by unfold exP; rw [hv1, hv2]
 rw [hp]
 have o1' : oV 75 1 (M ++ [l]).length = .ref 75 0 (M.length + 1) (M.length + 1) (M.length + 1) 1 false := by rw [Z14 (by simp)]; simp
 have o2' : oH 75 (lcs (M ++ [l])) = [(75, ⟨.row, lcs (M ++ [l])⟩)] := Z3n (by simp)
 clear hf hp hC
 by_cases hv : (v1 && v2) = true
 · have hv1' : v1 = true := by cases v1 <;> simp_all
   have hv2' : v2 = true := by cases v2 <;> simp_all
   subst hv1'; subst hv2'
   rw [if_pos hv]
   simp only [exS]
   rw [o1', o2', ← hsn]
   cases down with
   | true =>
     simp only [qx, if_true] at hv1 hv2
     rw [hv1] at e1
     rw [hv2] at e2
     clear e3 e4
     rcases ocvL 75 M with ⟨hm, o1, o2⟩ | ⟨_, o1, o2⟩ <;> rw [o1, o2]
     · subst hm
       have z1 : lcs [] = [] := rfl
       have z2 : ([] : List (List Int)).length = 0 := rfl
       rw [z1, z2]
       simp only [List.nil_append, Nat.zero_add]
       generalize lcs R = RL at *
       generalize R.length = rlen at *
       simp (disch := omega) only [ZF, ↓gd, stp, opPick, just, Rd.bind, Rd.run, Rd.opt, upds, acells, zeroCells, tsz, elemT, rdCells, aLoad, fresh, Z3, aNum, aLen, Z2, aBin, aInt, putC, evO, Nat.reduceAdd, Nat.reduceLT, Nat.reduceBEq, Nat.reduceEqDiff, Nat.reduceLeDiff, ↓reduceIte, reduceCtorEq, Z8, Zn, partsOf, fillA, repC, Zu, aAppend, srcOf, window, aCall, snaps, ZT, Z0P, hat, hlr, g1, e1, e2, Z4E (show 1 ≤ 1000000 by omega), Zk (show i < 1000000 by omega)]
       exact ⟨_, rfl, rfl⟩
     · generalize lcs R = RL at *
       generalize R.length = rlen at *
       generalize lcs M = ML at *
       generalize M.length = ml at *
       simp (disch := omega) only [ZF, ↓gd, stp, opPick, just, Rd.bind, Rd.run, Rd.opt, upds, acells, zeroCells, tsz, elemT, rdCells, aLoad, fresh, Z3, aNum, aLen, Z2, aBin, aInt, putC, evO, Nat.reduceAdd, Nat.reduceLT, Nat.reduceBEq, Nat.reduceEqDiff, Nat.reduceLeDiff, ↓reduceIte, reduceCtorEq, Z8, Zn, partsOf, fillA, repC, Zu, aAppend, srcOf, window, aCall, snaps, ZT, Z0P, hat, hlr, g1, e1, e2, hlm, htm, hno, hrm, Zk (show i < 1000000 by omega)]
       exact ⟨_, rfl, rfl⟩
   | false =>
     simp only [qx, Bool.false_eq_true, if_false] at hv1 hv2
     rw [hv1] at e3
     rw [hv2] at e4
     clear e1 e2
     rcases ocvL 75 M with ⟨hm, o1, o2⟩ | ⟨_, o1, o2⟩ <;> rw [o1, o2]
     · subst hm
       have z1 : lcs [] = [] := rfl
       have z2 : ([] : List (List Int)).length = 0 := rfl
       rw [z1, z2]
       simp only [List.nil_append, Nat.zero_add]
       generalize lcs R = RL at *
       generalize R.length = rlen at *
       simp (disch := omega) only [ZF, ↓gd, stp, opPick, justO, just, Rd.bind, Rd.run, Rd.opt, upds, acells, zeroCells, tsz, elemT, rdCells, aLoad, fresh, Z3, aNum, aLen, Z2, aBin, aInt, putC, evO, Nat.reduceAdd, Nat.reduceLT, Nat.reduceBEq, Nat.reduceEqDiff, Nat.reduceLeDiff, ↓reduceIte, reduceCtorEq, Z8, Zn, partsOf, fillA, repC, Zu, aAppend, srcOf, window, aUn, aCall, snaps, ZT, Z0P, hat, hlr, g1, e3, e4, Z4E (show 1 ≤ 1000000 by omega), Zk (show i < 1000000 by omega)]
       exact ⟨_, rfl, rfl⟩
     · generalize lcs R = RL at *
       generalize R.length = rlen at *
       generalize lcs M = ML at *
       generalize M.length = ml at *
       simp (disch := omega) only [ZF, ↓gd, stp, opPick, justO, just, Rd.bind, Rd.run, Rd.opt, upds, acells, zeroCells, tsz, elemT, rdCells, aLoad, fresh, Z3, aNum, aLen, Z2, aBin, aInt, putC, evO, Nat.reduceAdd, Nat.reduceLT, Nat.reduceBEq, Nat.reduceEqDiff, Nat.reduceLeDiff, ↓reduceIte, reduceCtorEq, Z8, Zn, partsOf, fillA, repC, Zu, aAppend, srcOf, window, aUn, aCall, snaps, ZT, Z0P, hat, hlr, g1, e3, e4, hlm, htm, hno, hrm, Zk (show i < 1000000 by omega)]
       exact ⟨_, rfl, rfl⟩
 · rw [if_neg hv, List.append_nil]
   simp only [exS]
   cases down with
   | true =>
     simp only [qx, if_true] at hv1 hv2
     rw [hv1] at e1
     rw [hv2] at e2
     clear e3 e4 hv1 hv2
     rcases ocvL 75 M with ⟨hm, o1, o2⟩ | ⟨_, o1, o2⟩ <;> rw [o1, o2] <;>
     · generalize lcs R = RL at *
       generalize R.length = rlen at *
       generalize lcs M = ML at *
       generalize M.length = ml at *
       cases v1 with
       | false =>
         simp (disch := omega) only [ZF, ↓gd, stp, opPick, justO, just, Rd.bind, Rd.run, Rd.opt, upds, acells, zeroCells, tsz, elemT, rdCells, aLoad, fresh, Z3, aNum, aLen, Z2, aBin, aInt, putC, evO, Nat.reduceAdd, Nat.reduceLT, Nat.reduceBEq, Nat.reduceEqDiff, Nat.reduceLeDiff, ↓reduceIte, reduceCtorEq, Z8, Zn, partsOf, fillA, repC, Zu, aAppend, srcOf, window, aUn, aCall, snaps, ZT, Z0P, hat, hlr, g1, e1, if_pos, Zk (show i < 1000000 by omega)]
         exact ⟨_, rfl, rfl⟩
       | true =>
         cases v2 with
         | true => exact absurd rfl hv
         | false =>
           simp (disch := omega) only [ZF, ↓gd, stp, opPick, justO, just, Rd.bind, Rd.run, Rd.opt, upds, acells, zeroCells, tsz, elemT, rdCells, aLoad, fresh, Z3, aNum, aLen, Z2, aBin, aInt, putC, evO, Nat.reduceAdd, Nat.reduceLT, Nat.reduceBEq, Nat.reduceEqDiff, Nat.reduceLeDiff, ↓reduceIte, reduceCtorEq, Z8, Zn, partsOf, fillA, repC, Zu, aAppend, srcOf, window, aUn, aCall, snaps, ZT, Z0P, hat, hlr, g1, e1, e2, if_pos, Zk (show i < 1000000 by omega)]
           exact ⟨_, rfl, rfl⟩
   | false =>
     simp only [qx, Bool.false_eq_true, if_false] at hv1 hv2
     rw [hv1] at e3
     rw [hv2] at e4
     clear e1 e2 hv1 hv2
     rcases ocvL 75 M with ⟨hm, o1, o2⟩ | ⟨_, o1, o2⟩ <;> rw [o1, o2] <;>
     · generalize lcs R = RL at *
       generalize R.length = rlen at *
       generalize lcs M = ML at *
       generalize M.length = ml at *
       cases v1 with
       | false =>
         simp (disch := omega) only [ZF, ↓gd, stp, opPick, justO, just, Rd.bind, Rd.run, Rd.opt, upds, acells, zeroCells, tsz, elemT, rdCells, aLoad, fresh, Z3, aNum, aLen, Z2, aBin, aInt, putC, evO, Nat.reduceAdd, Nat.reduceLT, Nat.reduceBEq, Nat.reduceEqDiff, Nat.reduceLeDiff, ↓reduceIte, reduceCtorEq, Z8, Zn, partsOf, fillA, repC, Zu, aAppend, srcOf, window, aUn, aCall, snaps, ZT, Z0P, hat, hlr, g1, e3, if_pos, Zk (show i < 1000000 by omega)]
         exact ⟨_, rfl, rfl⟩
       | true =>
         cases v2 with
         | true => exact absurd rfl hv
         | false =>
           simp (disch := omega) only [ZF, ↓gd, stp, opPick, justO, just, Rd.bind, Rd.run, Rd.opt, upds, acells, zeroCells, tsz, elemT, rdCells, aLoad, fresh, Z3, aNum, aLen, Z2, aBin, aInt, putC, evO, Nat.reduceAdd, Nat.reduceLT, Nat.reduceBEq, Nat.reduceEqDiff, Nat.reduceLeDiff, ↓reduceIte, reduceCtorEq, Z8, Zn, partsOf, fillA, repC, Zu, aAppend, srcOf, window, aUn, aCall, snaps, ZT, Z0P, hat, hlr, g1, e3, e4, if_pos, Zk (show i < 1000000 by omega)]
           exact ⟨_, rfl, rfl⟩
abbrev eyI (M : List (List Int)) (down is : Bool) (i k : Nat) : St := ([(14, .int .i64 k), (13, .bool is), (12, .int .i64 i), (10, .ref 75 0 M.length M.length M.length 1 false), (2, .bool down)], [(75, ⟨.row, lcs M⟩)])
abbrev eyO (M : List (List Int)) (down : Bool) (i : Nat) : St := ([(12, .int .i64 i), (10, .ref 75 0 M.length M.length M.length 1 false), (2, .bool down)], [(75, ⟨.row, lcs M⟩)])
theorem Z0h2 {C : Callee} {n : Nat} {M : List (List Int)} {g l : List Int} {down is : Bool} (hC : ExC C n) (rg : Rw n g) (rl : Rw n l) (hM : M.length ≤ 900000) {i k : Nat} (hi : M[i]? = some g) (hk : M[k]? = some l) :
   ∃ s', (execA E C (fg 102) 0 123 [] 1000000 Z2c) (eyI M down is i k) = some (.normal, s') ∧ headA [] s' = eyI M down (is && qx down n g l) i (k + 1) := by
 have hil := (List.getElem?_eq_some_iff.1 hi).1
 have hkl := (List.getElem?_eq_some_iff.1 hk).1
 have hat := Z8G hi
 have hat2 := Z8G hk
 rw [rg.len] at hat
 rw [rl.len] at hat2
 have hlm := ZZ M
 have g1 : (i : Int) < M.length := by omega
 have g2 : (k : Int) < M.length := by omega
 have e1 := fun (site : Nat → Nat) seen u v => hC site seen g l u v rg rl
 have e2 := fun (site : Nat → Nat) seen u v => hC site seen l g u v rl rg
 obtain ⟨v, hv⟩ : ∃ v, qx down n g l = v := ⟨_, rfl⟩
 rw [hv]
 clear hC
 simp only [eyI]
 cases down with
 | true =>
   simp only [qx, if_true] at hv
   rw [hv] at e1
   clear e2 hv
   generalize lcs M = ML at *
   generalize M.length = ml at *
   cases is <;> cases v <;>
     simp (disch := omega) only [ZF, stp, opPick, justO, just, Rd.bind, Rd.run, Rd.opt, upds, tsz, rdCells, aLoad, Z3, aNum, aLen, Z2, aBin, aInt, Nat.reduceAdd, Nat.reduceLT, Nat.reduceBEq, Nat.reduceEqDiff, Nat.reduceLeDiff, ↓reduceIte, reduceCtorEq, stpT, ↓gdT, Rd.foot, writing, Zm, Tr.empty, Zo, apartT, disj, aUn, aCall, snaps, ZT, Z0P, hat, hat2, hlm, g1, g2, e1, Bool.and_false, Zk (show k < 1000000 by omega)] <;>
     exact ⟨_, rfl, rfl⟩
 | false =>
   simp only [qx, Bool.false_eq_true, if_false] at hv
   rw [hv] at e2
   clear e1 hv
   generalize lcs M = ML at *
   generalize M.length = ml at *
   cases is <;> cases v <;>
     simp (disch := omega) only [ZF, stp, opPick, justO, just, Rd.bind, Rd.run, Rd.opt, upds, tsz, rdCells, aLoad, Z3, aNum, aLen, Z2, aBin, aInt, Nat.reduceAdd, Nat.reduceLT, Nat.reduceBEq, Nat.reduceEqDiff, Nat.reduceLeDiff, ↓reduceIte, stpT, ↓gdT, Rd.foot, writing, Zm, Tr.empty, Zo, apartT, disj, aUn, aCall, snaps, ZT, Z0P, hat, hat2, hlm, g1, g2, e2, Bool.and_false, Zk (show k < 1000000 by omega)] <;>
     exact ⟨_, rfl, rfl⟩
theorem ZDR {C : Callee} {n : Nat} {M : List (List Int)} {g : List Int} {down : Bool} (hC : ExC C n) (hr : ∀ l ∈ M, Rw n l) (hM : M.length ≤ 900000) {i : Nat} (hi : M[i]? = some g) :
   iterA (execA E C (fg 102) 0 123 [] 1000000 Z2c) (headA []) 1000000 (eyI M down true i 0) = some (.exit 4, (((85, .bool false) :: (eyI M down (M.all (qx down n g)) i M.length).1 : AFr), (eyI M down (M.all (qx down n g)) i M.length).2)) := by
 have hlm := ZZ M
 have := loopM (f := (execA E C (fg 102) 0 123 [] 1000000 Z2c)) (E0 := []) (fun k => eyI M down ((M.take k).all (qx down n g)) i k) M.length (fun k hk => by
     have h1 : M[k]? = some M[k] := List.getElem?_eq_getElem hk
     have h2 : M.take (k + 1) = M.take k ++ [M[k]] := by rw [List.take_add_one, h1]; rfl
     have h3 := Z0h2 (C := C) (down := down) (is := (M.take k).all (qx down n g)) hC (hr g (List.mem_of_getElem? hi)) (hr _ (List.mem_of_getElem? h1)) hM hi h1
     simp only [h2, List.all_append, List.all_cons, List.all_nil, Bool.and_true]
     exact h3) rfl (by omega)
   (e := .exit 4) (se := (((85, .bool false) :: (eyI M down (M.all (qx down n g)) i M.length).1 : AFr), (eyI M down (M.all (qx down n g)) i M.length).2))
   (by
     simp only [eyI, List.take_length]
     generalize M.all (qx down n g) = w at *
     generalize lcs M = ML at *
     generalize M.length = ml at *
     simp (disch := omega) only [ZF, stp, just, Rd.bind, Rd.run, Rd.opt, upds, aLen, Z2, aBin, aInt, Nat.reduceBEq, Nat.reduceEqDiff, Nat.reduceLeDiff, ↓reduceIte, ZT, Z0P, hlm]) (by simp)
 exact this
theorem Z0js {C : Callee} {n : Nat} {M : List (List Int)} {g : List Int} {down : Bool} (hC : ExC C n) (hr : ∀ l ∈ M, Rw n l) (hM : M.length ≤ 900000) (i : Nat) (hi : M[i]? = some g) (hno : M.all (qx down n g) = false) :
   ∃ s', (execA E C (fg 102) 0 123 [] 1000000 Z2h) (eyO M down i) = some (.normal, s') ∧ headA [] s' = eyO M down (i + 1) := by
 have hloop := ZDR (C := C) (down := down) hC hr hM hi
 have hil := (List.getElem?_eq_some_iff.1 hi).1
 have hlm := ZZ M
 have g1 : (i : Int) < M.length := by omega
 rw [hno] at hloop
 simp only [eyI, cl0] at hloop
 simp only [eyO]
 clear hC hr
 generalize lcs M = ML at *
 generalize M.length = ml at *
 simp (disch := omega) only [ZF, stp, just, Rd.bind, Rd.run, Rd.opt, upds, tsz, rdCells, aLoad, Z3, aNum, aLen, Z2, aBin, aInt, Nat.reduceLT, Nat.reduceBEq, Nat.reduceEqDiff, Nat.reduceLeDiff, ↓reduceIte, ZT, Z0P, hlm, g1, hloop, Zk (show i < 1000000 by omega)]
 exact ⟨_, rfl, rfl⟩
theorem Z0cv {C : Callee} {n : Nat} {M : List (List Int)} {g : List Int} {down : Bool} (hC : ExC C n) (hr : ∀ l ∈ M, Rw n l) (hM : M.length ≤ 900000) (i : Nat) (hi : M[i]? = some g) (hno : M.all (qx down n g) = true) :
   (execA E C (fg 102) 0 123 [] 1000000 Z2h) (eyO M down i) = some (.ret, ([(7, .int .i64 0), (6, .imm (ics g) n false)], [(75, ⟨.row, lcs M⟩)])) := by
 have hloop := ZDR (C := C) (down := down) hC hr hM hi
 have hil := (List.getElem?_eq_some_iff.1 hi).1
 have hat := Z8G hi
 rw [(hr g (List.mem_of_getElem? hi)).len] at hat
 have hlm := ZZ M
 have g1 : (i : Int) < M.length := by omega
 rw [hno] at hloop
 simp only [eyI, cl0] at hloop
 simp only [eyO]
 clear hC hr
 generalize lcs M = ML at *
 generalize M.length = ml at *
 simp (disch := omega) only [ZF, stp, just, Rd.bind, Rd.run, Rd.opt, upds, tsz, rdCells, aLoad, Z3, aNum, aLen, Z2, aBin, aInt, Nat.reduceLT, Nat.reduceBEq, Nat.reduceEqDiff, Nat.reduceLeDiff, ↓reduceIte, ZT, Z0P, hat, hlm, g1, hloop]
end Go.AM.Ytfmnoohhhokicaa
end
noncomputable section
namespace Go.AM.Rub
theorem ZCw {n : Nat} {a b : List Int} (ha : Rw n a) (hb : Rw n b) (h : ∀ k, k ≤ n → ps (rowF a) k = ps (rowF b) k) : a = b := by
 refine Z4C (by rw [ha.len, hb.len]) fun i hi => ?_
 have := h i (by have := ha.len; omega)
 have h2 := h (i + 1) (by have := ha.len; omega)
 simp only [ps] at h2
 omega
end Go.AM.Rub
end
noncomputable section
namespace Go.AM.Rub
theorem Zfx {n : Nat} {a b : List Int} (ha : Rw n a) (hb : Rw n b) (h1 : MajL a b) (h2 : MajL b a) : a = b := by
 have la := ha.len
 have lb := hb.len
 unfold MajL at *
 rw [la] at h1
 rw [lb] at h2
 refine ZCw ha hb fun k hk => ?_
 have := h1.le k hk
 have := h2.le k hk
 omega
end Go.AM.Rub
end
end
