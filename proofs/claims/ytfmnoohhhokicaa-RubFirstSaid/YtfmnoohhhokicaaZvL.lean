/- A part of the proof of rubFirst_holds: RpL, RpM. Own work of this project; texts printed by own programs among it. -/
import Derived.KernelRfl
import Derived.Test.YtfmnoohhhokicaaZvK
set_option maxRecDepth 1000000
set_option maxHeartbeats 16000000
noncomputable section
noncomputable section
namespace Go.AM.Ytfmnoohhhokicaa
open Go Go.AM Go.AM.Rub
def lcs (L : List (List Int)) : List AV := L.map fun l => .imm (ics l) l.length false
theorem Z0a (L : List (List Int)) : (lcs L).length = L.length := by simp [lcs]
theorem Z5x {L : List (List Int)} {k : Nat} {l : List Int} (h : L[k]? = some l) : (lcs L)[k]? = some (.imm (ics l) l.length false) := by simp [lcs, h]
theorem Zoz (L : List (List Int)) (l : List Int) : lcs L ++ [.imm (ics l) l.length false] = lcs (L ++ [l]) := by simp [lcs]
theorem Zhz (L : List (List Int)) : (lcs L).take L.length = lcs L := List.take_of_length_le (by rw [Z0a]; exact Nat.le_refl _)
theorem Zn2 {n : Nat} (h : n ≤ 1000000) : roomOk E.T 22 n = true := by
 simp only [roomOk, T_22, decide_eq_true_eq]; exact ⟨by decide, rfl, by omega⟩
theorem Z3v {k : Nat} {L : List (List Int)} (h : 0 < L.length) : oH k (lcs L) = [(k, ⟨.row, lcs L⟩)] := ZWx k (by rw [Z0a]; exact h)
def LV (L : List (List Int)) (a : AV) : Prop := (L = [] ∧ a = .nilsl) ∨ ∃ ex, a = .imm (lcs L) L.length ex
abbrev toS (l : List Int) (a : AV) (i : Nat) : St := ([(8, .int .i64 i), (7, .int .i64 l.length), (6, a), (3, .int .i64 (ps (rowF l) i))], [])
theorem ZGn {C : Callee} {l : List Int} {a : AV} (ha : IV l a) (hl : l.length ≤ 1000) (hb : ∀ k, k < l.length → 0 ≤ rowF l k ∧ rowF l k ≤ 100000) : rsOf (bodyA E C fg 1000000 58 [a] [] 0) = some (.int .i64 (ps (rowF l) l.length)) := by
 have hps : ∀ k, k ≤ l.length → 0 ≤ ps (rowF l) k ∧ ps (rowF l) k ≤ 100000 * k := by
   intro k
   induction k with
   | zero => intro _; simp [ps]
   | succ k ih =>
     intro hk
     have := ih (by omega)
     have := hb k (by omega)
     simp only [ps]; omega
 rcases ha with ⟨rfl, rfl⟩ | ⟨ex, rfl⟩
 · have hloop := Z5E (f := (execA E C (fg 58) 0 17 [] 1000000 Z6A)) (E0 := []) (s0 := ([(8, .int .i64 0), (7, .int .i64 0), (6, .nilsl), (3, .int .i64 0)], [])) rfl (e := .exit 0) (se := ([(9, .bool false), (8, .int .i64 0), (7, .int .i64 0), (6, .nilsl), (3, .int .i64 0)], []))
     (by simp (disch := omega) only [ZF, stp, just, Rd.bind, Rd.run, Rd.opt, upds, aBin, aInt, Nat.reduceEqDiff, Nat.reduceLeDiff, ↓reduceIte, F_58]) (by simp)
   simp (disch := omega) only [ZF, Z8, stp, just, Rd.bind, Rd.run, upds, resA, resL, aLen, Z4, Nat.reduceBEq, Nat.reduceEqDiff, Nat.reduceLeDiff, ↓reduceIte, reduceCtorEq, ZT, F_58, hloop, ps]
 · have hlen := Z6 l
   have hloop := loopM (f := (execA E C (fg 58) 0 17 [] 1000000 Z6A)) (E0 := []) (toS l (.imm (ics l) l.length ex)) l.length (fun i hi => by
       have hat := Zu hi
       have g1 : (i : Int) < l.length := by omega
       have := hps i (by omega)
       have := hb i hi
       have w : wrp .i64 (ps (rowF l) i + rowF l i) = ps (rowF l) i + rowF l i := Zv (by omega)
       simp (disch := omega) only [ZF, stp, just, Rd.bind, Rd.run, Rd.opt, upds, tsz, rdCells, aLoad, Z2, aNum, aBin, aInt, Nat.reduceLT, Nat.reduceBEq, Nat.reduceEqDiff, Nat.reduceLeDiff, ↓reduceIte, ZT, F_58, toS, ps, g1, hat, hlen, w, Zl (show i < 1000000 by omega)]
       exact ⟨_, rfl, rfl⟩) rfl (by omega) (e := .exit 0) (se := ([(9, .bool false), (8, .int .i64 l.length), (7, .int .i64 l.length), (6, .imm (ics l) l.length ex), (3, .int .i64 (ps (rowF l) l.length))], []))
     (by simp (disch := omega) only [ZF, stp, just, Rd.bind, Rd.run, Rd.opt, upds, aBin, aInt, Nat.reduceEqDiff, Nat.reduceLeDiff, ↓reduceIte, F_58, toS]) (by simp)
   simp only [toS, cl0, ps] at hloop
   simp (disch := omega) only [ZF, Z8, stp, just, Rd.bind, Rd.run, upds, resA, resL, aLen, Z4, Nat.reduceBEq, Nat.reduceEqDiff, Nat.reduceLeDiff, ↓reduceIte, reduceCtorEq, ZT, F_58, hloop]
theorem ZDH {d : Nat} {site : Nat → Nat} {seen : List Nat} {l : List Int} {a : AV} (ha : IV l a) (hl : l.length ≤ 1000) (hb : ∀ k, k < l.length → 0 ≤ rowF l k ∧ rowF l k ≤ 100000) : aBack site true seen (thaw (kF (d + 1)) 58 [a] [] 0) = .pure (.int .i64 (ps (rowF l) l.length), []) :=
 Z0W (Z1u rfl (ZGn ha hl hb))
theorem Zgz {l : List Int} {k i : Nat} (h : i < k) : rowF (l.take k) i = rowF l i := by
 simp only [rowF, List.getD_eq_getElem?_getD, List.getElem?_take, if_pos h]
theorem Z2B {d : Nat} {site : Nat → Nat} {seen : List Nat} {n : Nat} {l : List Int} (h : Rw n l) (hn : n ≤ 8) {k : Nat} (hk : k ≤ n) {ex : Bool} : aBack site true seen (thaw (kF (d + 1)) 58 [.imm (ics (l.take k)) k ex] [] 0) = .pure (.int .i64 (ps (rowF l) k), []) := by
 have hl : (l.take k).length = k := by rw [List.length_take, h.len]; omega
 have ha : IV (l.take k) (.imm (ics (l.take k)) k ex) := .inr ⟨ex, by rw [hl]⟩
 have := ZDH (d := d) (site := site) (seen := seen) ha (by omega) (fun i hi => by rw [Zgz (by omega)]; have := rw_b h (k := i) (by omega); omega)
 rw [hl, Z1A k fun i hi => Zgz hi] at this
 exact this
theorem ZJh {C : Callee} {l : List Int} {n : Nat} {ex : Bool} (hl : l.length = n) (h0 : 0 < n) (h9 : n ≤ 1000) : ∃ H, bodyA E C fg 1000000 66 [.imm (ics l) n ex] [] 0 = some (.ref 5 0 n n n 1 false, H) ∧ hget H 5 = some ⟨.row, ics l⟩ := by
 have hlen : (ics l).length = n := by rw [Z6, hl]
 have htk : List.take n (ics l) = ics l := List.take_of_length_le (by omega)
 have hn0 : ¬ n = 0 := by omega
 have hn1 : ¬ n ≤ 0 := by omega
 simp (disch := omega) only [ZF, Z8, stp, just, Rd.bind, Rd.run, upds, zeroCells, tsz, elemT, resA, resL, fresh, Z4, aBin, Nat.reduceAdd, Nat.reduceLT, Nat.reduceBEq, Nat.reduceEqDiff, Nat.reduceLeDiff, ↓reduceIte, reduceCtorEq, Zi, Z0b, partsOf, fillA, repC, Z0i, aAppend, srcOf, window, snaps, ZT, F_66, aNil, srcOf, hlen, hn0, hn1, Z62 (show n ≤ 1000000 by omega)]
 exact ⟨_, rfl, rfl⟩
theorem Zby {d : Nat} {site : Nat → Nat} {seen : List Nat} {l : List Int} {n : Nat} {ex : Bool} (hl : l.length = n) (h0 : 0 < n) (h9 : n ≤ 1000) : aBack site true seen (thaw (kF (d + 1)) 66 [.imm (ics l) n ex] [] 0) =
   Z0m (site 0) seen (fun k => .ref k 0 n n n 1 false) ⟨.row, ics l⟩ := by
 obtain ⟨H, h1, h2⟩ := ZJh (C := kF d) (ex := ex) hl h0 h9
 exact Z2m (by rw [Z11 rfl]; exact h1) h2 (by rw [Z6, hl])
structure PrC (C : Callee) (f : Nat) (c : AV) (p : List Int → Bool) (L : List (List Int)) : Prop where
 fi : ∃ x, fInfo E f = some x
 mt : ∀ caps args, mutV E (.clo f caps) args = none
 run : ∀ l ∈ L, ∀ (site : Nat → Nat) seen, aBack site true seen (thaw C f [.imm (ics l) l.length false, .iptr [c] 0] [] 0) = .pure (.bool (p l), [])
abbrev ixS (a : AV) (n f : Nat) (c : AV) (i : Nat) : St := ([(8, .int .i64 i), (7, .int .i64 n), (1, .clo f [.iptr [c] 0]), (0, a)], [])
def ixL (p : List Int → Bool) (L : List (List Int)) : Int := if L.findIdx p < L.length then (L.findIdx p : Int) else -1
theorem Z0h5 {C : Callee} {f : Nat} {c a : AV} {p : List Int → Bool} {L : List (List Int)} (hC : PrC C f c p L) (ha : LV L a) (hl : L.length ≤ 900000) :
   rsOf (bodyA E C fg 1000000 64 [a, .clo f [.iptr [c] 0]] [] 0) = some (.int .i64 (ixL p L)) := by
 obtain ⟨⟨fi, hfi⟩, hm, hr⟩ := hC
 rcases ha with ⟨rfl, rfl⟩ | ⟨ex, rfl⟩
 · have hloop := Z5E (f := (execA E C (fg 64) 0 19 [] 1000000 Z4s)) (E0 := []) (s0 := ixS .nilsl 0 f c 0) rfl (e := .exit 0) (se := ([(9, .bool false), (8, .int .i64 0), (7, .int .i64 0), (1, .clo f [.iptr [c] 0]), (0, .nilsl)], []))
     (by simp (disch := omega) only [ZF, stp, just, Rd.bind, Rd.run, Rd.opt, upds, aBin, aInt, Nat.reduceEqDiff, Nat.reduceLeDiff, ↓reduceIte, F_64, ixS, cl0]) (by simp)
   simp only [ixS, cl0] at hloop
   have e : ixL p [] = -1 := rfl
   rw [e]
   simp (disch := omega) only [ZF, Z8, stp, just, Rd.bind, Rd.run, upds, resA, resL, aLen, Z4, Nat.reduceBEq, Nat.reduceEqDiff, Nat.reduceLeDiff, Int.reduceNeg, ↓reduceIte, reduceCtorEq, ZT, F_64, hloop]
 · have hlen := Z0a L
   have hgo : ∀ i, i < L.length → L.findIdx p > i → ∃ s', (execA E C (fg 64) 0 19 [] 1000000 Z4s) (ixS (.imm (lcs L) L.length ex) L.length f c i) = some (.normal, s') ∧ headA [] s' = ixS (.imm (lcs L) L.length ex) L.length f c (i + 1) := by
     intro i hi hp
     have hk : L[i]? = some L[i] := List.getElem?_eq_getElem hi
     have hat := Z5x hk
     have hrr := hr L[i] (List.getElem_mem hi)
     have hno := List.not_of_lt_findIdx hp
     rw [show p L[i] = false by simpa using hno] at hrr
     have g1 : (i : Int) < L.length := by omega
     simp (disch := omega) only [ZF, stp, just, Rd.bind, Rd.run, Rd.opt, upds, tsz, rdCells, aLoad, Z2, aNum, aBin, aInt, Nat.reduceMul, Nat.reduceLT, Nat.reduceBEq, Nat.reduceEqDiff, Nat.reduceLeDiff, ↓reduceIte, reduceCtorEq, aCall, snaps, opCallV, ZT, F_64, ixS, g1, hat, hlen, Zpe (hm _ _), hfi, hrr, Zl (show i < 1000000 by omega)]
     exact ⟨_, rfl, rfl⟩
   unfold ixL
   by_cases hlt : L.findIdx p < L.length
   · rw [if_pos hlt]
     have hk : L[L.findIdx p]? = some L[L.findIdx p] := List.getElem?_eq_getElem hlt
     have hat := Z5x hk
     have hrr := hr _ (List.getElem_mem hlt)
     rw [List.findIdx_getElem (w := hlt)] at hrr
     have hloop := loopM (f := (execA E C (fg 64) 0 19 [] 1000000 Z4s)) (E0 := []) (ixS (.imm (lcs L) L.length ex) L.length f c) (L.findIdx p) (fun i hi => hgo i (by omega) hi) rfl (by omega) (e := .ret) (se := ([(4, .int .i64 (L.findIdx p : Nat))], []))
       (by
         generalize L.findIdx p = m at *
         have g1 : (m : Int) < L.length := by omega
         simp (disch := omega) only [ZF, stp, just, Rd.bind, Rd.run, Rd.opt, upds, tsz, rdCells, aLoad, Z2, aNum, aBin, aInt, Nat.reduceMul, Nat.reduceLT, Nat.reduceBEq, Nat.reduceEqDiff, Nat.reduceLeDiff, ↓reduceIte, reduceCtorEq, aCall, snaps, opCallV, ZT, F_64, ixS, g1, hat, hlen, Zpe (hm _ _), hfi, hrr]) (by simp)
     simp only [ixS, cl0] at hloop
     simp (disch := omega) only [ZF, Z8, stp, just, Rd.bind, Rd.run, upds, resA, resL, aLen, Z4, Nat.reduceBEq, Nat.reduceEqDiff, Nat.reduceLeDiff, ↓reduceIte, reduceCtorEq, ZT, F_64, hloop]
   · rw [if_neg hlt]
     have hle := List.findIdx_le_length (xs := L) (p := p)
     have hloop := loopM (f := (execA E C (fg 64) 0 19 [] 1000000 Z4s)) (E0 := []) (ixS (.imm (lcs L) L.length ex) L.length f c) L.length (fun i hi => hgo i hi (by omega)) rfl (by omega) (e := .exit 0) (se := ([(9, .bool false), (8, .int .i64 L.length), (7, .int .i64 L.length), (1, .clo f [.iptr [c] 0]), (0, .imm (lcs L) L.length ex)], []))
       (by simp (disch := omega) only [ZF, stp, just, Rd.bind, Rd.run, Rd.opt, upds, aBin, aInt, Nat.reduceEqDiff, Nat.reduceLeDiff, ↓reduceIte, F_64, ixS]) (by simp)
     simp only [ixS, cl0] at hloop
     simp (disch := omega) only [ZF, Z8, stp, just, Rd.bind, Rd.run, upds, resA, resL, aLen, Z4, Nat.reduceBEq, Nat.reduceEqDiff, Nat.reduceLeDiff, Int.reduceNeg, ↓reduceIte, reduceCtorEq, ZT, F_64, hloop]
theorem ZWJ {d : Nat} {f : Nat} {c a : AV} {p : List Int → Bool} {L : List (List Int)} (hC : PrC (kF d) f c p L) (ha : LV L a) (hl : L.length ≤ 900000) {site : Nat → Nat} {seen : List Nat} :
   aBack site true seen (thaw (kF (d + 1)) 64 [a, .clo f [.iptr [c] 0]] [] 0) = .pure (.int .i64 (ixL p L), []) :=
 Z0W (Z1u rfl (Z0h5 hC ha hl))
theorem ZZ6 (p : List Int → Bool) (L : List (List Int)) : decide (ixL p L ≥ 0) = L.any p := by
 unfold ixL
 by_cases h : L.findIdx p < L.length
 · rw [if_pos h, decide_eq_true (by omega)]
   rw [eq_comm, List.any_eq_true]
   exact List.findIdx_lt_length.1 h
 · rw [if_neg h, decide_eq_false (by omega), eq_comm, List.any_eq_false]
   intro x hx hp
   exact h (List.findIdx_lt_length.2 ⟨x, hx, hp⟩)
theorem Z05l {d : Nat} {f : Nat} {c a : AV} {p : List Int → Bool} {L : List (List Int)} (hC : PrC (kF d) f c p L) (ha : LV L a) (hl : L.length ≤ 900000) (_ : ∀ e, snap (e + 8) c = .pure (c, [])) :
   rsOf (bodyA E (kF (d + 1)) fg 1000000 73 [a, .clo f [.iptr [c] 0]] [] 0) = some (.bool (L.any p)) := by
 have hi := fun (site : Nat → Nat) seen => ZWJ (site := site) (seen := seen) hC ha hl
 have sn : ∀ e, snap (e + 1) a = .pure (a, []) := by intro e; rcases ha with ⟨_, rfl⟩ | ⟨_, rfl⟩ <;> rfl
 generalize kF (d + 1) = C at *
 rw [← ZZ6]
 generalize ixL p L = z at *
 simp (disch := omega) only [ZF, Z8, stp, just, Rd.bind, Rd.run, Rd.opt, upds, resA, resL, aBin, aInt, Nat.reduceBEq, Nat.reduceEqDiff, Nat.reduceLeDiff, ↓reduceIte, reduceCtorEq, aCall, snaps, F_73, hi, sn]
theorem ZkE {d : Nat} {f : Nat} {c a : AV} {p : List Int → Bool} {L : List (List Int)} (hC : PrC (kF d) f c p L) (ha : LV L a) (hl : L.length ≤ 900000) (hs : ∀ e, snap (e + 8) c = .pure (c, [])) {site : Nat → Nat} {seen : List Nat} :
   aBack site true seen (thaw (kF (d + 2)) 73 [a, .clo f [.iptr [c] 0]] [] 0) = .pure (.bool (L.any p), []) :=
 Z1I (Z1u rfl (Z05l hC ha hl hs))
end Go.AM.Ytfmnoohhhokicaa
end
noncomputable section
namespace Go.AM.Ytfmnoohhhokicaa
open Go Go.AM Go.AM.Rub
def abF (a b : Nat → Int) (i : Nat) : Int := ps (fun k => max (a k - b k) (b k - a k)) i
theorem Zni (a b : Nat → Int) : ∀ n, abF a b n = ap a b n + ap b a n
 | 0 => rfl
 | n + 1 => by
   have ih := Zni a b n
   unfold abF ap at ih ⊢
   simp only [ps]
   omega
theorem ZwJ {a b : List Int} {n : Nat} (ha : Rw n a) (he : ps (rowF a) n = ps (rowF b) n) : abF (rowF a) (rowF b) n = 2 * (apL a b : Int) := by
 have h := Z6M (a := rowF a) (b := rowF b) n
 rw [Zni, Z0k, ha.len]
 omega
theorem Z0n8 {a b : List Int} {n : Nat} (ha : Rw n a) (hb : Rw n b) : ∀ i, i ≤ n → 0 ≤ abF (rowF a) (rowF b) i ∧ abF (rowF a) (rowF b) i ≤ 16 * i := fun i hi => by
 rw [Zni]
 have := ap_b ha hb i hi
 have := ap_b hb ha i hi
 omega
abbrev avS (a b : List Int) (n : Nat) (x y : Bool) (i : Nat) : St := ([(9, .int .i64 i), (8, .int .i64 n), (5, .int .i64 (abF (rowF a) (rowF b) i)), (1, .imm (ics b) n y), (0, .imm (ics a) n x)], [])
theorem ZFa {C : Callee} {a b : List Int} {n : Nat} {x y : Bool} (ha : Rw n a) (hb : Rw n b) (hn : n ≤ 8) : rsOf (bodyA E C fg 1000000 68 [.imm (ics a) n x, .imm (ics b) n y] [] 0) = some (.int .i64 (abF (rowF a) (rowF b) n)) := by
 have la : (ics a).length = n := by rw [Z6, ha.len]
 have lb : (ics b).length = n := by rw [Z6, hb.len]
 have hloop := loopM (f := (execA E C (fg 68) 0 35 [] 1000000 Z94)) (E0 := []) (avS a b n x y) n (fun i hi => by
     have a1 := Zu (l := a) (k := i) (by rw [ha.len]; exact hi)
     have a2 := Zu (l := b) (k := i) (by rw [hb.len]; exact hi)
     have b1 := rw_b ha (k := i) hi
     have b2 := rw_b hb (k := i) hi
     have b3 := Z0n8 ha hb i (by omega)
     have e : abF (rowF a) (rowF b) (i + 1) = abF (rowF a) (rowF b) i + max (rowF a i - rowF b i) (rowF b i - rowF a i) := rfl
     have g1 : (i : Int) < n := by omega
     simp only [avS, e]
     generalize abF (rowF a) (rowF b) i = P at *
     generalize rowF a i = u at *
     generalize rowF b i = v at *
     have w1 : wrp .i64 (u - v) = u - v := Zv (by omega)
     have w3 : wrp .i64 (v - u) = v - u := Zv (by omega)
     have w2 : wrp .i64 (P + max (u - v) (v - u)) = P + max (u - v) (v - u) := Zv (by omega)
     have e1 : (if v - u > u - v then v - u else u - v) = max (u - v) (v - u) := by split <;> omega
     simp (disch := omega) only [ZF, stp, justO, just, Rd.bind, Rd.run, Rd.opt, upds, tsz, rdCells, aLoad, Z2, aNum, Z4, aMax, aBin, aInt, Nat.reduceAdd, Nat.reduceLT, Nat.reduceBEq, Nat.reduceEqDiff, Nat.reduceLeDiff, ↓reduceIte, reduceCtorEq, stpT, Rd.foot, writing, Z9, Tr.empty, Za, ZT, F_68, aMax, g1, a1, a2, la, lb, w1, w2, w3, e1, Zl (show i < 1000000 by omega)]
     exact ⟨_, rfl, rfl⟩) rfl (by omega)
   (e := .exit 0) (se := ([(10, .bool false), (9, .int .i64 n), (8, .int .i64 n), (5, .int .i64 (abF (rowF a) (rowF b) n)), (1, .imm (ics b) n y), (0, .imm (ics a) n x)], []))
   (by simp (disch := omega) only [ZF, stp, just, Rd.bind, Rd.run, Rd.opt, upds, aBin, aInt, Nat.reduceEqDiff, Nat.reduceLeDiff, ↓reduceIte, F_68, avS]) (by simp)
 have e0 : abF (rowF a) (rowF b) 0 = 0 := rfl
 simp only [avS, cl0, e0] at hloop
 generalize abF (rowF a) (rowF b) n = P at *
 simp (disch := omega) only [ZF, Z8, stp, just, Rd.bind, Rd.run, upds, resA, resL, aLen, Z4, Nat.reduceBEq, Nat.reduceEqDiff, Nat.reduceLeDiff, ↓reduceIte, reduceCtorEq, ZT, F_68, hloop]
theorem ZuN {d : Nat} {site : Nat → Nat} {seen : List Nat} {a b : List Int} {n : Nat} {x y : Bool} (ha : Rw n a) (hb : Rw n b) (hn : n ≤ 8) : aBack site true seen (thaw (kF (d + 1)) 68 [.imm (ics a) n x, .imm (ics b) n y] [] 0) = .pure (.int .i64 (abF (rowF a) (rowF b) n), []) :=
 Z0W (Z1u rfl (ZFa ha hb hn))
end Go.AM.Ytfmnoohhhokicaa
end
noncomputable section
namespace Go.AM.Ytfmnoohhhokicaa
open Go Go.AM Go.AM.Rub
def mjE (a b : List Int) (i : Nat) : Int := if ps (rowF a) (i + 1) < ps (rowF b) (i + 1) then 1 else 0
theorem ZLi {n : Nat} {a b : List Int} (ha : Rw n a) (_ : Rw n b) (he : ps (rowF a) n = ps (rowF b) n) : fe (mjE a b) 0 n = 0 ↔ MajL a b := by
 rw [Z3u]
 constructor
 · intro h
   refine ⟨by rw [ha.len]; exact he, fun k hk => ?_⟩
   rw [ha.len] at hk
   cases k with
   | zero => exact Int.le_refl _
   | succ k =>
     have := h k (by omega) (by omega)
     unfold mjE at this
     split at this
     · exact absurd this (by decide)
     · omega
 · intro h i _ hi
   have := h.le (i + 1) (by rw [ha.len]; omega)
   unfold mjE
   rw [if_neg (by omega)]
abbrev voS (a b : List Int) (n : Nat) (x y : Bool) (i : Nat) : St := ([(8, .int .i64 i), (7, .int .i64 n), (1, .imm (ics b) n y), (0, .imm (ics a) n x)], [])
theorem ZLF {d : Nat} {a b : List Int} {n : Nat} {x y : Bool} (ha : Rw n a) (hb : Rw n b) (hn : n ≤ 8) : rsOf (bodyA E (kF (d + 1)) fg 1000000 62 [.imm (ics a) n x, .imm (ics b) n y] [] 0) = some (.bool (decide (fe (mjE a b) 0 n = 0))) := by
 have la : (ics a).length = n := by rw [Z6, ha.len]
 have lb : (ics b).length = n := by rw [Z6, hb.len]
 have hloop := loopE (f := execA E (kF (d + 1)) (fg 62) 0 23 [] 1000000 ZcH) (e := mjE a b) (R := fun _ H => ([(4, .bool false)], H)) (voS a b n x y) n (E0 := []) rfl (by omega) (x := .exit 0) (se := ([(9, .bool false), (8, .int .i64 n), (7, .int .i64 n), (1, .imm (ics b) n y), (0, .imm (ics a) n x)], [])) (by simp)
   (fun i hi _ he => by
     have ta := fun (site : Nat → Nat) seen x => Z2B (d := d) (site := site) (seen := seen) (ex := x) ha hn (show i + 1 ≤ n by omega)
     have tb := fun (site : Nat → Nat) seen x => Z2B (d := d) (site := site) (seen := seen) (ex := x) hb hn (show i + 1 ≤ n by omega)
     have a1 : List.take (i + 1) (ics a) = ics (a.take (i + 1)) := Z3I a _
     have b1 : List.take (i + 1) (ics b) = ics (b.take (i + 1)) := Z3I b _
     have g1 : (i : Int) < n := by omega
     have g2 : (0 : Int) ≤ ((i + 1 : Nat) : Int) ∧ ((i + 1 : Nat) : Int) ≤ (n : Int) := by omega
     have g3 : ¬ ps (rowF a) (i + 1) < ps (rowF b) (i + 1) := fun h => by unfold mjE at he; rw [if_pos h] at he; exact absurd he (by decide)
     generalize kF (d + 1) = C at *
     generalize ps (rowF a) (i + 1) = u at *
     generalize ps (rowF b) (i + 1) = v at *
     simp (disch := omega) only [ZF, stp, just, Rd.bind, Rd.run, Rd.opt, upds, tsz, aNum, aBin, aInt, Nat.reduceAdd, Nat.reduceBEq, Nat.reduceEqDiff, Nat.reduceLeDiff, ↓reduceIte, reduceCtorEq, stpT, Rd.foot, writing, Z9, Tr.empty, Za, window, aCall, snaps, aSlice, aBounds, bMax, bHigh, bLow, ZT, F_62, voS, la, lb, ta, tb, a1, b1, g1, g2, g3, Zl (show i < 1000000 by omega)]
     exact ⟨_, rfl, rfl⟩)
   (fun i hi _ he => by
     have ta := fun (site : Nat → Nat) seen x => Z2B (d := d) (site := site) (seen := seen) (ex := x) ha hn (show i + 1 ≤ n by omega)
     have tb := fun (site : Nat → Nat) seen x => Z2B (d := d) (site := site) (seen := seen) (ex := x) hb hn (show i + 1 ≤ n by omega)
     have a1 : List.take (i + 1) (ics a) = ics (a.take (i + 1)) := Z3I a _
     have b1 : List.take (i + 1) (ics b) = ics (b.take (i + 1)) := Z3I b _
     have g1 : (i : Int) < n := by omega
     have g2 : (0 : Int) ≤ ((i + 1 : Nat) : Int) ∧ ((i + 1 : Nat) : Int) ≤ (n : Int) := by omega
     have g3 : ps (rowF a) (i + 1) < ps (rowF b) (i + 1) := Classical.byContradiction fun h => he (by unfold mjE; rw [if_neg h])
     generalize kF (d + 1) = C at *
     generalize ps (rowF a) (i + 1) = u at *
     generalize ps (rowF b) (i + 1) = v at *
     simp (disch := omega) only [ZF, stp, just, Rd.bind, Rd.run, Rd.opt, upds, tsz, aNum, aBin, aInt, Nat.reduceAdd, Nat.reduceBEq, Nat.reduceEqDiff, Nat.reduceLeDiff, ↓reduceIte, reduceCtorEq, stpT, Rd.foot, writing, Z9, Tr.empty, Za, window, aCall, snaps, aSlice, aBounds, bMax, bHigh, bLow, ZT, F_62, voS, la, lb, ta, tb, a1, b1, g1, g2, g3, Zl (show i < 1000000 by omega)]
     exact ⟨_, rfl⟩)
   (fun _ => by
     generalize kF (d + 1) = C at *
     simp (disch := omega) only [ZF, stp, just, Rd.bind, Rd.run, Rd.opt, upds, aBin, aInt, Nat.reduceEqDiff, Nat.reduceLeDiff, ↓reduceIte, F_62, voS])
 simp only [voS, cl0] at hloop
 generalize kF (d + 1) = C at *
 rcases hloop with ⟨hz, hloop⟩ | ⟨hz, H, hloop⟩
 · rw [decide_eq_true hz]
   simp (disch := omega) only [ZF, Z8, stp, just, Rd.bind, Rd.run, upds, resA, resL, aLen, Z4, Nat.reduceBEq, Nat.reduceEqDiff, Nat.reduceLeDiff, ↓reduceIte, reduceCtorEq, ZT, F_62, hloop]
 · rw [decide_eq_false hz]
   simp (disch := omega) only [ZF, Z8, stp, just, Rd.bind, Rd.run, upds, resA, resL, aLen, Z4, Nat.reduceBEq, Nat.reduceEqDiff, Nat.reduceLeDiff, ↓reduceIte, reduceCtorEq, ZT, F_62, hloop]
theorem ZER {d : Nat} {site : Nat → Nat} {seen : List Nat} {a b : List Int} {n : Nat} {x y : Bool} (ha : Rw n a) (hb : Rw n b) (hn : n ≤ 8) : aBack site true seen (thaw (kF (d + 2)) 62 [.imm (ics a) n x, .imm (ics b) n y] [] 0) = .pure (.bool (decide (fe (mjE a b) 0 n = 0)), []) :=
 Z1I (Z1u rfl (ZLF ha hb hn))
end Go.AM.Ytfmnoohhhokicaa
end
noncomputable section
namespace Go.AM.Ytfmnoohhhokicaa
open Go Go.AM Go.AM.Rub
theorem Z01i {d : Nat} {l m : List Int} {x : Bool} (hl : l.length ≤ 1000) : rsOf (bodyA E (kF (d + 1)) fg 1000000 120 [.imm (ics l) l.length x, .iptr [.imm (ics m) m.length false] 0] [] 0) = some (.bool (decide (l = m))) := by
 have hs := fun (site : Nat → Nat) seen => Z41 (d := d) (site := site) (seen := seen) (Zai l x) (Zai m false) hl
 generalize kF (d + 1) = C at *
 simp (disch := omega) only [ZF, Z8, stp, just, Rd.bind, Rd.run, Rd.opt, upds, rdCells, aLoad, resA, resL, Nat.reduceBEq, Nat.reduceEqDiff, Nat.reduceLeDiff, ↓reduceIte, reduceCtorEq, aCall, snaps, ZT, Z0ne, hs]
theorem pr1 (d : Nat) (m : List Int) {L : List (List Int)} (hL : ∀ l ∈ L, l.length ≤ 1000) : PrC (kF (d + 2)) 120 (.imm (ics m) m.length false) (fun l => decide (l = m)) L :=
 ⟨⟨_, ZKV⟩, fun _ _ => rfl, fun l hl _ _ => Z1I (Z1u rfl (Z01i (hL l hl)))⟩
theorem Z0bh (m : List Int) (L : List (List Int)) : L.any (fun l => decide (l = m)) = decide (m ∈ L) := by
 rw [Bool.eq_iff_iff, List.any_eq_true, decide_eq_true_eq]
 constructor
 · rintro ⟨x, hx, e⟩; rw [← of_decide_eq_true e]; exact hx
 · intro h; exact ⟨m, h, decide_eq_true rfl⟩
theorem con1 {d : Nat} {m : List Int} {a : AV} {L : List (List Int)} (ha : LV L a) (hL : ∀ l ∈ L, l.length ≤ 1000) (hl : L.length ≤ 900000) {site : Nat → Nat} {seen : List Nat} :
   aBack site true seen (thaw (kF (d + 4)) 73 [a, .clo 120 [.iptr [.imm (ics m) m.length false] 0]] [] 0) = .pure (.bool (decide (m ∈ L)), []) := by
 have := ZkE (site := site) (seen := seen) (pr1 d m hL) ha hl (fun _ => rfl)
 rw [Z0bh] at this
 exact this
abbrev rbS (row : List Int) (n : Nat) (x : Bool) (i : Nat) (out : List (List Int)) (j : Nat) : St :=
 ([(14, .int .i64 j), (13, .int .i64 n), (9, .int .i64 i), (8, .int .i64 n), (4, .int .i64 i), (3, oV 50 1 out.length), (0, .imm (ics row) n x)], oH 50 (lcs out))
structure RbC (C : Callee) (row : List Int) (n : Nat) : Prop where
 cl : ∀ (site : Nat → Nat) seen x, aBack site true seen (thaw C 66 [.imm (ics row) n x] [] 0) = Z0m (site 0) seen (fun k => .ref k 0 n n n 1 false) ⟨.row, ics row⟩
 so : ∀ (H : AHeap) B k l, l.length = n → BdI l → hget H k = some ⟨.row, ics l⟩ → C 67 [.ref k 0 n n n 1 false] H B = some (.tup [], hset H k ⟨.row, ics (srtI l)⟩)
 co : ∀ (site : Nat → Nat) seen m a L, LV L a → (∀ l ∈ L, l.length ≤ 1000) → L.length ≤ 900000 → m.length = n → aBack site true seen (thaw C 73 [a, .clo 120 [.iptr [.imm (ics m) n false] 0]] [] 0) = .pure (.bool (decide (m ∈ L)), [])
theorem rbC (d : Nat) {row : List Int} {n : Nat} (hl : row.length = n) (h0 : 0 < n) (h6 : n ≤ 6) : RbC (kF (d + 6)) row n :=
 ⟨fun _ _ _ => Zby hl h0 (by omega), fun H B k l h1 h2 h3 => Z4C h1 h0 h6 h2 h3, fun site seen m a L h1 h2 h3 h4 => by subst h4; exact con1 (d := d + 2) h1 h2 h3⟩
theorem Z0kH {C : Callee} {row : List Int} {n : Nat} {x : Bool} (hC : RbC C row n) (h : Rw n row) (h6 : n ≤ 6) {i : Nat} (hi : i < n) {out : List (List Int)} (ho : out.length ≤ 100) (hol : ∀ l ∈ out, l.length ≤ 1000) (j : Nat) (hj : j < n) :
   ∃ s', (execA E C (fg 106) 0 54 [] 1000000 Z3C) (rbS row n x i out j) = some (.normal, s') ∧ headA [] s' = rbS row n x i (if rowF row i - rowF row j ≥ 2 then ad out (rubL row i j) else out) (j + 1) := by
 have hl := h.len
 have hlen : (ics row).length = n := by rw [Z6, hl]
 have a1 := Zu (l := row) (k := i) (by omega)
 have a2 := Zu (l := row) (k := j) (by omega)
 have b1 := rw_b h hi
 have b2 := rw_b h hj
 have g1 : (i : Int) < n := by omega
 have g2 : (j : Int) < n := by omega
 have w : wrp .i64 (rowF row i - rowF row j) = rowF row i - rowF row j := Zv (by omega)
 by_cases hd : rowF row i - rowF row j ≥ 2
 · rw [if_pos hd]
   have r := Z3m h hi hj hd
   have hij := r.lt
   have hno : ¬ rowF row i - rowF row j < 2 := by omega
   have hcl := hC.cl
   have w1 : wrp .i64 (rowF row i - 1) = rowF row i - 1 := Zv (by omega)
   have w2 : wrp .i64 (rowF row j + 1) = rowF row j + 1 := Zv (by omega)
   have e1 := Z15 row i (rowF row i - 1)
   have l1 : (ics (row.set i (rowF row i - 1))).length = n := by rw [Z6, List.length_set, hl]
   have a3 : (ics (row.set i (rowF row i - 1)))[j]? = some (.int .i64 (rowF row j)) := by
     refine Z1T ?_
     rw [List.getElem?_set_ne (by omega)]
     exact Z2y (by omega)
   have e2 := Z15 (row.set i (rowF row i - 1)) j (rowF row j + 1)
   have e3 : (row.set i (rowF row i - 1)).set j (rowF row j + 1) = mvL row i j := rfl
   rw [e3] at e2
   have l2 : (ics (mvL row i j)).length = n := by rw [Z6, Zw, hl]
   have hso := fun (H : AHeap) B k => hC.so H B k (mvL row i j) (by rw [Zw, hl]) (fun k hk => by
     rw [Zw, hl] at hk
     rw [Z0M hij (by omega)]
     have := rw_b h hk
     unfold mvF
     split
     · omega
     · split <;> omega)
   rw [ZdY h r] at hso
   have hrl : (rubL row i j).length = n := by show (mvL row _ _).length = n; rw [Zw, hl]
   have l3 : (ics (rubL row i j)).length = n := by rw [Z6, hrl]
   have t3 : List.take n (ics (rubL row i j)) = ics (rubL row i j) := List.take_of_length_le (by omega)
   have hsn := Zoz out (rubL row i j)
   rw [hrl] at hsn
   have hco := fun (site : Nat → Nat) seen a ha => hC.co site seen (rubL row i j) a out ha hol (by omega) hrl
   have hlo := Z0a out
   have hto := Zhz out
   have had : ad out (rubL row i j) = if rubL row i j ∈ out then out else out ++ [rubL row i j] := rfl
   rw [had]
   generalize rubL row i j = R at *
   generalize ics R = RI at *
   generalize ics (mvL row i j) = M2 at *
   generalize ics (row.set i (rowF row i - 1)) = M1 at *
   simp only [rbS]
   cases hn : out with
   | nil =>
     subst hn
     have hco := fun (site : Nat → Nat) seen => hco site seen .nilsl (.inl ⟨rfl, rfl⟩)
     have hm : ¬ R ∈ ([] : List (List Int)) := by simp
     rw [decide_eq_false hm] at hco
     rw [if_neg hm]
     have oh0 : oH 50 (lcs []) = [] := rfl
     rw [List.nil_append] at hsn ⊢
     have hln : lcs [] = [] := rfl
     rw [hln, List.nil_append] at hsn
     rw [Z3v (L := [R]) (by simp), ← hsn, oh0, List.length_nil, Z7M, List.length_singleton, Z2k (show 0 < 1 by omega)]
     have h1 := hso [(6, ⟨.box, [.ref 28 0 n n n 1 false]⟩), (28, ⟨.row, M2⟩)] 432 28 rfl
     simp only [Z2n, Z39, Nat.reduceEqDiff, if_true, if_false, Nat.reduceLeDiff] at h1
     simp (disch := omega) only [ZF, stp, opBox, justO, just, Rd.bind, Rd.run, Rd.opt, upds, acells, zeroCells, tsz, elemT, rdCells, aLoad, aStore, opStore, fresh, Z2, aNum, Z4, aBin, aInt, putC, evO, Nat.reduceAdd, Nat.reduceMul, Nat.reduceLT, Nat.reduceBEq, Nat.reduceEqDiff, Nat.reduceLeDiff, ↓reduceIte, reduceCtorEq, stpT, Rd.foot, writing, Z9, Tr.empty, Za, Zi, Z0b, partsOf, fillA, repC, Z0i, aAppend, srcOf, window, aUn, mutX, aCall, snaps, ZT, Z2J, hlen, a1, a2, a3, g1, g2, w, w1, w2, hno, hcl, e1, e2, l1, l3, t3, h1, hco, if_pos, Zn2 (show 1 ≤ 1000000 by omega), Zl (show j < 1000000 by omega)]
     exact ⟨_, rfl, rfl⟩
   | cons y ys =>
     rw [← hn]
     have h0 : 0 < out.length := by rw [hn]; simp
     have hco := fun (site : Nat → Nat) seen ex => hco site seen (.imm (lcs out) out.length ex) (.inr ⟨ex, rfl⟩)
     rw [Z2k h0, Z3v h0]
     have h1 := hso [(6, ⟨.box, [.ref 28 0 n n n 1 false]⟩), (28, ⟨.row, M2⟩), (50, ⟨.row, lcs out⟩)] 432 28 rfl
     simp only [Z2n, Z39, Nat.reduceEqDiff, if_true, if_false, Nat.reduceLeDiff] at h1
     by_cases hm : R ∈ out
     · rw [decide_eq_true hm] at hco
       rw [if_pos hm, Z2k h0, Z3v h0]
       generalize lcs out = LO at *
       generalize out.length = m at *
       simp (disch := omega) only [ZF, stp, opBox, justO, just, Rd.bind, Rd.run, Rd.opt, upds, acells, zeroCells, tsz, elemT, rdCells, aLoad, aStore, opStore, fresh, Z2, aNum, Z4, aBin, aInt, putC, evO, Nat.reduceAdd, Nat.reduceMul, Nat.reduceLT, Nat.reduceBEq, Nat.reduceEqDiff, Nat.reduceLeDiff, ↓reduceIte, reduceCtorEq, stpT, Rd.foot, writing, Z9, Tr.empty, Za, Zi, Z0b, partsOf, fillA, repC, Z0i, aAppend, srcOf, window, aUn, mutX, aCall, snaps, ZT, Z2J, hlen, a1, a2, a3, g1, g2, w, w1, w2, hno, hcl, e1, e2, l1, l3, t3, h1, hco, hlo, hto, if_pos, Zl (show j < 1000000 by omega)]
       exact ⟨_, rfl, rfl⟩
     · rw [decide_eq_false hm] at hco
       rw [if_neg hm, List.length_append, List.length_singleton, Z2k (show 0 < out.length + 1 by omega), Z3v (L := out ++ [R]) (by simp), ← hsn]
       have hno2 : ¬ out.length + 1 ≤ out.length := by omega
       generalize lcs out = LO at *
       generalize out.length = m at *
       simp (disch := omega) only [ZF, stp, opBox, justO, just, Rd.bind, Rd.run, Rd.opt, upds, acells, zeroCells, tsz, elemT, rdCells, aLoad, aStore, opStore, fresh, Z2, aNum, Z4, aBin, aInt, putC, evO, Nat.reduceAdd, Nat.reduceMul, Nat.reduceLT, Nat.reduceBEq, Nat.reduceEqDiff, Nat.reduceLeDiff, ↓reduceIte, reduceCtorEq, stpT, Rd.foot, writing, Z9, Tr.empty, Za, Zi, Z0b, partsOf, fillA, repC, Z0i, aAppend, srcOf, window, aUn, mutX, aCall, snaps, ZT, Z2J, hlen, a1, a2, a3, g1, g2, w, w1, w2, hno, hno2, hcl, e1, e2, l1, l3, t3, h1, hco, hlo, hto, if_pos, Zn2 (show m + 1 ≤ 1000000 by omega), Zl (show j < 1000000 by omega)]
       exact ⟨_, rfl, rfl⟩
 · rw [if_neg hd]
   have hlt : rowF row i - rowF row j < 2 := by omega
   simp only [rbS]
   cases hn : out with
   | nil =>
     have oh0 : oH 50 (lcs []) = [] := rfl
     rw [oh0, List.length_nil, Z7M]
     simp (disch := omega) only [ZF, stp, just, Rd.bind, Rd.run, Rd.opt, upds, tsz, rdCells, aLoad, Z2, aNum, aBin, aInt, Nat.reduceAdd, Nat.reduceLT, Nat.reduceBEq, Nat.reduceEqDiff, Nat.reduceLeDiff, ↓reduceIte, reduceCtorEq, stpT, Rd.foot, writing, Z9, Tr.empty, Za, ZT, Z2J, hlen, a1, a2, g1, g2, w, hlt, Zl (show j < 1000000 by omega)]
     exact ⟨_, rfl, rfl⟩
   | cons y ys =>
     rw [← hn]
     have h0 : 0 < out.length := by rw [hn]; simp
     rw [Z2k h0, Z3v h0]
     generalize lcs out = LO at *
     generalize out.length = m at *
     simp (disch := omega) only [ZF, stp, just, Rd.bind, Rd.run, Rd.opt, upds, tsz, rdCells, aLoad, Z2, aNum, aBin, aInt, Nat.reduceAdd, Nat.reduceLT, Nat.reduceBEq, Nat.reduceEqDiff, Nat.reduceLeDiff, ↓reduceIte, reduceCtorEq, stpT, Rd.foot, writing, Z9, Tr.empty, Za, ZT, Z2J, hlen, a1, a2, g1, g2, w, hlt, Zl (show j < 1000000 by omega)]
     exact ⟨_, rfl, rfl⟩
end Go.AM.Ytfmnoohhhokicaa
end
noncomputable section
namespace Go.AM.Rub
theorem Z5v {α : Type} [DecidableEq α] (l : α) : ∀ (ls all : List α), addN all (ls ++ [l]) = if l ∈ addN all ls then addN all ls else addN all ls ++ [l]
 | [], all => by by_cases h : l ∈ all <;> simp [addN, h]
 | x :: ls, all => by
   simp only [List.cons_append, addN]
   split
   · exact Z5v l ls all
   · exact Z5v l ls _
def bfR (a : List Int) : Nat → List (List Int)
 | 0 => [a]
 | i + 1 => match (bfR a i)[i]? with
   | some x => addN (bfR a i) (rbL x)
   | none => bfR a i
def DwR (n : Nat) (a : List Int) : List Int → Prop := fun b => Rw n b ∧ MajL a b
theorem lev {n : Nat} {a : List Int} (ha : Rw n a) : Lev (DwR n a) rbL (apL a) a := Z090 ha rbL fun _ hx y => Zzx hx y
theorem Z3r {n : Nat} {a : List Int} (ha : Rw n a) : ∀ i, (∀ j, j < i → j < (bfR a j).length) → BInv (DwR n a) rbL (apL a) a (bfR a i) i
 | 0, _ => ZG3 (lev ha)
 | i + 1, h => by
   have ih := Z3r ha i fun j hj => h j (by omega)
   have hi := h i (by omega)
   have hx : (bfR a i)[i]? = some (bfR a i)[i] := List.getElem?_eq_getElem hi
   simp only [bfR, hx]
   exact (Znm (lev ha) ih hx).1
theorem Zpl {n : Nat} {a : List Int} (ha : Rw n a) {L : List (List Int)} (hn : L.Nodup) (hs : ∀ x ∈ L, DwR n a x) : L.length ≤ 9 ^ n := by
 refine Nat.le_trans (ZgU L (rowsL n (totL a) 8) hn fun x hx => ?_) (Zer n _ 8 (by omega))
 obtain ⟨h1, h2⟩ := hs x hx
 rw [Z5V]
 exact ⟨h1.len, (ZOd (by rw [ha.len, h1.len]) h2).symm, h1.row⟩
theorem ZSI {n : Nat} {a : List Int} (ha : Rw n a) : ∃ N, (∀ j, j < N → j < (bfR a j).length) ∧ (bfR a N).length ≤ N := by
 have key : ∀ m i : Nat, i + m = 9 ^ n + 1 → (∀ j, j < i → j < (bfR a j).length) → ∃ N, (∀ j, j < N → j < (bfR a j).length) ∧ (bfR a N).length ≤ N := by
   intro m
   induction m with
   | zero =>
     intro i hi h
     have inv := Z3r ha i h
     have := Zpl ha inv.nd inv.sub
     have := inv.le
     omega
   | succ m ih =>
     intro i hi h
     by_cases hlt : i < (bfR a i).length
     · exact ih (i + 1) (by omega) fun j hj => if e : j = i then by rw [e]; exact hlt else h j (by omega)
     · exact ⟨i, h, by omega⟩
 exact key (9 ^ n + 1) 0 (by omega) fun j hj => by omega
def reN (a : List Int) : Nat := Classical.epsilon fun N : Nat => (∀ j, j < N → j < (bfR a j).length) ∧ (bfR a N).length ≤ N
theorem Z8w {n : Nat} {a : List Int} (ha : Rw n a) : (∀ j, j < reN a → j < (bfR a j).length) ∧ (bfR a (reN a)).length ≤ reN a := by
 exact Classical.epsilon_spec (ZSI ha)
def reL (a : List Int) : List (List Int) := bfR a (reN a)
theorem ZCS {n : Nat} {a : List Int} (ha : Rw n a) : (reL a).length = reN a := by
 obtain ⟨h1, h2⟩ := Z8w ha
 have := (Z3r ha _ h1).le
 unfold reL; omega
structure Rch (n : Nat) (a : List Int) (all : List (List Int)) : Prop where
 nd : all.Nodup
 mem : ∀ y, y ∈ all ↔ Rw n y ∧ MajL a y
 hd : all[0]? = some a
 srt : ∀ (k m : Nat) (x y : List Int), k ≤ m → all[k]? = some x → all[m]? = some y → apL a x ≤ apL a y
 len : all.length ≤ 9 ^ n
 pos : 0 < all.length
theorem ZGX {n : Nat} {a : List Int} (ha : Rw n a) : Rch n a (reL a) := by
 obtain ⟨h1, _⟩ := Z8w ha
 have inv := Z3r ha _ h1
 have hl := ZCS ha
 have inv' : BInv (DwR n a) rbL (apL a) a (reL a) (reL a).length := by rw [hl]; exact inv
 refine ⟨inv.nd, Z01z (lev ha) inv', inv.hd, inv.srt, Zpl ha inv.nd inv.sub, ?_⟩
 exact (List.getElem?_eq_some_iff.1 inv.hd).1
theorem Z038 {n : Nat} {a : List Int} (ha : Rw n a) {i : Nat} (h : ∀ j, j < i → j < (bfR a j).length) {x : List Int} (hx : (bfR a i)[i]? = some x) {l : List Int} (hl : l ∈ rbL x) (hno : l ∉ bfR a i) : apL a l = apL a x + 1 := by
 have inv := Z3r ha i h
 have hs := (Znm (lev ha) inv hx).2
 obtain ⟨new, e, _, _, c⟩ := Z3c (rbL x) (bfR a i)
 have hm := c l hl
 rw [List.mem_append] at hm
 exact hs new e l (hm.resolve_left hno)
theorem ZWr {a b : Nat → Int} : ∀ n, (∀ k, k < n → 0 ≤ b k ∧ 0 ≤ a k ∧ a k ≤ 8) → ap a b n ≤ 8 * n
 | 0, _ => by simp [ap, ps]
 | n + 1, h => by
   have ih := ZWr (a := a) (b := b) n fun k hk => h k (by omega)
   have := h n (by omega)
   unfold ap at ih ⊢
   simp only [ps]
   omega
theorem Zp8 {n : Nat} {a b : List Int} (ha : Rw n a) (hb : Rw n b) : apL a b ≤ 8 * n := by
 have c := Z0k a b
 have h := ZWr (a := rowF a) (b := rowF b) a.length fun k hk => by
   rw [ha.len] at hk
   have h1 := Z1B ha.row k (by rw [ha.len]; exact hk)
   have h2 := Z1B hb.row k (by rw [hb.len]; exact hk)
   omega
 rw [ha.len] at h
 rw [ha.len] at c
 omega
end Go.AM.Rub
end
noncomputable section
namespace Go.AM.Ytfmnoohhhokicaa
open Go Go.AM Go.AM.Rub
abbrev rbT (row : List Int) (n : Nat) (x : Bool) (out : List (List Int)) (i : Nat) : St :=
 ([(9, .int .i64 i), (8, .int .i64 n), (3, oV 50 1 out.length), (0, .imm (ics row) n x)], oH 50 (lcs out))
theorem ocvL (k : Nat) (L : List (List Int)) : (L = [] ∧ oV k 1 L.length = .nilsl ∧ oH k (lcs L) = []) ∨ (0 < L.length ∧ oV k 1 L.length = .ref k 0 L.length L.length L.length 1 false ∧ oH k (lcs L) = [(k, ⟨.row, lcs L⟩)]) := by
 cases L with
 | nil => exact .inl ⟨rfl, rfl, rfl⟩
 | cons x L => exact .inr ⟨by simp, Z2k (by simp), Z3v (by simp)⟩
theorem Z0gU {C : Callee} {row : List Int} {n : Nat} {x : Bool} (hC : RbC C row n) (h : Rw n row) (h6 : n ≤ 6) (i : Nat) (hi : i < n) :
   ∃ s', (execA E C (fg 106) 0 54 [] 1000000 Z51) (rbT row n x (rbO row n i) i) = some (.normal, s') ∧ headA [] s' = rbT row n x (rbO row n (i + 1)) (i + 1) := by
 have hl := h.len
 have hlen : (ics row).length = n := by rw [Z6, hl]
 have b0 := ZdK row n i
 have hb : ∀ m, m ≤ n → (rbI row i (rbO row n i) m).length ≤ 100 := fun m hm => by
   have := ZdS row i (rbO row n i) m
   have : i * n ≤ 6 * 6 := Nat.mul_le_mul (by omega) h6
   omega
 have hloop := loopM (f := (execA E C (fg 106) 0 54 [] 1000000 Z3C)) (E0 := []) (fun j => rbS row n x i (rbI row i (rbO row n i) j) j) n (fun j hj => Z0kH hC h h6 hi (hb j (by omega)) (fun l hl => by
     have := (ZZg h hi (by omega) hl).len; omega) j hj) (by
     simp only [rbS, rbI]
     rcases ocvL 50 (rbO row n i) with ⟨_, o1, o2⟩ | ⟨_, o1, o2⟩ <;> rw [o1, o2] <;> rfl) (by omega)
   (e := .exit 2) (se := ([(15, .bool false), (14, .int .i64 n), (13, .int .i64 n), (9, .int .i64 i), (8, .int .i64 n), (4, .int .i64 i), (3, oV 50 1 (rbO row n (i + 1)).length), (0, .imm (ics row) n x)], oH 50 (lcs (rbO row n (i + 1)))))
   (by
     have e : rbI row i (rbO row n i) n = rbO row n (i + 1) := rfl
     simp only [rbS, e]
     rcases ocvL 50 (rbO row n (i + 1)) with ⟨_, o1, o2⟩ | ⟨_, o1, o2⟩ <;> rw [o1, o2] <;> simp (disch := omega) only [ZF, stp, just, Rd.bind, Rd.run, Rd.opt, upds, aBin, aInt, Nat.reduceEqDiff, Nat.reduceLeDiff, ↓reduceIte, Z2J]) (by simp)
 have g1 : (i : Int) < n := by omega
 simp only [rbS, rbI, cl0] at hloop
 simp only [rbT]
 generalize rbO row n (i + 1) = L2 at *
 generalize rbO row n i = L1 at *
 rcases ocvL 50 L1 with ⟨_, o1, o2⟩ | ⟨_, o1, o2⟩ <;> rw [o1, o2] at hloop ⊢ <;> rcases ocvL 50 L2 with ⟨_, p1, p2⟩ | ⟨_, p1, p2⟩ <;> rw [p1, p2] at hloop ⊢ <;>
   simp (disch := omega) only [ZF, stp, just, Rd.bind, Rd.run, Rd.opt, upds, aLen, Z4, aBin, aInt, Nat.reduceBEq, Nat.reduceEqDiff, Nat.reduceLeDiff, ↓reduceIte, reduceCtorEq, ZT, Z2J, g1, hloop, Zl (show i < 1000000 by omega)] <;> exact ⟨_, rfl, rfl⟩
theorem ZuH {C : Callee} {row : List Int} {n : Nat} {x : Bool} (hC : RbC C row n) (h : Rw n row) (h6 : n ≤ 6) :
   (rbL row = [] ∧ ∃ H, bodyA E C fg 1000000 106 [.imm (ics row) n x] [] 0 = some (.nilsl, H)) ∨
   (0 < (rbL row).length ∧ ∃ H, bodyA E C fg 1000000 106 [.imm (ics row) n x] [] 0 = some (.ref 50 0 (rbL row).length (rbL row).length (rbL row).length 1 false, H) ∧ hget H 50 = some ⟨.row, lcs (rbL row)⟩) := by
 have hl := h.len
 have hlen : (ics row).length = n := by rw [Z6, hl]
 have eL : rbL row = rbO row n n := by unfold rbL; rw [hl]
 have hloop := loopM (f := (execA E C (fg 106) 0 54 [] 1000000 Z51)) (E0 := []) (fun i => rbT row n x (rbO row n i) i) n (fun i hi => Z0gU hC h h6 i hi) rfl (by omega)
   (e := .exit 0) (se := ([(10, .bool false), (9, .int .i64 n), (8, .int .i64 n), (3, oV 50 1 (rbL row).length), (0, .imm (ics row) n x)], oH 50 (lcs (rbL row))))
   (by
     rw [eL]
     simp only [rbT]
     rcases ocvL 50 (rbO row n n) with ⟨_, o1, o2⟩ | ⟨_, o1, o2⟩ <;> rw [o1, o2] <;> simp (disch := omega) only [ZF, stp, just, Rd.bind, Rd.run, Rd.opt, upds, aBin, aInt, Nat.reduceEqDiff, Nat.reduceLeDiff, ↓reduceIte, Z2J]) (by simp)
 have e0 : oH 50 (lcs (rbO row n 0)) = [] := rfl
 have e1 : oV 50 1 (rbO row n 0).length = .nilsl := rfl
 simp only [rbT, e0, e1, cl0] at hloop
 rcases ocvL 50 (rbL row) with ⟨hn, o1, o2⟩ | ⟨hp, o1, o2⟩ <;> rw [o1, o2] at hloop
 · refine .inl ⟨hn, ?_⟩
   simp (disch := omega) only [ZF, Z8, stp, just, Rd.bind, Rd.run, upds, resA, resL, aLen, Z4, Nat.reduceBEq, Nat.reduceEqDiff, Nat.reduceLeDiff, ↓reduceIte, reduceCtorEq, ZT, Z2J, hloop]
   exact ⟨_, rfl⟩
 · refine .inr ⟨hp, ?_⟩
   simp (disch := omega) only [ZF, Z8, stp, just, Rd.bind, Rd.run, upds, resA, resL, aLen, Z4, Nat.reduceBEq, Nat.reduceEqDiff, Nat.reduceLeDiff, ↓reduceIte, reduceCtorEq, ZT, Z2J, hloop]
   exact ⟨_, rfl, rfl⟩
theorem Znw {d : Nat} {site : Nat → Nat} {seen : List Nat} {row : List Int} {n : Nat} {x : Bool} (h : Rw n row) (h0 : 0 < n) (h6 : n ≤ 6) : aBack site true seen (thaw (kF (d + 7)) 106 [.imm (ics row) n x] [] 0) =
   if rbL row = [] then .pure (.nilsl, []) else Z0m (site 0) seen (fun k => .ref k 0 (rbL row).length (rbL row).length (rbL row).length 1 false) ⟨.row, lcs (rbL row)⟩ := by
 rcases ZuH (x := x) (rbC d h.len h0 h6) h h6 with ⟨e, H, h1⟩ | ⟨hp, H, h1, h2⟩
 · rw [if_pos e]
   exact ZIK ⟨H, by rw [Z11 rfl]; exact h1⟩
 · rw [if_neg (fun e => by rw [e] at hp; simp at hp)]
   exact Z2m (by rw [Z11 rfl]; exact h1) h2 (Z0a _)
end Go.AM.Ytfmnoohhhokicaa
end
noncomputable section
namespace Go.AM.Ytfmnoohhhokicaa
open Go Go.AM Go.AM.Rub
theorem ZXd {d : Nat} {l m : List Int} {x : Bool} (hl : m.length ≤ 1000) : rsOf (bodyA E (kF (d + 1)) fg 1000000 107 [.imm (ics l) l.length x, .iptr [.imm (ics m) m.length false] 0] [] 0) = some (.bool (decide (m = l))) := by
 have hs := fun (site : Nat → Nat) seen => Z41 (d := d) (site := site) (seen := seen) (Zai m false) (Zai l x) hl
 generalize kF (d + 1) = C at *
 simp (disch := omega) only [ZF, Z8, stp, just, Rd.bind, Rd.run, Rd.opt, upds, rdCells, aLoad, resA, resL, Nat.reduceBEq, Nat.reduceEqDiff, Nat.reduceLeDiff, ↓reduceIte, reduceCtorEq, aCall, snaps, ZT, Z0m2, hs]
theorem pr2 (d : Nat) (m : List Int) {L : List (List Int)} (hL : m.length ≤ 1000) : PrC (kF (d + 2)) 107 (.imm (ics m) m.length false) (fun l => decide (m = l)) L :=
 ⟨⟨_, ZK4⟩, fun _ _ => rfl, fun _ _ _ _ => Z1I (Z1u rfl (ZXd hL))⟩
theorem Z01q (m : List Int) (L : List (List Int)) : L.any (fun l => decide (m = l)) = decide (m ∈ L) := by
 rw [Bool.eq_iff_iff, List.any_eq_true, decide_eq_true_eq]
 constructor
 · rintro ⟨x, hx, e⟩; rw [of_decide_eq_true e]; exact hx
 · intro h; exact ⟨m, h, decide_eq_true rfl⟩
theorem con2 {d : Nat} {m : List Int} {a : AV} {L : List (List Int)} (ha : LV L a) (hL : m.length ≤ 1000) (hl : L.length ≤ 900000) {site : Nat → Nat} {seen : List Nat} :
   aBack site true seen (thaw (kF (d + 4)) 73 [a, .clo 107 [.iptr [.imm (ics m) m.length false] 0]] [] 0) = .pure (.bool (decide (m ∈ L)), []) := by
 have := ZkE (site := site) (seen := seen) (pr2 d m (L := L) hL) ha hl (fun _ => rfl)
 rw [Z01q] at this
 exact this
structure ReC (C : Callee) (n : Nat) : Prop where
 co : ∀ (site : Nat → Nat) seen m a L, LV L a → L.length ≤ 900000 → m.length = n → aBack site true seen (thaw C 73 [a, .clo 107 [.iptr [.imm (ics m) n false] 0]] [] 0) = .pure (.bool (decide (m ∈ L)), [])
 rb : ∀ (site : Nat → Nat) seen row x, Rw n row → aBack site true seen (thaw C 106 [.imm (ics row) n x] [] 0) = if rbL row = [] then .pure (.nilsl, []) else Z0m (site 0) seen (fun k => .ref k 0 (rbL row).length (rbL row).length (rbL row).length 1 false) ⟨.row, lcs (rbL row)⟩
theorem reC (d : Nat) {n : Nat} (h0 : 0 < n) (h6 : n ≤ 6) : ReC (kF (d + 7)) n :=
 ⟨fun site seen m a L h1 h2 h3 => by subst h3; exact con2 (d := d + 3) h1 (by omega) h2, fun site seen row x h => Znw (d := d) h h0 h6⟩
def farL (a : List Int) (L : List (List Int)) : List Int := L.map fun b => (apL a b : Int)
theorem Z8o (a : List Int) (L : List (List Int)) : (farL a L).length = L.length := by simp [farL]
theorem Zyl {a : List Int} {L : List (List Int)} {k : Nat} {b : List Int} (h : L[k]? = some b) : (farL a L)[k]? = some (apL a b : Int) := by simp [farL, h]
abbrev riI (a : List Int) (nbs all : List (List Int)) (i k : Nat) : St :=
 ([(24, .int .i64 k), (23, .int .i64 nbs.length), (22, .ref 22 0 nbs.length nbs.length nbs.length 1 false), (6, .int .i64 i), (5, .ref 11 0 all.length all.length all.length 1 false), (4, .ref 10 0 all.length all.length all.length 1 false)],
   [(10, ⟨.row, lcs all⟩), (11, ⟨.row, ics (farL a all)⟩), (22, ⟨.row, lcs nbs⟩)])
theorem Z0k2 {C : Callee} {n : Nat} {a x : List Int} {nbs all : List (List Int)} (hC : ReC C n) (ha : all.length ≤ 800000) (hn : nbs.length ≤ 100) {i : Nat} (hi : i < all.length) (hx : all[i]? = some x) (hxf : apL a x ≤ 1000) (k : Nat) {l : List Int} (hk : nbs[k]? = some l) (hl : l.length = n) (hD : l ∉ all → apL a l = apL a x + 1) :
   ∃ s', (execA E C (fg 63) 0 47 [] 1000000 Z3E) (riI a nbs all i k) = some (.normal, s') ∧ headA [] s' = riI a nbs (ad all l) i (k + 1) := by
 have hkl := (List.getElem?_eq_some_iff.1 hk).1
 have hat := Z5x hk
 rw [hl] at hat
 have hln := Z0a nbs
 have hla := Z0a all
 have hta := Zhz all
 have hfl : (ics (farL a all)).length = all.length := by rw [Z6, Z8o]
 have htf : List.take all.length (ics (farL a all)) = ics (farL a all) := List.take_of_length_le (by omega)
 have hfa := Z1T (Zyl (a := a) hx)
 have hco := fun (site : Nat → Nat) seen ex => hC.co site seen l (.imm (lcs all) all.length ex) all (.inr ⟨ex, rfl⟩) (by omega) hl
 have g1 : (k : Int) < nbs.length := by omega
 have g2 : (i : Int) < all.length := by omega
 have w : wrp .i64 ((apL a x : Int) + 1) = (apL a x : Int) + 1 := Zv (by omega)
 have had : ad all l = if l ∈ all then all else all ++ [l] := rfl
 rw [had]
 by_cases hm : l ∈ all
 · rw [if_pos hm]
   rw [decide_eq_true hm] at hco
   simp only [riI]
   generalize ics (farL a all) = F at *
   generalize lcs all = A at *
   generalize all.length = m at *
   generalize lcs nbs = NB at *
   generalize nbs.length = nn at *
   simp (disch := omega) only [ZF, stp, opBox, justO, just, Rd.bind, Rd.run, Rd.opt, upds, acells, zeroCells, tsz, elemT, rdCells, aLoad, aStore, opStore, fresh, Z2, aNum, Z4, aBin, aInt, putC, evO, Nat.reduceAdd, Nat.reduceLT, Nat.reduceBEq, Nat.reduceEqDiff, Nat.reduceLeDiff, ↓reduceIte, reduceCtorEq, stpT, Rd.foot, Zi, Z0b, partsOf, fillA, repC, Z0i, aAppend, srcOf, window, aUn, aCall, snaps, ZT, F_63, hat, hln, hla, hta, hco, g1, Zl (show k < 1000000 by omega)]
   exact ⟨_, rfl, rfl⟩
 · rw [if_neg hm]
   rw [decide_eq_false hm] at hco
   have s1 := Zoz all l
   rw [hl] at s1
   have s2 := Z8K (farL a all) ((apL a x : Int) + 1)
   have e2 : farL a all ++ [(apL a x : Int) + 1] = farL a (all ++ [l]) := by
     have := hD hm
     simp only [farL, List.map_append, List.map_cons, List.map_nil, this]
     simp
   rw [e2] at s2
   have hno : ¬ all.length + 1 ≤ all.length := by omega
   simp only [riI, List.length_append, List.length_singleton]
   rw [← s1, ← s2]
   generalize ics (farL a all) = F at *
   generalize lcs all = A at *
   generalize all.length = m at *
   generalize lcs nbs = NB at *
   generalize nbs.length = nn at *
   simp (disch := omega) only [ZF, stp, opBox, justO, just, Rd.bind, Rd.run, Rd.opt, upds, acells, zeroCells, tsz, elemT, rdCells, aLoad, aStore, opStore, fresh, Z2, aNum, Z4, aBin, aInt, putC, evO, Nat.reduceAdd, Nat.reduceLT, Nat.reduceBEq, Nat.reduceEqDiff, Nat.reduceLeDiff, ↓reduceIte, reduceCtorEq, stpT, Rd.foot, writing, Z9, Tr.empty, Za, apartT, disj, Zi, Z0b, partsOf, fillA, repC, Z0i, aAppend, srcOf, window, aUn, aCall, snaps, ZT, F_63, hat, hln, hla, hta, hfl, htf, hfa, hco, g1, g2, w, hno, Zn2 (show m + 1 ≤ 1000000 by omega), Z62 (show m + 1 ≤ 1000000 by omega), Zl (show k < 1000000 by omega)]
   exact ⟨_, rfl, rfl⟩
abbrev reS (a : List Int) (all : List (List Int)) (i : Nat) : St :=
 ([(6, .int .i64 i), (5, .ref 11 0 all.length all.length all.length 1 false), (4, .ref 10 0 all.length all.length all.length 1 false)], [(10, ⟨.row, lcs all⟩), (11, ⟨.row, ics (farL a all)⟩)])
theorem Z09i (all : List (List Int)) (ls : List (List Int)) (l : List Int) : addN all (ls ++ [l]) = ad (addN all ls) l := by
 rw [Z5v]; unfold ad; by_cases h : l ∈ addN all ls <;> simp [h]
theorem Z8G : ∀ (ls all : List (List Int)), (addN all ls).length ≤ all.length + ls.length
 | [], all => by simp [addN]
 | l :: ls, all => by
   simp only [addN, List.length_cons]
   split
   · have := Z8G ls all; omega
   · have := Z8G ls (all ++ [l]); rw [List.length_append, List.length_singleton] at this; omega
theorem Z0lb {C : Callee} {n : Nat} {a : List Int} (hC : ReC C n) (h : Rw n a) (h6 : n ≤ 6) {i : Nat} (hs : ∀ j, j ≤ i → j < (bfR a j).length) :
   ∃ s', (execA E C (fg 63) 0 47 [] 1000000 Z6V) (reS a (bfR a i) i) = some (.normal, s') ∧ headA [] s' = reS a (bfR a (i + 1)) (i + 1) := by
 have inv := Z3r h i fun j hj => hs j (by omega)
 have hi := hs i (Nat.le_refl _)
 have hx : (bfR a i)[i]? = some (bfR a i)[i] := List.getElem?_eq_getElem hi
 have e : bfR a (i + 1) = addN (bfR a i) (rbL (bfR a i)[i]) := by simp only [bfR, hx]
 have hfar := fun l => Z038 h (fun j hj => hs j (by omega)) hx (l := l)
 rw [e]
 have hxr := (inv.sub _ (List.mem_of_getElem? hx)).1
 have hxf := Zp8 h hxr
 have hlen := Zpl h inv.nd inv.sub
 have h9 : 9 ^ n ≤ 531441 := by have := Nat.pow_le_pow_right (n := 9) (by omega) h6; omega
 generalize bfR a i = all at *
 generalize hxx : all[i] = x at *
 clear hxx
 have hnb : (rbL x).length ≤ 100 := by
   have := ZdK x x.length x.length
   have h1 := hxr.len
   have h2 : x.length * x.length ≤ 6 * 6 := Nat.mul_le_mul (by omega) (by omega)
   unfold rbL; omega
 have hla := Z0a all
 have hat := Z5x hx
 rw [hxr.len] at hat
 have hrb := fun (site : Nat → Nat) seen y => hC.rb site seen x y hxr
 have g1 : (i : Int) < all.length := by omega
 by_cases hn : rbL x = []
 · rw [hn]
   have e2 : addN all [] = all := rfl
   rw [e2]
   simp only [if_pos hn] at hrb
   have hloop := Z5E (f := (execA E C (fg 63) 0 47 [] 1000000 Z3E)) (E0 := []) (s0 := ([(24, .int .i64 0), (23, .int .i64 0), (22, .nilsl), (6, .int .i64 i), (5, .ref 11 0 all.length all.length all.length 1 false), (4, .ref 10 0 all.length all.length all.length 1 false)], [(10, ⟨.row, lcs all⟩), (11, ⟨.row, ics (farL a all)⟩)])) rfl
     (e := .exit 2) (se := ([(25, .bool false), (24, .int .i64 0), (23, .int .i64 0), (22, .nilsl), (6, .int .i64 i), (5, .ref 11 0 all.length all.length all.length 1 false), (4, .ref 10 0 all.length all.length all.length 1 false)], [(10, ⟨.row, lcs all⟩), (11, ⟨.row, ics (farL a all)⟩)]))
     (by simp (disch := omega) only [ZF, stp, just, Rd.bind, Rd.run, Rd.opt, upds, aBin, aInt, Nat.reduceEqDiff, Nat.reduceLeDiff, ↓reduceIte, F_63]) (by simp)
   simp only [reS]
   generalize ics (farL a all) = F at *
   generalize lcs all = A at *
   generalize all.length = m at *
   simp (disch := omega) only [ZF, stp, just, Rd.bind, Rd.run, Rd.opt, upds, tsz, rdCells, aLoad, Z2, aNum, aLen, Z4, aBin, aInt, Nat.reduceLT, Nat.reduceBEq, Nat.reduceEqDiff, Nat.reduceLeDiff, ↓reduceIte, aCall, snaps, ZT, F_63, hla, hat, hrb, hloop, g1, Zl (show i < 1000000 by omega)]
   exact ⟨_, rfl, rfl⟩
 · simp only [if_neg hn] at hrb
   have key : ∀ k, k ≤ (rbL x).length → (addN all ((rbL x).take k)).length ≤ all.length + k ∧ (∀ l ∈ all, l ∈ addN all ((rbL x).take k)) ∧ (addN all ((rbL x).take k))[i]? = some x := by
     intro k hk
     obtain ⟨new, e, _, _, _⟩ := Z3c ((rbL x).take k) all
     have hle := Z8G ((rbL x).take k) all
     rw [List.length_take] at hle
     refine ⟨by omega, fun l hl => by rw [e]; exact List.mem_append_left _ hl, ?_⟩
     rw [e, List.getElem?_append_left hi]; exact hx
   have hloop := loopM (f := (execA E C (fg 63) 0 47 [] 1000000 Z3E)) (E0 := []) (fun k => riI a (rbL x) (addN all ((rbL x).take k)) i k) (rbL x).length (fun k hk => by
       obtain ⟨q1, q2, q3⟩ := key k (by omega)
       have hk2 : (rbL x)[k]? = some (rbL x)[k] := List.getElem?_eq_getElem hk
       have h1 : (rbL x).take (k + 1) = (rbL x).take k ++ [(rbL x)[k]] := by rw [List.take_add_one, hk2]; rfl
       have hm := List.mem_of_getElem? hk2
       simp only [h1, Z09i]
       exact Z0k2 hC (by omega) hnb (List.getElem?_eq_some_iff.1 q3).1 q3 (by omega) k hk2 (Z02v hxr hm).len (fun hno => hfar _ hm fun hh => hno (q2 _ hh))) rfl (by omega)
     (e := .exit 2) (se := ([(25, .bool false), (24, .int .i64 (rbL x).length), (23, .int .i64 (rbL x).length), (22, .ref 22 0 (rbL x).length (rbL x).length (rbL x).length 1 false), (6, .int .i64 i), (5, .ref 11 0 (addN all (rbL x)).length (addN all (rbL x)).length (addN all (rbL x)).length 1 false), (4, .ref 10 0 (addN all (rbL x)).length (addN all (rbL x)).length (addN all (rbL x)).length 1 false)], [(10, ⟨.row, lcs (addN all (rbL x))⟩), (11, ⟨.row, ics (farL a (addN all (rbL x)))⟩), (22, ⟨.row, lcs (rbL x)⟩)]))
     (by
       simp only [riI, List.take_length]
       simp (disch := omega) only [ZF, stp, just, Rd.bind, Rd.run, Rd.opt, upds, aBin, aInt, Nat.reduceEqDiff, Nat.reduceLeDiff, ↓reduceIte, F_63]) (by simp)
   have e2 : addN all [] = all := rfl
   have hln := Z0a (rbL x)
   simp only [riI, List.take_zero, e2, cl0] at hloop
   simp only [reS]
   generalize ics (farL a (addN all (rbL x))) = F2 at *
   generalize lcs (addN all (rbL x)) = A2 at *
   generalize (addN all (rbL x)).length = m2 at *
   generalize ics (farL a all) = F at *
   generalize lcs all = A at *
   generalize all.length = m at *
   simp (disch := omega) only [ZF, stp, just, Rd.bind, Rd.run, Rd.opt, upds, tsz, rdCells, aLoad, Z2, aNum, aLen, Z4, aBin, aInt, Nat.reduceLT, Nat.reduceBEq, Nat.reduceEqDiff, Nat.reduceLeDiff, ↓reduceIte, aCall, snaps, ZT, F_63, hla, hat, hrb, hln, hloop, g1, Zl (show i < 1000000 by omega)]
   exact ⟨_, rfl, rfl⟩
theorem ZuM {C : Callee} {n : Nat} {a : List Int} (hC : ReC C n) (h : Rw n a) (h6 : n ≤ 6) :
   ∃ H, bodyA E C fg 1000000 63 [.imm (ics a) n false] [] 0 = some (.tup [.ref 10 0 (reL a).length (reL a).length (reL a).length 1 false, .ref 11 0 (reL a).length (reL a).length (reL a).length 1 false], H) ∧ hget H 10 = some ⟨.row, lcs (reL a)⟩ ∧ hget H 11 = some ⟨.row, ics (farL a (reL a))⟩ := by
 obtain ⟨h1, h2⟩ := Z8w h
 have hl := ZCS h
 have ok := ZGX h
 have h9 : 9 ^ n ≤ 531441 := by have := Nat.pow_le_pow_right (n := 9) (by omega) h6; omega
 have := ok.len
 have hloop := loopM (f := (execA E C (fg 63) 0 47 [] 1000000 Z6V)) (E0 := []) (fun i => reS a (bfR a i) i) (reN a) (fun i hi => Z0lb hC h h6 fun j hj => h1 j (by omega)) rfl (by omega)
   (e := .exit 0) (se := ([(15, .bool false), (6, .int .i64 (reN a)), (5, .ref 11 0 (reL a).length (reL a).length (reL a).length 1 false), (4, .ref 10 0 (reL a).length (reL a).length (reL a).length 1 false)], [(10, ⟨.row, lcs (reL a)⟩), (11, ⟨.row, ics (farL a (reL a))⟩)]))
   (by
     have e : bfR a (reN a) = reL a := rfl
     have hla := Z0a (reL a)
     simp only [reS, e]
     have g1 : ¬ ((reN a : Nat) : Int) < (reL a).length := by omega
     generalize ics (farL a (reL a)) = F at *
     generalize lcs (reL a) = A at *
     generalize (reL a).length = m at *
     simp (disch := omega) only [ZF, stp, just, Rd.bind, Rd.run, Rd.opt, upds, aLen, Z4, aBin, aInt, Nat.reduceBEq, Nat.reduceEqDiff, Nat.reduceLeDiff, ↓reduceIte, ZT, F_63, hla, g1]) (by simp)
 have e0 : lcs (bfR a 0) = [.imm (ics a) n false] := by show [AV.imm (ics a) a.length false] = _; rw [h.len]
 have e1 : ics (farL a (bfR a 0)) = [.int .i64 0] := by
   have : apL a a = 0 := by
     have := (lev h).d0
     exact this
   show [AV.int .i64 (apL a a : Int)] = _
   rw [this]; rfl
 have e2 : (bfR a 0).length = 1 := rfl
 simp only [reS, e0, e1, e2, cl0] at hloop
 generalize ics (farL a (reL a)) = F at *
 generalize lcs (reL a) = A at *
 generalize (reL a).length = m at *
 simp (disch := omega) only [ZF, Z8, stp, Rd.bind, Rd.run, upds, acells, zeroCells, tsz, elemT, resA, resL, fresh, putC, evO, ofV, ofV1, Nat.reduceAdd, Nat.reduceLT, Nat.reduceBEq, Nat.reduceEqDiff, Nat.reduceLeDiff, ↓reduceIte, reduceCtorEq, Zi, Z0b, partsOf, fillA, repC, snaps, ZT, F_63, hloop]
 exact ⟨_, rfl, rfl, rfl⟩
theorem ZqN {d : Nat} {site : Nat → Nat} {seen : List Nat} {n : Nat} {a : List Int} (h : Rw n a) (h0 : 0 < n) (h6 : n ≤ 6) (hs : site 1 ≠ site 0) : aBack site true seen (thaw (kF (d + 8)) 63 [.imm (ics a) n false] [] 0) =
   Z2L (site 0) (site 1) seen (fun k k' => .tup [.ref k 0 (reL a).length (reL a).length (reL a).length 1 false, .ref k' 0 (reL a).length (reL a).length (reL a).length 1 false]) ⟨.row, lcs (reL a)⟩ ⟨.row, ics (farL a (reL a))⟩ := by
 obtain ⟨H, h1, h2, h3⟩ := ZuM (reC d h0 h6) h h6
 have l1 := Z0a (reL a)
 have l2 : (ics (farL a (reL a))).length = (reL a).length := by rw [Z6, Z8o]
 have := ZFj (site := site) (seen := seen) (C := kF (d + 8)) (f := 63) (args := [.imm (ics a) n false]) (id := 10) (id' := 11) (n := (reL a).length) (n' := (reL a).length) (sz := 1) (sz' := 1) (cells := lcs (reL a)) (cells' := ics (farL a (reL a))) (H' := H) (by rw [Z11 rfl, l1, l2]; exact h1) h2 h3 (by decide) hs
 rw [l1, l2] at this
 exact this
end Go.AM.Ytfmnoohhhokicaa
end
noncomputable section
namespace Go.AM.Rub
theorem Z5D (a : List Int) : MajL a a := Maj.refl _ _
theorem Z8O {n : Nat} {a b : List Int} (ha : Rw n a) (hb : Rw n b) (h : MajL a b) : apL a b = 0 ↔ a = b := by
 constructor
 · intro h0
   have c := Z0k a b
   have z := (Z1C (a := rowF a) (b := rowF b) a.length).1 (by omega)
   exact Z4P (by rw [ha.len, hb.len]) (Z8u z h.eq)
 · intro e
   subst e
   have := (Z1C (a := rowF a) (b := rowF a) a.length).2 fun k _ => Int.le_refl _
   unfold apL; omega
end Go.AM.Rub
end
noncomputable section
namespace Go.AM.Ytfmnoohhhokicaa
open Go Go.AM
variable {C : Callee} {B N : Nat} {E0 : AHeap} (φ : AFr) (H : AHeap) (s : St)
def Z9j := kBody Proofs.Try.f11
def ZDG := kL Z9j
def Z7D := kO ZDG
def ZwT := opN Z7D 0
def ZCD := opN Z7D 1
theorem Z0j8 : XG 11 216 ZDG Z7D [0, 4] := Z1 (by rfl) (by rfl) _
theorem Z05c : Z7D.toList = [ZwT, ZCD] := nf
theorem Z09N : stepA E C B 216 Z7D ZwT (φ, H) = stp (some 2) φ H (opBox (B + 2) (acells (fget φ 0))) := nf
theorem Z07p : stepA E C B 216 Z7D ZCD (φ, H) = some (fput φ 4 (.bool false), H) := nf
def ZjW := kR Z9j
def ZFr := kL ZjW
def Z4p := kO ZFr
def ZBH := opN Z4p 0
def ZAo := opN Z4p 1
def ZzM := opN Z4p 2
theorem Z0mj : XG 11 216 ZFr Z4p [2, 24, 25] := Z1 (by rfl) (by rfl) _
theorem Z0ai : Z4p.toList = [ZBH, ZAo, ZzM] := nf
theorem Z03a : stepA E C B 216 Z4p ZBH (φ, H) = stp (some 24) φ H (just (aLoad E.T 49 (fget φ 2))) := nf
theorem Z08H : stepA E C B 216 Z4p ZAo (φ, H) = stp (some 25) φ H (aCall C (fun j => B + j * 216 + 25) true 56 [(fget φ 24), (.int .i64 6), (.int .i64 8)]) := nf
theorem Z07C : stepA E C B 216 Z4p ZzM (φ, H) = some (fput φ 5 (fget φ 25), H) := nf
def ZiX := kR ZjW
def ZE7 := kL ZiX
def Z14 := kO ZE7
def ZyP := opN Z14 0
def Zxb := opN Z14 1
def ZvC := opN Z14 2
def Zzb := opN Z14 3
def Zva := opN Z14 4
def Zx8 := opN Z14 5
def Zz2 := opN Z14 6
theorem Z0ns : XG 11 216 ZE7 Z14 [26, 27, 28, 29, 30] := Z1 (by rfl) (by rfl) _
theorem Z07M : Z14.toList = [ZyP, Zxb, ZvC, Zzb, Zva, Zx8, Zz2] := nf
theorem Z020 : stepA E C B 216 Z14 ZyP (φ, H) = some (fput φ 27 (fget φ 5), H) := nf
theorem Z05z : stepA E C B 216 Z14 Zxb (φ, H) = stp (some 28) φ H (aCall C (fun j => B + j * 216 + 28) true 63 [(fget φ 27)]) := nf
theorem Z0aj : stepA E C B 216 Z14 ZvC (φ, H) = some (fput φ 26 (fget φ 28), H) := nf
theorem ZZR : stepA E C B 216 Z14 Zzb (φ, H) = stp (some 29) φ H (Zs (fget φ 26) 0) := nf
theorem Z07Q : stepA E C B 216 Z14 Zva (φ, H) = stp (some 30) φ H (Zs (fget φ 26) 1) := nf
theorem ZZH : stepA E C B 216 Z14 Zx8 (φ, H) = some (fput φ 6 (fget φ 29), H) := nf
theorem ZYu : stepA E C B 216 Z14 Zz2 (φ, H) = some (fput φ 7 (fget φ 30), H) := nf
def Zjv := kR ZiX
def ZFd := kL Zjv
def Z1s := kO ZFd
def Zzc := opN Z1s 0
def ZyU := opN Z1s 1
def ZBI := opN Z1s 2
def ZB2 := opN Z1s 3
def Zxk := opN Z1s 4
def Zvd := opN Z1s 5
theorem Z0kj : XG 11 216 ZFd Z1s [1, 31, 32, 33, 34, 35] := Z1 (by rfl) (by rfl) _
theorem Z04R : Z1s.toList = [Zzc, ZyU, ZBI, ZB2, Zxk, Zvd] := nf
theorem Z06N : stepA E C B 216 Z1s Zzc (φ, H) = some (fput φ 31 (fget φ 1), H) := nf
theorem Z00r : stepA E C B 216 Z1s ZyU (φ, H) = stp (some 32) φ H (justO (aConv E.T 5 3 (fget φ 31))) := nf
theorem Z06m : stepA E C B 216 Z1s ZBI (φ, H) = some (fput φ 33 (fget φ 6), H) := nf
theorem ZZa : stepA E C B 216 Z1s ZB2 (φ, H) = stp (some 34) φ H (Z4 E.T (B + 34) .len #[39] [(fget φ 33)]) := nf
theorem Z01u : stepA E C B 216 Z1s Zxk (φ, H) = stp (some 35) φ H (just (aBin E.T .rem 3 (fget φ 32) (fget φ 34))) := nf
theorem Z01K : stepA E C B 216 Z1s Zvd (φ, H) = some (fput φ 8 (fget φ 35), H) := nf
def Ziy := kR Zjv
def ZES := kL Ziy
def Z22 := kO ZES
def Zvg := opN Z22 0
def Zxu := opN Z22 1
def ZCa := opN Z22 2
def Zyd := opN Z22 3
def Zxj := opN Z22 4
theorem Z0md : XG 11 216 ZES Z22 [6, 36, 37, 38, 39] := Z1 (by rfl) (by rfl) _
theorem Z03H : Z22.toList = [Zvg, Zxu, ZCa, Zyd, Zxj] := nf
theorem Z08P : stepA E C B 216 Z22 Zvg (φ, H) = some (fput φ 36 (fget φ 6), H) := nf
theorem Z07e : stepA E C B 216 Z22 Zxu (φ, H) = some (fput φ 37 (fget φ 8), H) := nf
theorem Z00J : stepA E C B 216 Z22 ZCa (φ, H) = stp (some 38) φ H (just (Z2 E.T 39 (fget φ 36) (fget φ 37))) := nf
theorem Z07o : stepA E C B 216 Z22 Zyd (φ, H) = stp (some 39) φ H (just (aLoad E.T 22 (fget φ 38))) := nf
theorem Z05I : stepA E C B 216 Z22 Zxj (φ, H) = some (fput φ 9 (fget φ 39), H) := nf
def ZcM := kR Ziy
def Zlb := kL ZcM
def Z6h := kO Zlb
def ZvA := opN Z6h 0
def Zyk := opN Z6h 1
theorem Z0da : XG 11 216 Zlb Z6h [5, 40] := Z1 (by rfl) (by rfl) _
theorem ZXn : Z6h.toList = [ZvA, Zyk] := nf
theorem Z08x : stepA E C B 216 Z6h ZvA (φ, H) = some (fput φ 40 (fget φ 5), H) := nf
theorem ZYY : stepA E C B 216 Z6h Zyk (φ, H) = some (fput φ 10 (fget φ 40), H) := nf
def Z9M := kR ZcM
def Zc9 := kL Z9M
def Zsa := kL Zc9
def Z20 := kO Zsa
def Zx7 := opN Z20 0
def ZBm := opN Z20 1
def Zyv := opN Z20 2
def ZxW := opN Z20 3
def Zv3 := opN Z20 4
theorem Z0hU : XG 11 216 Zsa Z20 [7, 8, 41, 42, 43, 44] := Z1 (by rfl) (by rfl) _
theorem Z00Z : Z20.toList = [Zx7, ZBm, Zyv, ZxW, Zv3] := nf
theorem Z00m : stepA E C B 216 Z20 Zx7 (φ, H) = some (fput φ 41 (fget φ 7), H) := nf
theorem Z03q : stepA E C B 216 Z20 ZBm (φ, H) = some (fput φ 42 (fget φ 8), H) := nf
theorem Z00M : stepA E C B 216 Z20 Zyv (φ, H) = stp (some 43) φ H (just (Z2 E.T 22 (fget φ 41) (fget φ 42))) := nf
theorem Z08j : stepA E C B 216 Z20 ZxW (φ, H) = stp (some 44) φ H (just (aLoad E.T 3 (fget φ 43))) := nf
theorem ZYg : stepA E C B 216 Z20 Zv3 (φ, H) = some (fput φ 11 (fget φ 44), H) := nf
def ZqP := kR Zc9
def Zpu := kB ZqP
def Z3D := kB Zpu
def Z9S := kL Z3D
def ZoM := kL Z9S
def Z6F := kO ZoM
def ZzL := opN Z6F 0
def ZBs := opN Z6F 1
theorem Z0dL : XG 11 216 ZoM Z6F [45] := Z1 (by rfl) (by rfl) _
theorem Z019 : Z6F.toList = [ZzL, ZBs] := nf
theorem Z03D : stepA E C B 216 Z6F ZzL (φ, H) = some (fput φ 45 (fget φ 11), H) := nf
theorem Z031 : stepA E C B 216 Z6F ZBs (φ, H) = stp (some 46) φ H (just (aBin E.T .gtr 3 (fget φ 45) (.int .i64 0))) := nf
def Z9f := kR Z9S
def ZH4 := kT Z9f
theorem Z0b9 : execA E C (fg 11) B 216 E0 N ZH4 s = some (.normal, s) := Zh (by rfl) s
def ZJz := kE Z9f
theorem Z0bv : execA E C (fg 11) B 216 E0 N ZJz s = some (.exit 0, s) := ZI (by rfl) s
theorem Z0dj : XC 11 216 Z9f 46 ZH4 ZJz := Zf (by rfl) _
theorem Z0f5 : XQ 11 216 Z9S ZoM Z9f := Z0 (by rfl) _
def Z8Z := kR Z3D
def ZlN := kL Z8Z
def Z9c := kB ZlN
def Zr6 := kL Z9c
def Z0u := kO Zr6
def Zy0 := opN Z0u 0
def ZCz := opN Z0u 1
def Zzw := opN Z0u 2
def ZDf := opN Z0u 3
def Zw3 := opN Z0u 4
def ZAl := opN Z0u 5
def ZvH := opN Z0u 6
def Zvr := opN Z0u 7
def ZA2 := opN Z0u 8
def ZAJ := opN Z0u 9
theorem Z0hI : XG 11 216 Zr6 Z0u [46, 49, 50, 51, 52, 53, 54, 55] := Z1 (by rfl) (by rfl) _
theorem Z04b : Z0u.toList = [Zy0, ZCz, Zzw, ZDf, Zw3, ZAl, ZvH, Zvr, ZA2, ZAJ] := nf
theorem Z04X : stepA E C B 216 Z0u Zy0 (φ, H) = some (fput φ 50 (fget φ 10), H) := nf
theorem Z04C : stepA E C B 216 Z0u ZCz (φ, H) = some (fput φ 51 (fget φ 9), H) := nf
theorem Z03m : stepA E C B 216 Z0u Zzw (φ, H) = stp (some 52) φ H (aCall C (fun j => B + j * 216 + 52) true 33 [(fget φ 50), (fget φ 51)]) := nf
theorem ZYv : stepA E C B 216 Z0u ZDf (φ, H) = some (fput φ 49 (fget φ 52), H) := nf
theorem ZYQ : stepA E C B 216 Z0u Zw3 (φ, H) = stp (some 53) φ H (Zs (fget φ 49) 0) := nf
theorem Z00Y : stepA E C B 216 Z0u ZAl (φ, H) = stp (some 54) φ H (Zs (fget φ 49) 1) := nf
theorem Z07N : stepA E C B 216 Z0u ZvH (φ, H) = stp (some 55) φ H (Zs (fget φ 49) 2) := nf
theorem Z03P : stepA E C B 216 Z0u Zvr (φ, H) = some (fput φ 12 (fget φ 53), H) := nf
theorem Z0a6 : stepA E C B 216 Z0u ZA2 (φ, H) = some (fput φ 13 (fget φ 54), H) := nf
theorem Z01J : stepA E C B 216 Z0u ZAJ (φ, H) = some (fput φ 14 (fget φ 55), H) := nf
def Z9X := kR Z9c
def ZbT := kL Z9X
def Zqy := kL ZbT
def Zc := kO Zqy
def ZtG := opN Zc 0
def Zsn := opN Zc 1
def Z5b := opN Zc 2
def ZlW := opN Zc 3
def Zob := opN Zc 4
def Zuf := opN Zc 5
def Z3O := opN Zc 6
def Zrw := opN Zc 7
def ZqF := opN Zc 8
def ZoH := opN Zc 9
def Zhv := opN Zc 10
def Z2e := opN Zc 11
def Zhi := opN Zc 12
def Zfz := opN Zc 13
def ZgG := opN Zc 14
def ZfR := opN Zc 15
def ZhO := opN Zc 16
def Z0s := opN Zc 17
def ZgQ := opN Zc 18
def Zg6 := opN Zc 19
def Zfa := opN Zc 20
def Zfy := opN Zc 21
def Zfd := opN Zc 22
def ZgF := opN Zc 23
def Zgg := opN Zc 24
def ZgW := opN Zc 25
def ZgB := opN Zc 26
def ZfQ := opN Zc 27
def Zha := opN Zc 28
theorem Z0f3 : XD 11 216 Zqy Zc [14, 56, 57, 58, 59, 60, 61, 62, 63, 64, 65, 66, 67, 68, 69, 70, 71, 72, 73, 74, 75, 76, 77, 78, 79, 80, 81, 82, 83] := Z0h (by rfl) (by rfl) _
theorem ZTT : Zc.toList = [ZtG, Zsn, Z5b, ZlW, Zob, Zuf, Z3O, Zrw, ZqF, ZoH, Zhv, Z2e, Zhi, Zfz, ZgG, ZfR, ZhO, Z0s, ZgQ, Zg6, Zfa, Zfy, Zfd, ZgF, Zgg, ZgW, ZgB, ZfQ, Zha] := nf
theorem ZHJ : statOk Zc = true := by kernel_rfl
theorem ZGQ : drawA E C B 216 Zc s = if neat 216 s = true then drX Zc (runT E C B 216 Zc Zc.toList 0 s) else none := Z00 ZHJ s
theorem ZJE (l : List (Nat × Tr)) : dynOk Zc l = (!writing l || Za [[], [0], [0, 1], [0, 1, 2], [0, 1, 2, 3], [0, 1, 2, 3, 4], [0, 1, 2, 3, 4, 5], [0, 1, 2, 3, 4, 5, 6], [0, 1, 2, 3, 4, 5, 6], [0, 1, 2, 3, 4, 5, 6, 7, 8], [0, 1, 2, 3, 4, 5, 6, 7, 8, 9], [0, 1, 2, 3, 4, 5, 6, 7, 8, 9, 10], [0, 1, 2, 3, 4, 5, 6, 7, 8, 9, 10, 11], [0, 1, 2, 3, 4, 5, 6, 7, 8, 9, 10, 11], [0, 1, 2, 3, 4, 5, 6, 7, 8, 9, 10, 11, 13], [0, 1, 2, 3, 4, 5, 6, 7, 8, 9, 10, 11, 12, 13, 14], [0, 1, 2, 3, 4, 5, 6, 7, 8, 9, 10, 11, 12, 13, 14, 15], [0, 1, 2, 3, 4, 5, 6, 7, 8, 9, 10, 11, 12, 13, 14, 15, 16], [0, 1, 2, 3, 4, 5, 6, 7, 8, 9, 10, 11, 12, 13, 14, 15, 16, 17], [0, 1, 2, 3, 4, 5, 6, 7, 8, 9, 10, 11, 12, 13, 14, 15, 16, 17], [0, 1, 2, 3, 4, 5, 6, 7, 8, 9, 10, 11, 12, 13, 14, 15, 16, 17, 18, 19], [0, 1, 2, 3, 4, 5, 6, 7, 8, 9, 10, 11, 12, 13, 14, 15, 16, 17, 18, 19, 20], [0, 1, 2, 3, 4, 5, 6, 7, 8, 9, 10, 11, 12, 13, 14, 15, 16, 17], [0, 1, 2, 3, 4, 5, 6, 7, 8, 9, 10, 11, 12, 13, 14, 15, 16, 17], [0, 1, 2, 3, 4, 5, 6, 7, 8, 9, 10, 11, 12, 13, 14, 15, 16, 17, 22, 23], [0, 1, 2, 3, 4, 5, 6, 7, 8, 9, 10, 11, 12, 13, 14, 15, 16, 17, 22, 23, 24], [0, 1, 2, 3, 4, 5, 6, 7, 8, 9, 10, 11, 12, 13, 14, 15, 16, 17, 18, 19, 20, 21, 22, 23, 24, 25], [0, 1, 2, 3, 4, 5, 6, 7, 8, 9, 10, 11, 12, 13, 14, 15, 16, 17, 18, 19, 20, 21, 22, 23, 24, 25, 26], [0, 1, 2, 3, 4, 5, 6, 7, 8, 9, 10, 11, 12, 13, 14, 15, 16, 17, 18, 19, 20, 21, 22, 23, 24, 25, 26, 27]] (Z9 l)) := ZQ (by kernel_rfl) l
theorem ZPU : stepT E C B 216 Zc ZtG (φ, H) = some ((fput φ 56 (fget φ 14), H), ⟨false, [], []⟩) := Z3 rfl (Z7 rfl rfl)
theorem ZUm : stepT E C B 216 Zc Zsn (φ, H) = stpT (some 57) φ H (just (aBin E.T .neq 24 (fget φ 56) (.int .i64 0))) := Z3 rfl (Z5 rfl rfl)
theorem ZQV : stepT E C B 216 Zc Z5b (φ, H) = some ((fput φ 58 (fget φ 57), H), ⟨false, [], []⟩) := Z3 rfl (Z7 rfl rfl)
theorem ZQb : stepT E C B 216 Zc ZlW (φ, H) = gdT φ 58 false (fun φ => (some (fput φ 59 (.tup []), H)).map fun s => (s, ⟨false, [], []⟩)) (fun φ => some ((fput φ 59 (fget φ 12), H), ⟨false, [], []⟩)) := Zb (j := 2) (oj := Z5b) rfl rfl rfl (fun _ => rfl) (fun _ => Z7 rfl rfl)
theorem ZTO : stepT E C B 216 Zc Zob (φ, H) = gdT φ 58 false (fun φ => (some (fput φ 60 (.tup []), H)).map fun s => (s, ⟨false, [], []⟩)) (fun φ => stpT (some 60) φ H (just (aBin E.T .lss 3 (fget φ 59) (.int .i64 0)))) := Zb (j := 2) (oj := Z5b) rfl rfl rfl (fun _ => rfl) (fun _ => Z5 rfl rfl)
theorem ZSZ : stepT E C B 216 Zc Zuf (φ, H) = stpT (some 61) φ H (opPick (fget φ 58) (.bool true) (fget φ 60)) := Z3 rfl (Z5 rfl rfl)
theorem ZSa : stepT E C B 216 Zc Z3O (φ, H) = some ((fput φ 62 (fget φ 61), H), ⟨false, [], []⟩) := Z3 rfl (Z7 rfl rfl)
theorem ZUY : stepT E C B 216 Zc Zrw (φ, H) = gdT φ 62 false (fun φ => (some (fput φ 63 (.tup []), H)).map fun s => (s, ⟨false, [], []⟩)) (fun φ => some ((fput φ 63 (fget φ 13), H), ⟨false, [], []⟩)) := Zb (j := 6) (oj := Z3O) rfl rfl rfl (fun _ => rfl) (fun _ => Z7 rfl rfl)
theorem ZSU : stepT E C B 216 Zc ZqF (φ, H) = gdT φ 62 false (fun φ => (some (fput φ 64 (.tup []), H)).map fun s => (s, ⟨false, [], []⟩)) (fun φ => some ((fput φ 64 (fget φ 12), H), ⟨false, [], []⟩)) := Zb (j := 6) (oj := Z3O) rfl rfl rfl (fun _ => rfl) (fun _ => Z7 rfl rfl)
theorem ZRU : stepT E C B 216 Zc ZoH (φ, H) = gdT φ 62 false (fun φ => (some (fput φ 65 (.tup []), H)).map fun s => (s, ⟨false, [], []⟩)) (fun φ => stpT (some 65) φ H (just (aBin E.T .leq 3 (fget φ 63) (fget φ 64)))) := Zb (j := 6) (oj := Z3O) rfl rfl rfl (fun _ => rfl) (fun _ => Z5 rfl rfl)
theorem ZGN : stepT E C B 216 Zc Zhv (φ, H) = stpT (some 66) φ H (opPick (fget φ 62) (.bool true) (fget φ 65)) := Z3 rfl (Z5 rfl rfl)
theorem ZMS : stepT E C B 216 Zc Z2e (φ, H) = some ((fput φ 67 (fget φ 66), H), ⟨false, [], []⟩) := Z3 rfl (Z7 rfl rfl)
theorem ZJB : stepT E C B 216 Zc Zhi (φ, H) = gdT φ 67 false (fun φ => (some (fput φ 68 (.tup []), H)).map fun s => (s, ⟨false, [], []⟩)) (fun φ => some ((fput φ 68 (fget φ 13), H), ⟨false, [], []⟩)) := Zb (j := 11) (oj := Z2e) rfl rfl rfl (fun _ => rfl) (fun _ => Z7 rfl rfl)
theorem ZFZ : stepT E C B 216 Zc Zfz (φ, H) = gdT φ 67 false (fun φ => (some (fput φ 69 (.tup []), H)).map fun s => (s, ⟨false, [], []⟩)) (fun φ => some ((fput φ 69 (fget φ 10), H), ⟨false, [], []⟩)) := Zb (j := 11) (oj := Z2e) rfl rfl rfl (fun _ => rfl) (fun _ => Z7 rfl rfl)
theorem ZIQ : stepT E C B 216 Zc ZgG (φ, H) = gdT φ 67 false (fun φ => (some (fput φ 70 (.tup []), H)).map fun s => (s, ⟨false, [], []⟩)) (fun φ => stpT (some 70) φ H (Z4 E.T (B + 70) .len #[22] [(fget φ 69)])) := Zb (j := 11) (oj := Z2e) rfl rfl rfl (fun _ => rfl) (fun _ => Z5 rfl rfl)
theorem ZJo : stepT E C B 216 Zc ZfR (φ, H) = gdT φ 67 false (fun φ => (some (fput φ 71 (.tup []), H)).map fun s => (s, ⟨false, [], []⟩)) (fun φ => stpT (some 71) φ H (just (aBin E.T .geq 3 (fget φ 68) (fget φ 70)))) := Zb (j := 11) (oj := Z2e) rfl rfl rfl (fun _ => rfl) (fun _ => Z5 rfl rfl)
theorem ZMQ : stepT E C B 216 Zc ZhO (φ, H) = stpT (some 72) φ H (opPick (fget φ 67) (.bool true) (fget φ 71)) := Z3 rfl (Z5 rfl rfl)
theorem ZJt : stepT E C B 216 Zc Z0s (φ, H) = some ((fput φ 73 (fget φ 72), H), ⟨false, [], []⟩) := Z3 rfl (Z7 rfl rfl)
theorem ZGp : stepT E C B 216 Zc ZgQ (φ, H) = gdT φ 73 false (fun φ => (some (fput φ 74 (.tup []), H)).map fun s => (s, ⟨false, [], []⟩)) (fun φ => some ((fput φ 74 (fget φ 10), H), ⟨false, [], []⟩)) := Zb (j := 17) (oj := Z0s) rfl rfl rfl (fun _ => rfl) (fun _ => Z7 rfl rfl)
theorem ZIh : stepT E C B 216 Zc Zg6 (φ, H) = gdT φ 73 false (fun φ => (some (fput φ 75 (.tup []), H)).map fun s => (s, ⟨false, [], []⟩)) (fun φ => some ((fput φ 75 (fget φ 12), H), ⟨false, [], []⟩)) := Zb (j := 17) (oj := Z0s) rfl rfl rfl (fun _ => rfl) (fun _ => Z7 rfl rfl)
theorem ZM9 : stepT E C B 216 Zc Zfa (φ, H) = gdT φ 73 false (fun φ => (some (fput φ 76 (.tup []), H)).map fun s => (s, ⟨false, [], []⟩)) (fun φ => stpT (some 76) φ H (just (Z2 E.T 22 (fget φ 74) (fget φ 75)))) := Zb (j := 17) (oj := Z0s) rfl rfl rfl (fun _ => rfl) (fun _ => Z5 rfl rfl)
theorem ZFS : stepT E C B 216 Zc Zfy (φ, H) = gdT φ 73 false (fun φ => (some (fput φ 77 (.tup []), H)).map fun s => (s, ⟨false, [], []⟩)) (fun φ => stpT (some 77) φ H (just (aLoad E.T 3 (fget φ 76)))) := Zb (j := 17) (oj := Z0s) rfl rfl rfl (fun _ => rfl) (fun _ => Z5 rfl rfl)
theorem ZLs : stepT E C B 216 Zc Zfd (φ, H) = gdT φ 73 false (fun φ => (some (fput φ 78 (.tup []), H)).map fun s => (s, ⟨false, [], []⟩)) (fun φ => some ((fput φ 78 (fget φ 10), H), ⟨false, [], []⟩)) := Zb (j := 17) (oj := Z0s) rfl rfl rfl (fun _ => rfl) (fun _ => Z7 rfl rfl)
theorem ZKv : stepT E C B 216 Zc ZgF (φ, H) = gdT φ 73 false (fun φ => (some (fput φ 79 (.tup []), H)).map fun s => (s, ⟨false, [], []⟩)) (fun φ => some ((fput φ 79 (fget φ 13), H), ⟨false, [], []⟩)) := Zb (j := 17) (oj := Z0s) rfl rfl rfl (fun _ => rfl) (fun _ => Z7 rfl rfl)
theorem ZJ5 : stepT E C B 216 Zc Zgg (φ, H) = gdT φ 73 false (fun φ => (some (fput φ 80 (.tup []), H)).map fun s => (s, ⟨false, [], []⟩)) (fun φ => stpT (some 80) φ H (just (Z2 E.T 22 (fget φ 78) (fget φ 79)))) := Zb (j := 17) (oj := Z0s) rfl rfl rfl (fun _ => rfl) (fun _ => Z5 rfl rfl)
theorem ZLl : stepT E C B 216 Zc ZgW (φ, H) = gdT φ 73 false (fun φ => (some (fput φ 81 (.tup []), H)).map fun s => (s, ⟨false, [], []⟩)) (fun φ => stpT (some 81) φ H (just (aLoad E.T 3 (fget φ 80)))) := Zb (j := 17) (oj := Z0s) rfl rfl rfl (fun _ => rfl) (fun _ => Z5 rfl rfl)
theorem ZJH : stepT E C B 216 Zc ZgB (φ, H) = gdT φ 73 false (fun φ => (some (fput φ 82 (.tup []), H)).map fun s => (s, ⟨false, [], []⟩)) (fun φ => stpT (some 82) φ H (just (aBin E.T .sub 3 (fget φ 77) (fget φ 81)))) := Zb (j := 17) (oj := Z0s) rfl rfl rfl (fun _ => rfl) (fun _ => Z5 rfl rfl)
theorem ZFV : stepT E C B 216 Zc ZfQ (φ, H) = gdT φ 73 false (fun φ => (some (fput φ 83 (.tup []), H)).map fun s => (s, ⟨false, [], []⟩)) (fun φ => stpT (some 83) φ H (just (aBin E.T .lss 3 (fget φ 82) (.int .i64 2)))) := Zb (j := 17) (oj := Z0s) rfl rfl rfl (fun _ => rfl) (fun _ => Z5 rfl rfl)
theorem ZN5 : stepT E C B 216 Zc Zha (φ, H) = stpT (some 84) φ H (opPick (fget φ 73) (.bool true) (fget φ 83)) := Z3 rfl (Z5 rfl rfl)
def ZbI := kR ZbT
def Z8V := kT ZbI
def Zsd := kL Z8V
def Zbv := kO Zsd
def Zs8 := opN Zbv 0
theorem Z0dB : XG 11 216 Zsd Zbv [9, 10, 11, 12, 13, 84] := Z1 (by rfl) (by rfl) _
theorem ZSn : Zbv.toList = [Zs8] := nf
theorem ZS8 : stepA E C B 216 Zbv Zs8 (φ, H) = some (fput φ 4 (.bool false), H) := nf
def ZN0 := kR Z8V
theorem Z0aV : execA E C (fg 11) B 216 E0 N ZN0 s = some (.ret, s) := Zq (by rfl) s
theorem Z0ht : XQ 11 216 Z8V Zsd ZN0 := Z0 (by rfl) _
def ZIj := kE ZbI
theorem Z0f6 : execA E C (fg 11) B 216 E0 N ZIj s = some (.normal, s) := Zh (by rfl) s
theorem Z0bo : XC 11 216 ZbI 84 Z8V ZIj := Zf (by rfl) _
theorem Z0fL : XQ 11 216 ZbT Zqy ZbI := Z0 (by rfl) _
def Z8X := kR Z9X
def Zaf := kL Z8X
def ZmA := kL Zaf
def Z3d := kO ZmA
def ZpE := opN Z3d 0
def Znk := opN Z3d 1
def ZoO := opN Z3d 2
theorem Z0eN : XG 11 216 ZmA Z3d [84, 85] := Z1 (by rfl) (by rfl) _
theorem ZPd : Z3d.toList = [ZpE, Znk, ZoO] := nf
theorem ZUv : stepA E C B 216 Z3d ZpE (φ, H) = some (fput φ 85 (fget φ 10), H) := nf
theorem ZRC : stepA E C B 216 Z3d Znk (φ, H) = stp (some 86) φ H (Z4 E.T (B + 86) .len #[22] [(fget φ 85)]) := nf
theorem ZRm : stepA E C B 216 Z3d ZoO (φ, H) = some (fput φ 87 (.int .i64 0), H) := nf
def Zse := kR Zaf
def Zs5 := kB Zse
def Z54 := kB Zs5
def ZrZ := kL Z54
def ZaC := kO ZrZ
def Zmx := opN ZaC 0
theorem Z0iv : XG 11 216 ZrZ ZaC [] := Z1 (by rfl) (by rfl) _
theorem ZVk : ZaC.toList = [Zmx] := nf
theorem ZR1 : stepA E C B 216 ZaC Zmx (φ, H) = stp (some 88) φ H (just (aBin E.T .lss 3 (fget φ 87) (fget φ 86))) := nf
def ZcW := kR Z54
def Z8W := kL ZcW
def ZHe := kT Z8W
theorem Z0e4 : execA E C (fg 11) B 216 E0 N ZHe s = some (.normal, s) := Zh (by rfl) s
def ZGg := kE Z8W
theorem Z0ax : execA E C (fg 11) B 216 E0 N ZGg s = some (.exit 2, s) := ZI (by rfl) s
theorem Z0i5 : XC 11 216 Z8W 88 ZHe ZGg := Zf (by rfl) _
def ZaJ := kR ZcW
def ZmP := kL ZaJ
def Z9D := kB ZmP
def Zs6 := kL Z9D
def Z4I := kO Zs6
def Zr2 := opN Z4I 0
def ZkT := opN Z4I 1
theorem Z0i9 : XG 11 216 Zs6 Z4I [88, 89] := Z1 (by rfl) (by rfl) _
theorem ZQI : Z4I.toList = [Zr2, ZkT] := nf
theorem ZT7 : stepA E C B 216 Z4I Zr2 (φ, H) = some (fput φ 89 (fget φ 87), H) := nf
theorem ZOL : stepA E C B 216 Z4I ZkT (φ, H) = some (fput φ 15 (fget φ 89), H) := nf
def Za9 := kR Z9D
def Zrf := kL Za9
def Z3g := kO Zrf
def ZkP := opN Z3g 0
def Zri := opN Z3g 1
def Zme := opN Z3g 2
theorem Z0dq : XG 11 216 Zrf Z3g [90, 91] := Z1 (by rfl) (by rfl) _
theorem ZTY : Z3g.toList = [ZkP, Zri, Zme] := nf
theorem ZTI : stepA E C B 216 Z3g ZkP (φ, H) = some (fput φ 90 (fget φ 15), H) := nf
theorem ZR2 : stepA E C B 216 Z3g Zri (φ, H) = stp (some 91) φ H (just (aBin E.T .add 3 (fget φ 90) (.int .i64 1))) := nf
theorem ZOX : stepA E C B 216 Z3g Zme (φ, H) = some (fput φ 16 (fget φ 91), H) := nf
def Zks := kR Za9
def ZsJ := kB Zks
def Z59 := kB ZsJ
def Z8R := kL Z59
def ZrO := kL Z8R
def Z1L := kO ZrO
def ZqW := opN Z1L 0
def Zr4 := opN Z1L 1
def ZqL := opN Z1L 2
def ZrJ := opN Z1L 3
theorem Z0b8 : XG 11 216 ZrO Z1L [92, 93, 94] := Z1 (by rfl) (by rfl) _
theorem ZQZ : Z1L.toList = [ZqW, Zr4, ZqL, ZrJ] := nf
theorem ZOm : stepA E C B 216 Z1L ZqW (φ, H) = some (fput φ 92 (fget φ 16), H) := nf
theorem ZSr : stepA E C B 216 Z1L Zr4 (φ, H) = some (fput φ 93 (fget φ 10), H) := nf
theorem ZQL : stepA E C B 216 Z1L ZqL (φ, H) = stp (some 94) φ H (Z4 E.T (B + 94) .len #[22] [(fget φ 93)]) := nf
theorem ZUy : stepA E C B 216 Z1L ZrJ (φ, H) = stp (some 95) φ H (just (aBin E.T .lss 3 (fget φ 92) (fget φ 94))) := nf
def Z9W := kR Z8R
def ZJT := kT Z9W
theorem Z0cO : execA E C (fg 11) B 216 E0 N ZJT s = some (.normal, s) := Zh (by rfl) s
def ZG6 := kE Z9W
theorem Z0e9 : execA E C (fg 11) B 216 E0 N ZG6 s = some (.exit 4, s) := ZI (by rfl) s
theorem Z0e8 : XC 11 216 Z9W 95 ZJT ZG6 := Zf (by rfl) _
theorem Z0hW : XQ 11 216 Z8R ZrO Z9W := Z0 (by rfl) _
def Zcw := kR Z59
def Zut := kL Zcw
def Z9n := kB Zut
def Z9K := kL Z9n
def Zkx := kL Z9K
def Zg := kO Zkx
def Zsv := opN Zg 0
def Zo2 := opN Zg 1
def Zue := opN Zg 2
def Z24 := opN Zg 3
def Zt1 := opN Zg 4
def ZsA := opN Zg 5
def ZqB := opN Zg 6
def Z3W := opN Zg 7
def Zpr := opN Zg 8
def ZmX := opN Zg 9
def Zg3 := opN Zg 10
def ZeA := opN Zg 11
def ZgR := opN Zg 12
def Z0t := opN Zg 13
def Zg4 := opN Zg 14
def ZgZ := opN Zg 15
def Zgs := opN Zg 16
def ZfL := opN Zg 17
def Zeu := opN Zg 18
def ZgJ := opN Zg 19
def ZhN := opN Zg 20
def ZhL := opN Zg 21
def Zgy := opN Zg 22
def Zhm := opN Zg 23
def Zfj := opN Zg 24
theorem Z0fq : XD 11 216 Zkx Zg [95, 98, 99, 100, 101, 102, 103, 104, 105, 106, 107, 108, 109, 110, 111, 112, 113, 114, 115, 116, 117, 118, 119, 120, 121] := Z0h (by rfl) (by rfl) _
theorem ZOo : Zg.toList = [Zsv, Zo2, Zue, Z24, Zt1, ZsA, ZqB, Z3W, Zpr, ZmX, Zg3, ZeA, ZgR, Z0t, Zg4, ZgZ, Zgs, ZfL, Zeu, ZgJ, ZhN, ZhL, Zgy, Zhm, Zfj] := nf
theorem ZK1 : statOk Zg = true := by kernel_rfl
theorem ZGd : drawA E C B 216 Zg s = if neat 216 s = true then drX Zg (runT E C B 216 Zg Zg.toList 0 s) else none := Z00 ZK1 s
theorem ZGb (l : List (Nat × Tr)) : dynOk Zg l = (!writing l || Za [[], [], [0, 1], [0, 1, 2], [0, 1, 2, 3], [0, 1, 2, 3], [0, 1, 2, 3, 4, 5], [0, 1, 2, 3, 4, 5, 6], [0, 1, 2, 3, 4, 5, 6, 7], [0, 1, 2, 3, 4, 5, 6, 7], [0, 1, 2, 3, 4, 5, 6, 7, 8, 9], [0, 1, 2, 3, 4, 5, 6, 7, 8, 9, 10], [0, 1, 2, 3, 4, 5, 6, 7, 8, 9, 10, 11], [0, 1, 2, 3, 4, 5, 6, 7, 8, 9, 10, 11, 12], [0, 1, 2, 3, 4, 5, 6, 7, 8, 9, 10, 11, 12, 13], [0, 1, 2, 3, 4, 5, 6, 7, 8, 9, 10, 11, 12, 13], [0, 1, 2, 3, 4, 5, 6, 7, 8, 9, 10, 11, 12, 13, 14, 15], [0, 1, 2, 3, 4, 5, 6, 7, 8, 9, 10, 11, 12, 13, 14, 15, 16], [0, 1, 2, 3, 4, 5, 6, 7, 8, 9, 10, 11, 12, 13], [0, 1, 2, 3, 4, 5, 6, 7, 8, 9, 10, 11, 12, 13], [0, 1, 2, 3, 4, 5, 6, 7, 8, 9, 10, 11, 12, 13, 18, 19], [0, 1, 2, 3, 4, 5, 6, 7, 8, 9, 10, 11, 12, 13, 18, 19, 20], [0, 1, 2, 3, 4, 5, 6, 7, 8, 9, 10, 11, 12, 13, 14, 15, 16, 17, 18, 19, 20, 21], [0, 1, 2, 3, 4, 5, 6, 7, 8, 9, 10, 11, 12, 13, 14, 15, 16, 17, 18, 19, 20, 21, 22], [0, 1, 2, 3, 4, 5, 6, 7, 8, 9, 10, 11, 12, 13, 14, 15, 16, 17, 18, 19, 20, 21, 22, 23]] (Z9 l)) := ZQ (by kernel_rfl) l
theorem ZNh : stepT E C B 216 Zg Zsv (φ, H) = some ((fput φ 98 (fget φ 15), H), ⟨false, [], []⟩) := Z3 rfl (Z7 rfl rfl)
theorem ZRM : stepT E C B 216 Zg Zo2 (φ, H) = some ((fput φ 99 (fget φ 12), H), ⟨false, [], []⟩) := Z3 rfl (Z7 rfl rfl)
theorem ZSD : stepT E C B 216 Zg Zue (φ, H) = stpT (some 100) φ H (just (aBin E.T .gtr 3 (fget φ 98) (fget φ 99))) := Z3 rfl (Z5 rfl rfl)
theorem ZNR : stepT E C B 216 Zg Z24 (φ, H) = some ((fput φ 101 (fget φ 100), H), ⟨false, [], []⟩) := Z3 rfl (Z7 rfl rfl)
theorem ZP6 : stepT E C B 216 Zg Zt1 (φ, H) = gdT φ 101 false (fun φ => (some (fput φ 102 (.tup []), H)).map fun s => (s, ⟨false, [], []⟩)) (fun φ => some ((fput φ 102 (fget φ 15), H), ⟨false, [], []⟩)) := Zb (j := 3) (oj := Z24) rfl rfl rfl (fun _ => rfl) (fun _ => Z7 rfl rfl)
theorem ZWh : stepT E C B 216 Zg ZsA (φ, H) = gdT φ 101 false (fun φ => (some (fput φ 103 (.tup []), H)).map fun s => (s, ⟨false, [], []⟩)) (fun φ => some ((fput φ 103 (fget φ 12), H), ⟨false, [], []⟩)) := Zb (j := 3) (oj := Z24) rfl rfl rfl (fun _ => rfl) (fun _ => Z7 rfl rfl)
theorem ZUR : stepT E C B 216 Zg ZqB (φ, H) = gdT φ 101 false (fun φ => (some (fput φ 104 (.tup []), H)).map fun s => (s, ⟨false, [], []⟩)) (fun φ => stpT (some 104) φ H (just (aBin E.T .eql 3 (fget φ 102) (fget φ 103)))) := Zb (j := 3) (oj := Z24) rfl rfl rfl (fun _ => rfl) (fun _ => Z5 rfl rfl)
theorem ZOq : stepT E C B 216 Zg Z3W (φ, H) = gdT φ 101 false (fun φ => (some (fput φ 105 (.tup []), H)).map fun s => (s, ⟨false, [], []⟩)) (fun φ => some ((fput φ 105 (fget φ 104), H), ⟨false, [], []⟩)) := Zb (j := 3) (oj := Z24) rfl rfl rfl (fun _ => rfl) (fun _ => Z7 rfl rfl)
theorem ZTP : stepT E C B 216 Zg Zpr (φ, H) = gdT φ 105 true (fun φ => (some (fput φ 106 (.tup []), H)).map fun s => (s, ⟨false, [], []⟩)) (fun φ => some ((fput φ 106 (fget φ 16), H), ⟨false, [], []⟩)) := Zb (j := 7) (oj := Z3W) rfl rfl rfl (fun _ => rfl) (fun _ => Z7 rfl rfl)
theorem ZSi : stepT E C B 216 Zg ZmX (φ, H) = gdT φ 105 true (fun φ => (some (fput φ 107 (.tup []), H)).map fun s => (s, ⟨false, [], []⟩)) (fun φ => some ((fput φ 107 (fget φ 13), H), ⟨false, [], []⟩)) := Zb (j := 7) (oj := Z3W) rfl rfl rfl (fun _ => rfl) (fun _ => Z7 rfl rfl)
theorem ZKP : stepT E C B 216 Zg Zg3 (φ, H) = gdT φ 105 true (fun φ => (some (fput φ 108 (.tup []), H)).map fun s => (s, ⟨false, [], []⟩)) (fun φ => stpT (some 108) φ H (just (aBin E.T .geq 3 (fget φ 106) (fget φ 107)))) := Zb (j := 7) (oj := Z3W) rfl rfl rfl (fun _ => rfl) (fun _ => Z5 rfl rfl)
theorem ZIs : stepT E C B 216 Zg ZeA (φ, H) = gdT φ 101 false (fun φ => (some (fput φ 109 (.tup []), H)).map fun s => (s, ⟨false, [], []⟩)) (fun φ => stpT (some 109) φ H (opPick (fget φ 105) (fget φ 108) (.bool false))) := Zb (j := 3) (oj := Z24) rfl rfl rfl (fun _ => rfl) (fun _ => Z5 rfl rfl)
theorem ZL0 : stepT E C B 216 Zg ZgR (φ, H) = stpT (some 110) φ H (opPick (fget φ 101) (.bool true) (fget φ 109)) := Z3 rfl (Z5 rfl rfl)
theorem ZLH : stepT E C B 216 Zg Z0t (φ, H) = some ((fput φ 111 (fget φ 110), H), ⟨false, [], []⟩) := Z3 rfl (Z7 rfl rfl)
theorem ZG5 : stepT E C B 216 Zg Zg4 (φ, H) = gdT φ 111 false (fun φ => (some (fput φ 112 (.tup []), H)).map fun s => (s, ⟨false, [], []⟩)) (fun φ => some ((fput φ 112 (fget φ 10), H), ⟨false, [], []⟩)) := Zb (j := 13) (oj := Z0t) rfl rfl rfl (fun _ => rfl) (fun _ => Z7 rfl rfl)
theorem ZLX : stepT E C B 216 Zg ZgZ (φ, H) = gdT φ 111 false (fun φ => (some (fput φ 113 (.tup []), H)).map fun s => (s, ⟨false, [], []⟩)) (fun φ => some ((fput φ 113 (fget φ 15), H), ⟨false, [], []⟩)) := Zb (j := 13) (oj := Z0t) rfl rfl rfl (fun _ => rfl) (fun _ => Z7 rfl rfl)
theorem ZI1 : stepT E C B 216 Zg Zgs (φ, H) = gdT φ 111 false (fun φ => (some (fput φ 114 (.tup []), H)).map fun s => (s, ⟨false, [], []⟩)) (fun φ => stpT (some 114) φ H (just (Z2 E.T 22 (fget φ 112) (fget φ 113)))) := Zb (j := 13) (oj := Z0t) rfl rfl rfl (fun _ => rfl) (fun _ => Z5 rfl rfl)
theorem ZMu : stepT E C B 216 Zg ZfL (φ, H) = gdT φ 111 false (fun φ => (some (fput φ 115 (.tup []), H)).map fun s => (s, ⟨false, [], []⟩)) (fun φ => stpT (some 115) φ H (just (aLoad E.T 3 (fget φ 114)))) := Zb (j := 13) (oj := Z0t) rfl rfl rfl (fun _ => rfl) (fun _ => Z5 rfl rfl)
theorem ZIW : stepT E C B 216 Zg Zeu (φ, H) = gdT φ 111 false (fun φ => (some (fput φ 116 (.tup []), H)).map fun s => (s, ⟨false, [], []⟩)) (fun φ => some ((fput φ 116 (fget φ 10), H), ⟨false, [], []⟩)) := Zb (j := 13) (oj := Z0t) rfl rfl rfl (fun _ => rfl) (fun _ => Z7 rfl rfl)
theorem ZK7 : stepT E C B 216 Zg ZgJ (φ, H) = gdT φ 111 false (fun φ => (some (fput φ 117 (.tup []), H)).map fun s => (s, ⟨false, [], []⟩)) (fun φ => some ((fput φ 117 (fget φ 16), H), ⟨false, [], []⟩)) := Zb (j := 13) (oj := Z0t) rfl rfl rfl (fun _ => rfl) (fun _ => Z7 rfl rfl)
theorem ZHE : stepT E C B 216 Zg ZhN (φ, H) = gdT φ 111 false (fun φ => (some (fput φ 118 (.tup []), H)).map fun s => (s, ⟨false, [], []⟩)) (fun φ => stpT (some 118) φ H (just (Z2 E.T 22 (fget φ 116) (fget φ 117)))) := Zb (j := 13) (oj := Z0t) rfl rfl rfl (fun _ => rfl) (fun _ => Z5 rfl rfl)
theorem ZMM : stepT E C B 216 Zg ZhL (φ, H) = gdT φ 111 false (fun φ => (some (fput φ 119 (.tup []), H)).map fun s => (s, ⟨false, [], []⟩)) (fun φ => stpT (some 119) φ H (just (aLoad E.T 3 (fget φ 118)))) := Zb (j := 13) (oj := Z0t) rfl rfl rfl (fun _ => rfl) (fun _ => Z5 rfl rfl)
theorem ZMI : stepT E C B 216 Zg Zgy (φ, H) = gdT φ 111 false (fun φ => (some (fput φ 120 (.tup []), H)).map fun s => (s, ⟨false, [], []⟩)) (fun φ => stpT (some 120) φ H (just (aBin E.T .sub 3 (fget φ 115) (fget φ 119)))) := Zb (j := 13) (oj := Z0t) rfl rfl rfl (fun _ => rfl) (fun _ => Z5 rfl rfl)
theorem ZLv : stepT E C B 216 Zg Zhm (φ, H) = gdT φ 111 false (fun φ => (some (fput φ 121 (.tup []), H)).map fun s => (s, ⟨false, [], []⟩)) (fun φ => stpT (some 121) φ H (just (aBin E.T .lss 3 (fget φ 120) (.int .i64 2)))) := Zb (j := 13) (oj := Z0t) rfl rfl rfl (fun _ => rfl) (fun _ => Z5 rfl rfl)
theorem ZFT : stepT E C B 216 Zg Zfj (φ, H) = stpT (some 122) φ H (opPick (fget φ 111) (.bool true) (fget φ 121)) := Z3 rfl (Z5 rfl rfl)
def ZcP := kR Z9K
def ZGu := kT ZcP
theorem Z0hH : execA E C (fg 11) B 216 E0 N ZGu s = some (.exit 5, s) := ZI (by rfl) s
def ZKT := kE ZcP
theorem Z0i3 : execA E C (fg 11) B 216 E0 N ZKT s = some (.normal, s) := Zh (by rfl) s
theorem Z0i8 : XC 11 216 ZcP 122 ZGu ZKT := Zf (by rfl) _
theorem Z0fN : XQ 11 216 Z9K Zkx ZcP := Z0 (by rfl) _
def ZbH := kR Z9n
def ZnX := kL ZbH
def Z3e := kO ZnX
def Zln := opN Z3e 0
def Zpy := opN Z3e 1
def Zkv := opN Z3e 2
theorem Z0aH : XG 11 216 ZnX Z3e [122, 123, 124] := Z1 (by rfl) (by rfl) _
theorem ZUk : Z3e.toList = [Zln, Zpy, Zkv] := nf
theorem ZTk : stepA E C B 216 Z3e Zln (φ, H) = some (fput φ 123 (fget φ 10), H) := nf
theorem ZVy : stepA E C B 216 Z3e Zpy (φ, H) = stp (some 124) φ H (aCall C (fun j => B + j * 216 + 124) true 66 [(fget φ 123)]) := nf
theorem ZV1 : stepA E C B 216 Z3e Zkv (φ, H) = some (fput φ 17 (fget φ 124), H) := nf
def Z9x := kR ZbH
def ZsF := kL Z9x
def Z0G := kO ZsF
def Zu7 := opN Z0G 0
def ZsT := opN Z0G 1
def Znu := opN Z0G 2
def ZsI := opN Z0G 3
def Zts := opN Z0G 4
def ZoS := opN Z0G 5
def Zu6 := opN Z0G 6
theorem Z0fB : XG 11 216 ZsF Z0G [125, 126, 127, 128, 129, 130] := Z1 (by rfl) (by rfl) _
theorem ZPE : Z0G.toList = [Zu7, ZsT, Znu, ZsI, Zts, ZoS, Zu6] := nf
theorem ZNP : stepA E C B 216 Z0G Zu7 (φ, H) = some (fput φ 125 (fget φ 17), H) := nf
theorem ZUW : stepA E C B 216 Z0G ZsT (φ, H) = some (fput φ 126 (fget φ 15), H) := nf
theorem ZR0 : stepA E C B 216 Z0G Znu (φ, H) = stp (some 127) φ H (just (Z2 E.T 22 (fget φ 125) (fget φ 126))) := nf
theorem ZUC : stepA E C B 216 Z0G ZsI (φ, H) = stp (some 128) φ H (just (aLoad E.T 3 (fget φ 127))) := nf
theorem ZQN : stepA E C B 216 Z0G Zts (φ, H) = stp (some 129) φ H (just (aBin E.T .sub 3 (fget φ 128) (.int .i64 1))) := nf
theorem ZUl : stepA E C B 216 Z0G ZoS (φ, H) = stp (some 130) φ H (just (Z2 E.T 22 (fget φ 125) (fget φ 126))) := nf
theorem ZUV : stepA E C B 216 Z0G Zu6 (φ, H) = stp none φ H (opStore E.T 3 (fget φ 130) (fget φ 129)) := nf
def Zcc := kR Z9x
def Zkp := kL Zcc
def Z0E := kO Zkp
def ZpN := opN Z0E 0
def Zry := opN Z0E 1
def ZrU := opN Z0E 2
def Zm8 := opN Z0E 3
def Zqx := opN Z0E 4
def Znn := opN Z0E 5
def Zrv := opN Z0E 6
theorem Z0bz : XG 11 216 Zkp Z0E [131, 132, 133, 134, 135, 136] := Z1 (by rfl) (by rfl) _
theorem ZTZ : Z0E.toList = [ZpN, Zry, ZrU, Zm8, Zqx, Znn, Zrv] := nf
theorem ZR4 : stepA E C B 216 Z0E ZpN (φ, H) = some (fput φ 131 (fget φ 17), H) := nf
theorem ZV4 : stepA E C B 216 Z0E Zry (φ, H) = some (fput φ 132 (fget φ 16), H) := nf
theorem ZNI : stepA E C B 216 Z0E ZrU (φ, H) = stp (some 133) φ H (just (Z2 E.T 22 (fget φ 131) (fget φ 132))) := nf
theorem ZPY : stepA E C B 216 Z0E Zm8 (φ, H) = stp (some 134) φ H (just (aLoad E.T 3 (fget φ 133))) := nf
theorem ZRV : stepA E C B 216 Z0E Zqx (φ, H) = stp (some 135) φ H (just (aBin E.T .add 3 (fget φ 134) (.int .i64 1))) := nf
theorem ZS3 : stepA E C B 216 Z0E Znn (φ, H) = stp (some 136) φ H (just (Z2 E.T 22 (fget φ 131) (fget φ 132))) := nf
theorem ZRL : stepA E C B 216 Z0E Zrv (φ, H) = stp none φ H (opStore E.T 3 (fget φ 136) (fget φ 135)) := nf
def Zch := kR Zcc
def Zq5 := kL Zch
def Z4Y := kO Zq5
def Ztx := opN Z4Y 0
def Zov := opN Z4Y 1
theorem Z0bZ : XG 11 216 Zq5 Z4Y [137, 138] := Z1 (by rfl) (by rfl) _
theorem ZVt : Z4Y.toList = [Ztx, Zov] := nf
theorem ZSO : stepA E C B 216 Z4Y Ztx (φ, H) = some (fput φ 137 (fget φ 17), H) := nf
theorem ZRX : stepA E C B 216 Z4Y Zov (φ, H) = mutX (some 138) φ (C 67 [(fget φ 137)] H (B + 216 * 8)) := nf
def ZaF := kR Zch
def Ztl := kL ZaF
def Z1K := kO Ztl
def ZsP := opN Z1K 0
def Zp0 := opN Z1K 1
def ZmO := opN Z1K 2
def Zm9 := opN Z1K 3
theorem Z0eU : XG 11 216 Ztl Z1K [139, 140, 141] := Z1 (by rfl) (by rfl) _
theorem ZOi : Z1K.toList = [ZsP, Zp0, ZmO, Zm9] := nf
theorem ZRQ : stepA E C B 216 Z1K ZsP (φ, H) = some (fput φ 139 (fget φ 17), H) := nf
theorem ZQ3 : stepA E C B 216 Z1K Zp0 (φ, H) = some (fput φ 140 (fget φ 9), H) := nf
theorem ZPf : stepA E C B 216 Z1K ZmO (φ, H) = stp (some 141) φ H (aCall C (fun j => B + j * 216 + 141) true 68 [(fget φ 139), (fget φ 140)]) := nf
theorem ZT0 : stepA E C B 216 Z1K Zm9 (φ, H) = some (fput φ 18 (fget φ 141), H) := nf
def Z9A := kR ZaF
def Zu5 := kL Z9A
def Z0e := kO Zu5
def ZlU := opN Z0e 0
def ZoV := opN Z0e 1
def ZpF := opN Z0e 2
def Z2r := opN Z0e 3
def ZlY := opN Z0e 4
def ZlS := opN Z0e 5
def ZpV := opN Z0e 6
def Zku := opN Z0e 7
def Zqm := opN Z0e 8
theorem Z0cs : XG 11 216 Zu5 Z0e [17, 18, 142, 143, 144, 145, 146, 147, 148, 149] := Z1 (by rfl) (by rfl) _
theorem ZS5 : Z0e.toList = [ZlU, ZoV, ZpF, Z2r, ZlY, ZlS, ZpV, Zku, Zqm] := nf
theorem ZQk : stepA E C B 216 Z0e ZlU (φ, H) = some (fput φ 142 (fget φ 17), H) := nf
theorem ZVl : stepA E C B 216 Z0e ZoV (φ, H) = some (fput φ 143 (fget φ 9), H) := nf
theorem ZVS : stepA E C B 216 Z0e ZpF (φ, H) = stp (some 144) φ H (aCall C (fun j => B + j * 216 + 144) true 62 [(fget φ 142), (fget φ 143)]) := nf
theorem ZW7 : stepA E C B 216 Z0e Z2r (φ, H) = some (fput φ 145 (fget φ 144), H) := nf
theorem ZVB : stepA E C B 216 Z0e ZlY (φ, H) = gd φ 145 true (fun φ => some (fput φ 146 (.tup []), H)) (fun φ => some (fput φ 146 (fget φ 18), H)) := s_gd (j := 3) (oj := Z2r) rfl rfl rfl (fun _ => rfl) (fun _ => rfl)
theorem ZRS : stepA E C B 216 Z0e ZlS (φ, H) = gd φ 145 true (fun φ => some (fput φ 147 (.tup []), H)) (fun φ => some (fput φ 147 (fget φ 11), H)) := s_gd (j := 3) (oj := Z2r) rfl rfl rfl (fun _ => rfl) (fun _ => rfl)
theorem ZVV : stepA E C B 216 Z0e ZpV (φ, H) = gd φ 145 true (fun φ => some (fput φ 148 (.tup []), H)) (fun φ => stp (some 148) φ H (just (aBin E.T .mul 3 (.int .i64 2) (fget φ 147)))) := s_gd (j := 3) (oj := Z2r) rfl rfl rfl (fun _ => rfl) (fun _ => rfl)
theorem ZVU : stepA E C B 216 Z0e Zku (φ, H) = gd φ 145 true (fun φ => some (fput φ 149 (.tup []), H)) (fun φ => stp (some 149) φ H (just (aBin E.T .lss 3 (fget φ 146) (fget φ 148)))) := s_gd (j := 3) (oj := Z2r) rfl rfl rfl (fun _ => rfl) (fun _ => rfl)
theorem ZS9 : stepA E C B 216 Z0e Zqm (φ, H) = stp (some 150) φ H (opPick (fget φ 145) (fget φ 149) (.bool false)) := nf
def ZaU := kR Z9A
def ZaD := kT ZaU
def Zrb := kL ZaD
def Z8S := kO Zrb
def Zup := opN Z8S 0
theorem Z0cM : XG 11 216 Zrb Z8S [9, 10, 11, 12, 13, 15, 16, 86, 87, 150] := Z1 (by rfl) (by rfl) _
theorem ZSP : Z8S.toList = [Zup] := nf
theorem ZV0 : stepA E C B 216 Z8S Zup (φ, H) = some (fput φ 4 (.bool false), H) := nf
def ZGz := kR ZaD
theorem Z0cI : execA E C (fg 11) B 216 E0 N ZGz s = some (.ret, s) := Zq (by rfl) s
theorem Z0bX : XQ 11 216 ZaD Zrb ZGz := Z0 (by rfl) _
def ZHr := kE ZaU
theorem Z0ig : execA E C (fg 11) B 216 E0 N ZHr s = some (.normal, s) := Zh (by rfl) s
theorem Z0gL : XC 11 216 ZaU 150 ZaD ZHr := Zf (by rfl) _
theorem Z0eK : XQ 11 216 Z9A Zu5 ZaU := Z0 (by rfl) _
theorem Z0d0 : XQ 11 216 ZaF Ztl Z9A := Z0 (by rfl) _
theorem Z0bP : XQ 11 216 Zch Zq5 ZaF := Z0 (by rfl) _
theorem Z0fx : XQ 11 216 Zcc Zkp Zch := Z0 (by rfl) _
theorem Z0fn : XQ 11 216 Z9x ZsF Zcc := Z0 (by rfl) _
theorem Z0gH : XQ 11 216 ZbH ZnX Z9x := Z0 (by rfl) _
theorem Z0dE : XQ 11 216 Z9n Z9K ZbH := Z0 (by rfl) _
theorem Z0iE : execA E C (fg 11) B 216 E0 N Zut s = blockX 5 (fun s => (forget s.1 [122, 150], s.2)) (execA E C (fg 11) B 216 E0 N Z9n s) := Ze (by rfl) (by rfl) s
def Zny := kR Zcw
def Z35 := kO Zny
def Znr := opN Z35 0
def Zt5 := opN Z35 1
def ZtK := opN Z35 2
theorem Z0fO : XG 11 216 Zny Z35 [96, 97] := Z1 (by rfl) (by rfl) _
theorem ZQs : Z35.toList = [Znr, Zt5, ZtK] := nf
theorem ZQc : stepA E C B 216 Z35 Znr (φ, H) = some (fput φ 96 (fget φ 16), H) := nf
theorem ZTQ : stepA E C B 216 Z35 Zt5 (φ, H) = stp (some 97) φ H (just (aBin E.T .add 3 (fget φ 96) (.int .i64 1))) := nf
theorem ZV8 : stepA E C B 216 Z35 ZtK (φ, H) = some (fput φ 16 (fget φ 97), H) := nf
theorem Z0fe : XQ 11 216 Zcw Zut Zny := Z0 (by rfl) _
theorem Z0fK : XQ 11 216 Z59 Z8R Zcw := Z0 (by rfl) _
theorem Z0iL : execA E C (fg 11) B 216 E0 N ZsJ s = iterA (execA E C (fg 11) B 216 E0 N Z59) (headA E0) N s := ZV (by rfl) s
theorem Z0cL : execA E C (fg 11) B 216 E0 N Zks s = blockX 4 (fun s => (forget s.1 [15, 16, 95], s.2)) (execA E C (fg 11) B 216 E0 N ZsJ s) := Ze (by rfl) (by rfl) s
theorem Z0au : XQ 11 216 Za9 Zrf Zks := Z0 (by rfl) _
theorem Z0de : XQ 11 216 Z9D Zs6 Za9 := Z0 (by rfl) _
theorem Z0gT : execA E C (fg 11) B 216 E0 N ZmP s = blockX 3 (fun s => (forget s.1 [], s.2)) (execA E C (fg 11) B 216 E0 N Z9D s) := Ze (by rfl) (by rfl) s
def Zq8 := kR ZaJ
def Z4R := kO Zq8
def Zt4 := opN Z4R 0
def ZmS := opN Z4R 1
theorem Z0bQ : XG 11 216 Zq8 Z4R [151] := Z1 (by rfl) (by rfl) _
theorem ZPw : Z4R.toList = [Zt4, ZmS] := nf
theorem ZSf : stepA E C B 216 Z4R Zt4 (φ, H) = stp (some 151) φ H (just (aBin E.T .add 3 (fget φ 87) (.int .i64 1))) := nf
theorem ZV9 : stepA E C B 216 Z4R ZmS (φ, H) = some (fput φ 87 (fget φ 151), H) := nf
theorem Z0aJ : XQ 11 216 ZaJ ZmP Zq8 := Z0 (by rfl) _
theorem Z0fS : XQ 11 216 ZcW Z8W ZaJ := Z0 (by rfl) _
theorem Z0cF : XQ 11 216 Z54 ZrZ ZcW := Z0 (by rfl) _
theorem Z0i2 : execA E C (fg 11) B 216 E0 N Zs5 s = iterA (execA E C (fg 11) B 216 E0 N Z54) (headA E0) N s := ZV (by rfl) s
theorem Z0b5 : execA E C (fg 11) B 216 E0 N Zse s = blockX 2 (fun s => (forget s.1 [86, 87, 88], s.2)) (execA E C (fg 11) B 216 E0 N Zs5 s) := Ze (by rfl) (by rfl) s
theorem Z0il : XQ 11 216 Zaf ZmA Zse := Z0 (by rfl) _
def Zaz := kR Z8X
def ZkH := kL Zaz
def Z0d := kO ZkH
def ZoZ := opN Z0d 0
def Zo8 := opN Z0d 1
def ZsS := opN Z0d 2
def Zlu := opN Z0d 3
def ZkY := opN Z0d 4
def Zp1 := opN Z0d 5
def Zsm := opN Z0d 6
def Zqn := opN Z0d 7
def Zne := opN Z0d 8
theorem Z0cf : XG 11 216 ZkH Z0d [152, 153, 154, 155, 156, 157, 158] := Z1 (by rfl) (by rfl) _
theorem ZSJ : Z0d.toList = [ZoZ, Zo8, ZsS, Zlu, ZkY, Zp1, Zsm, Zqn, Zne] := nf
theorem ZSe : stepA E C B 216 Z0d ZoZ (φ, H) = some (fput φ 153 (fget φ 10), H) := nf
theorem ZOC : stepA E C B 216 Z0d Zo8 (φ, H) = some (fput φ 154 (fget φ 12), H) := nf
theorem ZN9 : stepA E C B 216 Z0d ZsS (φ, H) = some (fput φ 155 (fget φ 13), H) := nf
theorem ZVg : stepA E C B 216 Z0d Zlu (φ, H) = stp (some 156) φ H (aCall C (fun j => B + j * 216 + 156) true 22 [(fget φ 153), (fget φ 154), (fget φ 155)]) := nf
theorem ZPP : stepA E C B 216 Z0d ZkY (φ, H) = some (fput φ 152 (fget φ 156), H) := nf
theorem ZOP : stepA E C B 216 Z0d Zp1 (φ, H) = stp (some 157) φ H (Zs (fget φ 152) 0) := nf
theorem ZPF : stepA E C B 216 Z0d Zsm (φ, H) = stp (some 158) φ H (Zs (fget φ 152) 1) := nf
theorem ZVW : stepA E C B 216 Z0d Zqn (φ, H) = some (fput φ 19 (fget φ 157), H) := nf
theorem ZO4 : stepA E C B 216 Z0d Zne (φ, H) = some (fput φ 14 (fget φ 158), H) := nf
def ZbR := kR Zaz
def Zm6 := kL ZbR
def Z2Y := kO Zm6
def Zt9 := opN Z2Y 0
def Zof := opN Z2Y 1
def Zpp := opN Z2Y 2
theorem Z0dW : XG 11 216 Zm6 Z2Y [10, 159, 160] := Z1 (by rfl) (by rfl) _
theorem ZW5 : Z2Y.toList = [Zt9, Zof, Zpp] := nf
theorem ZTh : stepA E C B 216 Z2Y Zt9 (φ, H) = some (fput φ 159 (fget φ 10), H) := nf
theorem ZR3 : stepA E C B 216 Z2Y Zof (φ, H) = stp (some 160) φ H (aCall C (fun j => B + j * 216 + 160) true 66 [(fget φ 159)]) := nf
theorem ZRn : stepA E C B 216 Z2Y Zpp (φ, H) = some (fput φ 20 (fget φ 160), H) := nf
def Zam := kR ZbR
def Znj := kL Zam
def Z0H := kO Znj
def Zpd := opN Z0H 0
def ZqR := opN Z0H 1
def Zqw := opN Z0H 2
def ZoR := opN Z0H 3
def Ztn := opN Z0H 4
def Zm5 := opN Z0H 5
def ZnE := opN Z0H 6
theorem Z0is : XG 11 216 Znj Z0H [12, 161, 162, 163, 164, 165, 166] := Z1 (by rfl) (by rfl) _
theorem ZUu : Z0H.toList = [Zpd, ZqR, Zqw, ZoR, Ztn, Zm5, ZnE] := nf
theorem ZRl : stepA E C B 216 Z0H Zpd (φ, H) = some (fput φ 161 (fget φ 20), H) := nf
theorem ZO5 : stepA E C B 216 Z0H ZqR (φ, H) = some (fput φ 162 (fget φ 12), H) := nf
theorem ZSk : stepA E C B 216 Z0H Zqw (φ, H) = stp (some 163) φ H (just (Z2 E.T 22 (fget φ 161) (fget φ 162))) := nf
theorem ZV7 : stepA E C B 216 Z0H ZoR (φ, H) = stp (some 164) φ H (just (aLoad E.T 3 (fget φ 163))) := nf
theorem ZUE : stepA E C B 216 Z0H Ztn (φ, H) = stp (some 165) φ H (just (aBin E.T .sub 3 (fget φ 164) (.int .i64 1))) := nf
theorem ZOt : stepA E C B 216 Z0H Zm5 (φ, H) = stp (some 166) φ H (just (Z2 E.T 22 (fget φ 161) (fget φ 162))) := nf
theorem ZVJ : stepA E C B 216 Z0H ZnE (φ, H) = stp none φ H (opStore E.T 3 (fget φ 166) (fget φ 165)) := nf
def ZcE := kR Zam
def ZpM := kL ZcE
def Z0D := kO ZpM
def ZlA := opN Z0D 0
def ZtI := opN Z0D 1
def Zro := opN Z0D 2
def ZsD := opN Z0D 3
def Znc := opN Z0D 4
def Zlp := opN Z0D 5
def Zo6 := opN Z0D 6
theorem Z0id : XG 11 216 ZpM Z0D [13, 167, 168, 169, 170, 171, 172] := Z1 (by rfl) (by rfl) _
theorem ZPN : Z0D.toList = [ZlA, ZtI, Zro, ZsD, Znc, Zlp, Zo6] := nf
theorem ZUQ : stepA E C B 216 Z0D ZlA (φ, H) = some (fput φ 167 (fget φ 20), H) := nf
theorem ZQO : stepA E C B 216 Z0D ZtI (φ, H) = some (fput φ 168 (fget φ 13), H) := nf
theorem ZSV : stepA E C B 216 Z0D Zro (φ, H) = stp (some 169) φ H (just (Z2 E.T 22 (fget φ 167) (fget φ 168))) := nf
theorem ZTR : stepA E C B 216 Z0D ZsD (φ, H) = stp (some 170) φ H (just (aLoad E.T 3 (fget φ 169))) := nf
theorem ZNT : stepA E C B 216 Z0D Znc (φ, H) = stp (some 171) φ H (just (aBin E.T .add 3 (fget φ 170) (.int .i64 1))) := nf
theorem ZTy : stepA E C B 216 Z0D Zlp (φ, H) = stp (some 172) φ H (just (Z2 E.T 22 (fget φ 167) (fget φ 168))) := nf
theorem ZVq : stepA E C B 216 Z0D Zo6 (φ, H) = stp none φ H (opStore E.T 3 (fget φ 172) (fget φ 171)) := nf
def Zbp := kR ZcE
def Zly := kL Zbp
def Z4O := kO Zly
def ZoU := opN Z4O 0
def ZtF := opN Z4O 1
theorem Z0hM : XG 11 216 Zly Z4O [173, 174] := Z1 (by rfl) (by rfl) _
theorem ZQ6 : Z4O.toList = [ZoU, ZtF] := nf
theorem ZUh : stepA E C B 216 Z4O ZoU (φ, H) = some (fput φ 173 (fget φ 20), H) := nf
theorem ZOu : stepA E C B 216 Z4O ZtF (φ, H) = mutX (some 174) φ (C 67 [(fget φ 173)] H (B + 216 * 8)) := nf
def ZcL := kR Zbp
def Z9o := kL ZcL
def ZqT := kL Z9o
def Zk := kO ZqT
def Zmn := opN Zk 0
def Zun := opN Zk 1
def Z2q := opN Zk 2
def Zpb := opN Zk 3
def Ztg := opN Zk 4
def Zmv := opN Zk 5
def Zos := opN Zk 6
def Zti := opN Zk 7
def Z19 := opN Zk 8
def Zoq := opN Zk 9
def ZhT := opN Zk 10
def Zhw := opN Zk 11
def ZeT := opN Zk 12
def Zhd := opN Zk 13
def Zg8 := opN Zk 14
def ZhM := opN Zk 15
def Zh7 := opN Zk 16
def Z27 := opN Zk 17
def ZgX := opN Zk 18
def ZgO := opN Zk 19
def Zgt := opN Zk 20
def Zht := opN Zk 21
def ZfH := opN Zk 22
theorem Z0bR : XG 11 216 ZqT Zk [14, 20, 175, 176, 177, 178, 179, 180, 181, 182, 183, 184, 185, 186, 187, 188, 189, 190, 191, 192, 193, 194, 195, 196] := Z1 (by rfl) (by rfl) _
theorem ZQ2 : Zk.toList = [Zmn, Zun, Z2q, Zpb, Ztg, Zmv, Zos, Zti, Z19, Zoq, ZhT, Zhw, ZeT, Zhd, Zg8, ZhM, Zh7, Z27, ZgX, ZgO, Zgt, Zht, ZfH] := nf
theorem ZPn : stepA E C B 216 Zk Zmn (φ, H) = some (fput φ 175 (fget φ 14), H) := nf
theorem ZT4 : stepA E C B 216 Zk Zun (φ, H) = stp (some 176) φ H (just (aBin E.T .neq 24 (fget φ 175) (.int .i64 0))) := nf
theorem ZUD : stepA E C B 216 Zk Z2q (φ, H) = some (fput φ 177 (fget φ 176), H) := nf
theorem ZOR : stepA E C B 216 Zk Zpb (φ, H) = gd φ 177 false (fun φ => some (fput φ 178 (.tup []), H)) (fun φ => some (fput φ 178 (fget φ 19), H)) := s_gd (j := 2) (oj := Z2q) rfl rfl rfl (fun _ => rfl) (fun _ => rfl)
theorem ZUq : stepA E C B 216 Zk Ztg (φ, H) = gd φ 177 false (fun φ => some (fput φ 179 (.tup []), H)) (fun φ => some (fput φ 179 (fget φ 20), H)) := s_gd (j := 2) (oj := Z2q) rfl rfl rfl (fun _ => rfl) (fun _ => rfl)
theorem ZRt : stepA E C B 216 Zk Zmv (φ, H) = gd φ 177 false (fun φ => some (fput φ 180 (.tup []), H)) (fun φ => stp (some 180) φ H (aCall C (fun j => B + j * 216 + 180) true 24 [(fget φ 178), (fget φ 179)])) := s_gd (j := 2) (oj := Z2q) rfl rfl rfl (fun _ => rfl) (fun _ => rfl)
theorem ZT3 : stepA E C B 216 Zk Zos (φ, H) = gd φ 177 false (fun φ => some (fput φ 181 (.tup []), H)) (fun φ => stp (some 181) φ H (justO (aUn .not (fget φ 180)))) := s_gd (j := 2) (oj := Z2q) rfl rfl rfl (fun _ => rfl) (fun _ => rfl)
theorem ZNQ : stepA E C B 216 Zk Zti (φ, H) = stp (some 182) φ H (opPick (fget φ 177) (.bool true) (fget φ 181)) := nf
theorem ZO6 : stepA E C B 216 Zk Z19 (φ, H) = some (fput φ 183 (fget φ 182), H) := nf
theorem ZNA : stepA E C B 216 Zk Zoq (φ, H) = gd φ 183 false (fun φ => some (fput φ 184 (.tup []), H)) (fun φ => some (fput φ 184 (fget φ 19), H)) := s_gd (j := 8) (oj := Z19) rfl rfl rfl (fun _ => rfl) (fun _ => rfl)
theorem ZKU : stepA E C B 216 Zk ZhT (φ, H) = gd φ 183 false (fun φ => some (fput φ 185 (.tup []), H)) (fun φ => some (fput φ 185 (fget φ 9), H)) := s_gd (j := 8) (oj := Z19) rfl rfl rfl (fun _ => rfl) (fun _ => rfl)
theorem ZKm : stepA E C B 216 Zk Zhw (φ, H) = gd φ 183 false (fun φ => some (fput φ 186 (.tup []), H)) (fun φ => stp (some 186) φ H (aCall C (fun j => B + j * 216 + 186) true 68 [(fget φ 184), (fget φ 185)])) := s_gd (j := 8) (oj := Z19) rfl rfl rfl (fun _ => rfl) (fun _ => rfl)
theorem ZM4 : stepA E C B 216 Zk ZeT (φ, H) = gd φ 183 false (fun φ => some (fput φ 187 (.tup []), H)) (fun φ => some (fput φ 187 (fget φ 11), H)) := s_gd (j := 8) (oj := Z19) rfl rfl rfl (fun _ => rfl) (fun _ => rfl)
theorem ZJU : stepA E C B 216 Zk Zhd (φ, H) = gd φ 183 false (fun φ => some (fput φ 188 (.tup []), H)) (fun φ => stp (some 188) φ H (just (aBin E.T .mul 3 (.int .i64 2) (fget φ 187)))) := s_gd (j := 8) (oj := Z19) rfl rfl rfl (fun _ => rfl) (fun _ => rfl)
theorem ZMX : stepA E C B 216 Zk Zg8 (φ, H) = gd φ 183 false (fun φ => some (fput φ 189 (.tup []), H)) (fun φ => stp (some 189) φ H (just (aBin E.T .sub 3 (fget φ 188) (.int .i64 2)))) := s_gd (j := 8) (oj := Z19) rfl rfl rfl (fun _ => rfl) (fun _ => rfl)
theorem ZHH : stepA E C B 216 Zk ZhM (φ, H) = gd φ 183 false (fun φ => some (fput φ 190 (.tup []), H)) (fun φ => stp (some 190) φ H (just (aBin E.T .neq 3 (fget φ 186) (fget φ 189)))) := s_gd (j := 8) (oj := Z19) rfl rfl rfl (fun _ => rfl) (fun _ => rfl)
theorem ZGB : stepA E C B 216 Zk Zh7 (φ, H) = stp (some 191) φ H (opPick (fget φ 183) (.bool true) (fget φ 190)) := nf
theorem ZN8 : stepA E C B 216 Zk Z27 (φ, H) = some (fput φ 192 (fget φ 191), H) := nf
theorem ZLg : stepA E C B 216 Zk ZgX (φ, H) = gd φ 192 false (fun φ => some (fput φ 193 (.tup []), H)) (fun φ => some (fput φ 193 (fget φ 19), H)) := s_gd (j := 17) (oj := Z27) rfl rfl rfl (fun _ => rfl) (fun _ => rfl)
theorem ZJR : stepA E C B 216 Zk ZgO (φ, H) = gd φ 192 false (fun φ => some (fput φ 194 (.tup []), H)) (fun φ => some (fput φ 194 (fget φ 9), H)) := s_gd (j := 17) (oj := Z27) rfl rfl rfl (fun _ => rfl) (fun _ => rfl)
theorem ZMx : stepA E C B 216 Zk Zgt (φ, H) = gd φ 192 false (fun φ => some (fput φ 195 (.tup []), H)) (fun φ => stp (some 195) φ H (aCall C (fun j => B + j * 216 + 195) true 62 [(fget φ 193), (fget φ 194)])) := s_gd (j := 17) (oj := Z27) rfl rfl rfl (fun _ => rfl) (fun _ => rfl)
theorem ZJ3 : stepA E C B 216 Zk Zht (φ, H) = gd φ 192 false (fun φ => some (fput φ 196 (.tup []), H)) (fun φ => stp (some 196) φ H (justO (aUn .not (fget φ 195)))) := s_gd (j := 17) (oj := Z27) rfl rfl rfl (fun _ => rfl) (fun _ => rfl)
theorem ZLB : stepA E C B 216 Zk ZfH (φ, H) = stp (some 197) φ H (opPick (fget φ 192) (.bool true) (fget φ 196)) := nf
def Z6G := kR Z9o
def Z6u := kT Z6G
def Zdi := kL Z6u
def Zcu := kO Zdi
def ZrP := opN Zcu 0
theorem Z09I : XG 11 216 Zdi Zcu [9, 11, 19, 197] := Z1 (by rfl) (by rfl) _
theorem ZQm : Zcu.toList = [ZrP] := nf
theorem ZNk : stepA E C B 216 Zcu ZrP (φ, H) = some (fput φ 4 (.bool false), H) := nf
def ZzH := kR Z6u
theorem Z05O : execA E C (fg 11) B 216 E0 N ZzH s = some (.ret, s) := Zq (by rfl) s
theorem Z06i : XQ 11 216 Z6u Zdi ZzH := Z0 (by rfl) _
def Zx4 := kE Z6G
theorem Z03o : execA E C (fg 11) B 216 E0 N Zx4 s = some (.normal, s) := Zh (by rfl) s
theorem Z06w : XC 11 216 Z6G 197 Z6u Zx4 := Zf (by rfl) _
theorem Z0g2 : XQ 11 216 Z9o ZqT Z6G := Z0 (by rfl) _
def Zd2 := kR ZcL
def Z4Q := kO Zd2
def Znt := opN Z4Q 0
def Zq1 := opN Z4Q 1
theorem ZZd : XG 11 216 Zd2 Z4Q [19, 197, 198] := Z1 (by rfl) (by rfl) _
theorem ZUt : Z4Q.toList = [Znt, Zq1] := nf
theorem ZP1 : stepA E C B 216 Z4Q Znt (φ, H) = some (fput φ 198 (fget φ 19), H) := nf
theorem ZNb : stepA E C B 216 Z4Q Zq1 (φ, H) = some (fput φ 10 (fget φ 198), H) := nf
theorem Z0gs : XQ 11 216 ZcL Z9o Zd2 := Z0 (by rfl) _
theorem Z0eh : XQ 11 216 Zbp Zly ZcL := Z0 (by rfl) _
theorem Z0ch : XQ 11 216 ZcE ZpM Zbp := Z0 (by rfl) _
theorem Z0dt : XQ 11 216 Zam Znj ZcE := Z0 (by rfl) _
theorem Z0fs : XQ 11 216 ZbR Zm6 Zam := Z0 (by rfl) _
theorem Z0iK : XQ 11 216 Zaz ZkH ZbR := Z0 (by rfl) _
theorem Z0fP : XQ 11 216 Z8X Zaf Zaz := Z0 (by rfl) _
theorem Z0gX : XQ 11 216 Z9X ZbT Z8X := Z0 (by rfl) _
theorem Z0iu : XQ 11 216 Z9c Zr6 Z9X := Z0 (by rfl) _
theorem Z0aO : execA E C (fg 11) B 216 E0 N ZlN s = blockX 1 (fun s => (forget s.1 [], s.2)) (execA E C (fg 11) B 216 E0 N Z9c s) := Ze (by rfl) (by rfl) s
def Zek := kR Z8Z
def Z49 := kO Zek
def ZuX := opN Z49 0
def Zvp := opN Z49 1
def ZDm := opN Z49 2
theorem Z092 : XG 11 216 Zek Z49 [47, 48] := Z1 (by rfl) (by rfl) _
theorem ZZK : Z49.toList = [ZuX, Zvp, ZDm] := nf
theorem Z006 : stepA E C B 216 Z49 ZuX (φ, H) = some (fput φ 47 (fget φ 11), H) := nf
theorem Z054 : stepA E C B 216 Z49 Zvp (φ, H) = stp (some 48) φ H (just (aBin E.T .sub 3 (fget φ 47) (.int .i64 1))) := nf
theorem Z01y : stepA E C B 216 Z49 ZDm (φ, H) = some (fput φ 11 (fget φ 48), H) := nf
theorem Z0gu : XQ 11 216 Z8Z ZlN Zek := Z0 (by rfl) _
theorem Z0g7 : XQ 11 216 Z3D Z9S Z8Z := Z0 (by rfl) _
theorem Z0ec : execA E C (fg 11) B 216 E0 N Zpu s = iterA (execA E C (fg 11) B 216 E0 N Z3D) (headA E0) N s := ZV (by rfl) s
theorem Z0dI : execA E C (fg 11) B 216 E0 N ZqP s = blockX 0 (fun s => (forget s.1 [11, 46], s.2)) (execA E C (fg 11) B 216 E0 N Zpu s) := Ze (by rfl) (by rfl) s
theorem Z0d9 : XQ 11 216 Zc9 Zsa ZqP := Z0 (by rfl) _
def Z7q := kR Z9M
def Zec := kL Z7q
def Z01 := kO Zec
def ZpW := opN Z01 0
def Zr7 := opN Z01 1
def Zm0 := opN Z01 2
def Zu8 := opN Z01 3
def ZsU := opN Z01 4
def Zt8 := opN Z01 5
def ZkC := opN Z01 6
def Zqv := opN Z01 7
def Zt2 := opN Z01 8
def Zqp := opN Z01 9
theorem Z02n : XG 11 216 Zec Z01 [21, 22, 199, 200, 201, 202, 203, 204, 205] := Z1 (by rfl) (by rfl) _
theorem ZOa : Z01.toList = [ZpW, Zr7, Zm0, Zu8, ZsU, Zt8, ZkC, Zqv, Zt2, Zqp] := nf
theorem ZTH : stepA E C B 216 Z01 ZpW (φ, H) = some (fput φ 200 (fget φ 10), H) := nf
theorem ZQK : stepA E C B 216 Z01 Zr7 (φ, H) = some (fput φ 201 (fget φ 9), H) := nf
theorem ZPh : stepA E C B 216 Z01 Zm0 (φ, H) = stp (some 202) φ H (aCall C (fun j => B + j * 216 + 202) true 33 [(fget φ 200), (fget φ 201)]) := nf
theorem ZQj : stepA E C B 216 Z01 Zu8 (φ, H) = some (fput φ 199 (fget φ 202), H) := nf
theorem ZPk : stepA E C B 216 Z01 ZsU (φ, H) = stp (some 203) φ H (Zs (fget φ 199) 0) := nf
theorem ZRD : stepA E C B 216 Z01 Zt8 (φ, H) = stp (some 204) φ H (Zs (fget φ 199) 1) := nf
theorem ZNK : stepA E C B 216 Z01 ZkC (φ, H) = stp (some 205) φ H (Zs (fget φ 199) 2) := nf
theorem ZSg : stepA E C B 216 Z01 Zqv (φ, H) = some (fput φ 21 (fget φ 203), H) := nf
theorem ZOU : stepA E C B 216 Z01 Zt2 (φ, H) = some (fput φ 22 (fget φ 204), H) := nf
theorem ZNU : stepA E C B 216 Z01 Zqp (φ, H) = some (fput φ 23 (fget φ 205), H) := nf
def Z6U := kR Z7q
def Zdq := kL Z6U
def ZW := kO Zdq
def Zrh := opN ZW 0
def ZnU := opN ZW 1
def ZlM := opN ZW 2
def Z5h := opN ZW 3
def Znb := opN ZW 4
def ZmW := opN ZW 5
def Zss := opN ZW 6
def Z8z := opN ZW 7
def Zoc := opN ZW 8
def Zoi := opN ZW 9
def Zgw := opN ZW 10
theorem ZX2 : XG 11 216 Zdq ZW [9, 10, 23, 206, 207, 208, 209, 210, 211, 212, 213, 214, 215] := Z1 (by rfl) (by rfl) _
theorem ZWj : ZW.toList = [Zrh, ZnU, ZlM, Z5h, Znb, ZmW, Zss, Z8z, Zoc, Zoi, Zgw] := nf
theorem ZRG : stepA E C B 216 ZW Zrh (φ, H) = some (fput φ 206 (fget φ 10), H) := nf
theorem ZUG : stepA E C B 216 ZW ZnU (φ, H) = some (fput φ 207 (fget φ 9), H) := nf
theorem ZTv : stepA E C B 216 ZW ZlM (φ, H) = stp (some 208) φ H (aCall C (fun j => B + j * 216 + 208) true 24 [(fget φ 206), (fget φ 207)]) := nf
theorem ZNa : stepA E C B 216 ZW Z5h (φ, H) = some (fput φ 209 (fget φ 208), H) := nf
theorem ZVp : stepA E C B 216 ZW Znb (φ, H) = gd φ 209 true (fun φ => some (fput φ 210 (.tup []), H)) (fun φ => some (fput φ 210 (fget φ 23), H)) := s_gd (j := 3) (oj := Z5h) rfl rfl rfl (fun _ => rfl) (fun _ => rfl)
theorem ZVu : stepA E C B 216 ZW ZmW (φ, H) = gd φ 209 true (fun φ => some (fput φ 211 (.tup []), H)) (fun φ => stp (some 211) φ H (just (aBin E.T .eql 24 (fget φ 210) (.int .i64 13)))) := s_gd (j := 3) (oj := Z5h) rfl rfl rfl (fun _ => rfl) (fun _ => rfl)
theorem ZR9 : stepA E C B 216 ZW Zss (φ, H) = stp (some 212) φ H (opPick (fget φ 209) (fget φ 211) (.bool false)) := nf
theorem ZNS : stepA E C B 216 ZW Z8z (φ, H) = some (fput φ 213 (fget φ 212), H) := nf
theorem ZVR : stepA E C B 216 ZW Zoc (φ, H) = gd φ 213 true (fun φ => some (fput φ 214 (.tup []), H)) (fun φ => stp (some 214) φ H (aCall C (fun j => B + j * 216 + 214) true 17 [])) := s_gd (j := 7) (oj := Z8z) rfl rfl rfl (fun _ => rfl) (fun _ => rfl)
theorem ZTl : stepA E C B 216 ZW Zoi (φ, H) = stp (some 215) φ H (opPick (fget φ 213) (fget φ 214) (.bool false)) := nf
theorem ZII : stepA E C B 216 ZW Zgw (φ, H) = some (fput φ 4 (fget φ 215), H) := nf
def ZyL := kR Z6U
theorem Z09Z : execA E C (fg 11) B 216 E0 N ZyL s = some (.ret, s) := Zq (by rfl) s
theorem Z08w : XQ 11 216 Z6U Zdq ZyL := Z0 (by rfl) _
theorem Z02T : XQ 11 216 Z7q Zec Z6U := Z0 (by rfl) _
theorem Z0b1 : XQ 11 216 Z9M Zc9 Z7q := Z0 (by rfl) _
theorem Z0bw : XQ 11 216 ZcM Zlb Z9M := Z0 (by rfl) _
theorem Z0kk : XQ 11 216 Ziy ZES ZcM := Z0 (by rfl) _
theorem Z0kY : XQ 11 216 Zjv ZFd Ziy := Z0 (by rfl) _
theorem Z0jh : XQ 11 216 ZiX ZE7 Zjv := Z0 (by rfl) _
theorem Z0ms : XQ 11 216 ZjW ZFr ZiX := Z0 (by rfl) _
theorem Z0mq : XQ 11 216 Z9j ZDG ZjW := Z0 (by rfl) _
theorem Z0l8 : fInfo E 11 = some ⟨216, #[.tmp 4], Z9j⟩ := nf
theorem b_11 (args : List AV) : bodyA E C fg N 11 args H B = bodyX E [.tmp 4] (execA E C (fg 11) B 216 H N Z9j (Z8 args 0 [], H)) := Zt Z0l8 args H
abbrev F_11 := And.intro (And.intro (And.intro (And.intro (And.intro (And.intro (And.intro (And.intro @Z0j8 @Z05c) (And.intro @Z09N (And.intro @Z07p @Z0mj))) (And.intro (And.intro @Z0ai (And.intro @Z03a @Z08H)) (And.intro @Z07C (And.intro @Z0ns @Z07M)))) (And.intro (And.intro (And.intro @Z020 (And.intro @Z05z @Z0aj)) (And.intro @ZZR (And.intro @Z07Q @ZZH))) (And.intro (And.intro @ZYu (And.intro @Z0kj @Z04R)) (And.intro @Z06N (And.intro @Z00r @Z06m))))) (And.intro (And.intro (And.intro (And.intro @ZZa (And.intro @Z01u @Z01K)) (And.intro @Z0md (And.intro @Z03H @Z08P))) (And.intro (And.intro @Z07e (And.intro @Z00J @Z07o)) (And.intro @Z05I (And.intro @Z0da @ZXn)))) (And.intro (And.intro (And.intro @Z08x (And.intro @ZYY @Z0hU)) (And.intro @Z00Z (And.intro @Z00m @Z03q))) (And.intro (And.intro @Z00M (And.intro @Z08j @ZYg)) (And.intro @Z0dL (And.intro @Z019 @Z03D)))))) (And.intro (And.intro (And.intro (And.intro (And.intro @Z031 (And.intro @Z0b9 @Z0bv)) (And.intro @Z0dj (And.intro @Z0f5 @Z0hI))) (And.intro (And.intro @Z04b (And.intro @Z04X @Z04C)) (And.intro @Z03m (And.intro @ZYv @ZYQ)))) (And.intro (And.intro (And.intro @Z00Y (And.intro @Z07N @Z03P)) (And.intro @Z0a6 (And.intro @Z01J @Z0f3))) (And.intro (And.intro @ZTT (And.intro @ZGQ @ZJE)) (And.intro @ZPU (And.intro @ZUm @ZQV))))) (And.intro (And.intro (And.intro (And.intro @ZQb (And.intro @ZTO @ZSZ)) (And.intro @ZSa (And.intro @ZUY @ZSU))) (And.intro (And.intro @ZRU (And.intro @ZGN @ZMS)) (And.intro @ZJB (And.intro @ZFZ @ZIQ)))) (And.intro (And.intro (And.intro @ZJo (And.intro @ZMQ @ZJt)) (And.intro @ZGp (And.intro @ZIh @ZM9))) (And.intro (And.intro @ZFS (And.intro @ZLs @ZKv)) (And.intro @ZJ5 (And.intro @ZLl @ZJH))))))) (And.intro (And.intro (And.intro (And.intro (And.intro (And.intro @ZFV @ZN5) (And.intro @Z0dB (And.intro @ZSn @ZS8))) (And.intro (And.intro @Z0aV (And.intro @Z0ht @Z0f6)) (And.intro @Z0bo (And.intro @Z0fL @Z0eN)))) (And.intro (And.intro (And.intro @ZPd (And.intro @ZUv @ZRC)) (And.intro @ZRm (And.intro @Z0iv @ZVk))) (And.intro (And.intro @ZR1 (And.intro @Z0e4 @Z0ax)) (And.intro @Z0i5 (And.intro @Z0i9 @ZQI))))) (And.intro (And.intro (And.intro (And.intro @ZT7 (And.intro @ZOL @Z0dq)) (And.intro @ZTY (And.intro @ZTI @ZR2))) (And.intro (And.intro @ZOX (And.intro @Z0b8 @ZQZ)) (And.intro @ZOm (And.intro @ZSr @ZQL)))) (And.intro (And.intro (And.intro @ZUy (And.intro @Z0cO @Z0e9)) (And.intro @Z0e8 (And.intro @Z0hW @Z0fq))) (And.intro (And.intro @ZOo (And.intro @ZGd @ZGb)) (And.intro @ZNh (And.intro @ZRM @ZSD)))))) (And.intro (And.intro (And.intro (And.intro (And.intro @ZNR (And.intro @ZP6 @ZWh)) (And.intro @ZUR (And.intro @ZOq @ZTP))) (And.intro (And.intro @ZSi (And.intro @ZKP @ZIs)) (And.intro @ZL0 (And.intro @ZLH @ZG5)))) (And.intro (And.intro (And.intro @ZLX (And.intro @ZI1 @ZMu)) (And.intro @ZIW (And.intro @ZK7 @ZHE))) (And.intro (And.intro @ZMM (And.intro @ZMI @ZLv)) (And.intro @ZFT (And.intro @Z0hH @Z0i3))))) (And.intro (And.intro (And.intro (And.intro @Z0i8 (And.intro @Z0fN @Z0aH)) (And.intro @ZUk (And.intro @ZTk @ZVy))) (And.intro (And.intro @ZV1 (And.intro @Z0fB @ZPE)) (And.intro @ZNP (And.intro @ZUW @ZR0)))) (And.intro (And.intro (And.intro @ZUC (And.intro @ZQN @ZUl)) (And.intro @ZUV (And.intro @Z0bz @ZTZ))) (And.intro (And.intro @ZR4 (And.intro @ZV4 @ZNI)) (And.intro @ZPY (And.intro @ZRV @ZS3)))))))) (And.intro (And.intro (And.intro (And.intro (And.intro (And.intro (And.intro @ZRL @Z0bZ) (And.intro @ZVt (And.intro @ZSO @ZRX))) (And.intro (And.intro @Z0eU (And.intro @ZOi @ZRQ)) (And.intro @ZQ3 (And.intro @ZPf @ZT0)))) (And.intro (And.intro (And.intro @Z0cs (And.intro @ZS5 @ZQk)) (And.intro @ZVl (And.intro @ZVS @ZW7))) (And.intro (And.intro @ZVB (And.intro @ZRS @ZVV)) (And.intro @ZVU (And.intro @ZS9 @Z0cM))))) (And.intro (And.intro (And.intro (And.intro @ZSP (And.intro @ZV0 @Z0cI)) (And.intro @Z0bX (And.intro @Z0ig @Z0gL))) (And.intro (And.intro @Z0eK (And.intro @Z0d0 @Z0bP)) (And.intro @Z0fx (And.intro @Z0fn @Z0gH)))) (And.intro (And.intro (And.intro @Z0dE (And.intro @Z0iE @Z0fO)) (And.intro @ZQs (And.intro @ZQc @ZTQ))) (And.intro (And.intro @ZV8 (And.intro @Z0fe @Z0fK)) (And.intro @Z0iL (And.intro @Z0cL @Z0au)))))) (And.intro (And.intro (And.intro (And.intro (And.intro @Z0de (And.intro @Z0gT @Z0bQ)) (And.intro @ZPw (And.intro @ZSf @ZV9))) (And.intro (And.intro @Z0aJ (And.intro @Z0fS @Z0cF)) (And.intro @Z0i2 (And.intro @Z0b5 @Z0il)))) (And.intro (And.intro (And.intro @Z0cf (And.intro @ZSJ @ZSe)) (And.intro @ZOC (And.intro @ZN9 @ZVg))) (And.intro (And.intro @ZPP (And.intro @ZOP @ZPF)) (And.intro @ZVW (And.intro @ZO4 @Z0dW))))) (And.intro (And.intro (And.intro (And.intro @ZW5 (And.intro @ZTh @ZR3)) (And.intro @ZRn (And.intro @Z0is @ZUu))) (And.intro (And.intro @ZRl (And.intro @ZO5 @ZSk)) (And.intro @ZV7 (And.intro @ZUE @ZOt)))) (And.intro (And.intro (And.intro @ZVJ (And.intro @Z0id @ZPN)) (And.intro @ZUQ (And.intro @ZQO @ZSV))) (And.intro (And.intro @ZTR (And.intro @ZNT @ZTy)) (And.intro @ZVq (And.intro @Z0hM @ZQ6))))))) (And.intro (And.intro (And.intro (And.intro (And.intro (And.intro @ZUh @ZOu) (And.intro @Z0bR (And.intro @ZQ2 @ZPn))) (And.intro (And.intro @ZT4 (And.intro @ZUD @ZOR)) (And.intro @ZUq (And.intro @ZRt @ZT3)))) (And.intro (And.intro (And.intro @ZNQ (And.intro @ZO6 @ZNA)) (And.intro @ZKU (And.intro @ZKm @ZM4))) (And.intro (And.intro @ZJU (And.intro @ZMX @ZHH)) (And.intro @ZGB (And.intro @ZN8 @ZLg))))) (And.intro (And.intro (And.intro (And.intro @ZJR (And.intro @ZMx @ZJ3)) (And.intro @ZLB (And.intro @Z09I @ZQm))) (And.intro (And.intro @ZNk (And.intro @Z05O @Z06i)) (And.intro @Z03o (And.intro @Z06w @Z0g2)))) (And.intro (And.intro (And.intro @ZZd (And.intro @ZUt @ZP1)) (And.intro @ZNb (And.intro @Z0gs @Z0eh))) (And.intro (And.intro @Z0ch (And.intro @Z0dt @Z0fs)) (And.intro @Z0iK (And.intro @Z0fP @Z0gX)))))) (And.intro (And.intro (And.intro (And.intro (And.intro @Z0iu (And.intro @Z0aO @Z092)) (And.intro @ZZK (And.intro @Z006 @Z054))) (And.intro (And.intro @Z01y (And.intro @Z0gu @Z0g7)) (And.intro @Z0ec (And.intro @Z0dI @Z0d9)))) (And.intro (And.intro (And.intro @Z02n (And.intro @ZOa @ZTH)) (And.intro @ZQK (And.intro @ZPh @ZQj))) (And.intro (And.intro @ZPk (And.intro @ZRD @ZNK)) (And.intro @ZSg (And.intro @ZOU @ZNU))))) (And.intro (And.intro (And.intro (And.intro @ZX2 (And.intro @ZWj @ZRG)) (And.intro @ZUG (And.intro @ZTv @ZNa))) (And.intro (And.intro @ZVp (And.intro @ZVu @ZR9)) (And.intro @ZNS (And.intro @ZVR @ZTl)))) (And.intro (And.intro (And.intro @ZII (And.intro @Z09Z @Z08w)) (And.intro @Z02T (And.intro @Z0b1 @Z0bw))) (And.intro (And.intro @Z0kk (And.intro @Z0kY @Z0jh)) (And.intro @Z0ms (And.intro @Z0mq @b_11))))))))
end Go.AM.Ytfmnoohhhokicaa
end
noncomputable section
namespace Go.AM.Ytfmnoohhhokicaa
open Go Go.AM Go.AM.Rub
theorem Z0el {n : Nat} {l : List Int} (h : Rw n l) (h0 : 0 < n) (h6 : n ≤ 6) : chkR l = 0 := by
 rw [Z0K, h.len]; exact ⟨h0, h6, h⟩
end Go.AM.Ytfmnoohhhokicaa
end
noncomputable section
namespace Go.AM.Ytfmnoohhhokicaa
open Go Go.AM Go.AM.Rub
theorem Z8q {e : Nat → Int} : ∀ (m k : Nat), fe e k m ≠ 0 → ∃ i, k ≤ i ∧ i < k + m ∧ fe e k m = e i ∧ e i ≠ 0 ∧ ∀ j, k ≤ j → j < i → e j = 0
 | 0, k, h => absurd rfl h
 | m + 1, k, h => by
   simp only [fe] at h ⊢
   by_cases hz : e k = 0
   · rw [if_pos hz] at h ⊢
     obtain ⟨i, h1, h2, h3, h4, h5⟩ := Z8q m (k + 1) h
     exact ⟨i, by omega, by omega, h3, h4, fun j hj1 hj2 => if hk : j = k then by rw [hk]; exact hz else h5 j (by omega) hj2⟩
   · rw [if_neg hz]
     exact ⟨k, Nat.le_refl _, by omega, rfl, hz, fun j h1 h2 => by omega⟩
end Go.AM.Ytfmnoohhhokicaa
end
noncomputable section
namespace Go.AM
theorem ZNJ {k : Nat} {seen : List Nat} {r : Nat → AV} {b c : Blk} {H : AHeap} (h : hget H k = some c) (h2 : hget H (k + 1048576) = none) : (Z63 k seen r b).run H = ((frz seen).bind fun us => .pure (r (k + 1048576), us ++ [(k + 1048576, b)])).run H := by
 simp only [Z63, Z0m, freeOff, List.map_cons, List.map_nil, allFree, Rd.bind, Nat.add_zero, Nat.zero_add, Rd.run, h, h2, freeAll]
end Go.AM
namespace Go.AM.Ytfmnoohhhokicaa
open Go Go.AM Go.AM.Rub
theorem loopP {E0 : AHeap} {f : St → XR} {s0 : St} (P : Nat → St → Prop) (Q : St → Prop) (n : Nat) (h0 : P 0 (headA E0 s0)) (h : ∀ i, i < n → ∀ s, P i s → ∃ s', f s = some (.normal, s') ∧ P (i + 1) (headA E0 s')) (hn : n < 1000000) {e : Ex} (he : ∀ s, P n s → ∃ se, f s = some (e, se) ∧ Q se) (hne : e ≠ .normal) :
   ∃ se, iterA f (headA E0) 1000000 s0 = some (e, se) ∧ Q se := by
 have key : ∀ (m k F : Nat) (s0 : St), k + m = n → P k (headA E0 s0) → m < F → ∃ se, iterA f (headA E0) F s0 = some (e, se) ∧ Q se := by
   intro m
   induction m with
   | zero =>
     intro k F s0 hk hp hF
     obtain ⟨F, rfl⟩ : ∃ G, F = G + 1 := ⟨F - 1, by omega⟩
     rw [Nat.add_zero] at hk
     subst hk
     obtain ⟨se, h1, h2⟩ := he _ hp
     refine ⟨se, ?_, h2⟩
     rw [ZP, h1]
     cases e with
     | normal => exact absurd rfl hne
     | ret => rfl
     | exit i => rfl
   | succ m ih =>
     intro k F s0 hk hp hF
     obtain ⟨F, rfl⟩ : ∃ G, F = G + 1 := ⟨F - 1, by omega⟩
     obtain ⟨s', h1, h2⟩ := h k (by omega) _ hp
     obtain ⟨se, h3, h4⟩ := ih (k + 1) F s' (by omega) h2 (by omega)
     refine ⟨se, ?_, h4⟩
     rw [ZP, h1, Z4B]
     exact h3
 exact key n 0 1000000 s0 (by omega) h0 (by omega)
theorem Zd3 {e : Nat → Int} {m k i : Nat} (h : fe e k m = 0) (h1 : k ≤ i) (h2 : i < k + m) : e i = 0 := (Z3u m k).1 h i h1 h2
theorem Z61 {a b : List Int} {i m : Nat} : fiI a b i m ≠ 0 ↔ goF a b i (i + 1 + m) := by
 unfold fiI
 split
 · rename_i h; exact ⟨fun _ => h, fun _ => by omega⟩
 · rename_i h; exact ⟨fun e => absurd rfl e, fun e => absurd e h⟩
theorem Zpc {a b : List Int} {n : Nat} (_ : n ≤ 8) (h : fiV a b n ≠ 0) : ∃ i j : Nat, i < j ∧ j < n ∧ fiV a b n = 8 * (i : Int) + j + 1 ∧ goF a b i j ∧ ∀ x y, x < y → y < n → (x < i ∨ x = i ∧ y < j) → ¬ goF a b x y := by
 obtain ⟨i, _, i2, i3, i4, i5⟩ := Z8q n 0 h
 obtain ⟨m, _, m2, m3, m4, m5⟩ := Z8q _ _ i4
 refine ⟨i, i + 1 + m, by omega, by omega, ?_, Z61.1 m4, fun x y hxy hy hb hg => ?_⟩
 · have e1 : fiV a b n = fiO a b n i := i3
   have e2 : fiO a b n i = fiI a b i m := m3
   have e3 : fiI a b i m = 8 * i + (i + 1 + m : Nat) + 1 := by unfold fiI; rw [if_pos (Z61.1 m4)]
   rw [e1, e2, e3]
 · obtain ⟨k, rfl⟩ : ∃ k, y = x + 1 + k := ⟨y - x - 1, by omega⟩
   rcases hb with hb | ⟨rfl, hb⟩
   · have z : fiO a b n x = 0 := i5 x (by omega) hb
     exact Z61.2 hg (Zd3 z (i := k) (by omega) (by omega))
   · exact Z61.2 hg (m5 k (by omega) (by omega))
theorem Z08U {a b : List Int} {n : Nat} (h : fiV a b n = 0) : ∀ x y, x < y → y < n → ¬ goF a b x y := fun x y hxy hy hg => by
 obtain ⟨k, rfl⟩ : ∃ k, y = x + 1 + k := ⟨y - x - 1, by omega⟩
 have z : fiO a b n x = 0 := Zd3 h (i := x) (by omega) (by omega)
 exact Z61.2 hg (Zd3 z (i := k) (by omega) (by omega))
theorem Zea {n : Nat} {a b : List Int} (ha : Rw n a) (hb : Rw n b) (h0 : 0 < n) (h6 : n ≤ 6) (he : ps (rowF a) n = ps (rowF b) n) : joE a b = 0 ↔ MajL a b := by
 rw [ZlV, Z0dA ha hb he]
 exact ⟨fun h => h.2, fun h => ⟨Z5q.2 ⟨n, h0, h6, ha, hb, he⟩, h⟩⟩
structure Fd (n : Nat) (now b : List Int) : Prop where
 ra : Rw n now
 rb : Rw n b
 mj : MajL now b
theorem Fd.sum {n : Nat} {now b : List Int} (h : Fd n now b) : ps (rowF now) n = ps (rowF b) n := by
 have := h.mj.eq
 rwa [h.ra.len] at this
theorem Z4G {n : Nat} {now : List Int} (ra : Rw n now) {x y : Nat} (r : Rb n now x y) : Rw n (rubL now x y) ∧ ps (rowF (rubL now x y)) n = ps (rowF now) n := by
 obtain ⟨rr, x', y', r', e⟩ := Z0N ra r
 refine ⟨rr, ?_⟩
 have := (Z6f ra r').eq
 rw [ra.len] at this
 rw [e]; exact this.symm
theorem Fd.go {n : Nat} {now b : List Int} (h : Fd n now b) (h0 : 0 < n) (h6 : n ≤ 6) {x y : Nat} (hxy : x < y) (hy : y < n) : goF now b x y ↔ rowF now x - rowF now y ≥ 2 ∧ MajL (rubL now x y) b ∧ apL (rubL now x y) b < apL now b := by
 unfold goF
 refine and_congr_right fun hd => ?_
 have r : Rb n now x y := Z3m h.ra (by omega) hy hd
 obtain ⟨rr, es⟩ := Z4G h.ra r
 rw [Zea rr h.rb h0 h6 (by rw [es, h.sum])]
theorem Fd.near {n : Nat} {now b : List Int} (h : Fd n now b) {x y : Nat} (r : Rb n now x y) (hlt : apL (rubL now x y) b < apL now b) : apL (rubL now x y) b + 1 = apL now b := by
 obtain ⟨rr, x', y', r', e⟩ := Z0N h.ra r
 have hl := h.ra.len
 have c1 := Z0k now b
 have c2 := Z0k (rubL now x y) b
 rw [rr.len] at c2
 rw [hl] at c1
 have hm := (Z5o (a := rowF now) (b := rowF b) r'.lt n).1
 have hc : ap (rowF (rubL now x y)) (rowF b) n = ap (mvF (rowF now) x' y') (rowF b) n := Z5g (fun k _ => by rw [e]; exact Z0M r'.lt (by rw [hl]; exact r'.lj) k) (fun _ _ => rfl)
 rw [hc] at c2
 omega
theorem Fd.some {n : Nat} {now b : List Int} (h : Fd n now b) (h0 : 0 < n) (h6 : n ≤ 6) (hne : now ≠ b) : fiV now b n ≠ 0 := by
 intro hz
 obtain ⟨i, j, r, r1, r2, r3, r4⟩ := Z5C h.ra h.rb h.mj hne
 refine Z08U hz i j r.lt r.lj ((h.go h0 h6 r.lt r.lj).2 ⟨r.df, ?_, ?_⟩)
 · rw [r4]; exact r2
 · rw [r4]; omega
end Go.AM.Ytfmnoohhhokicaa
end
noncomputable section
namespace Go.AM.Ytfmnoohhhokicaa
open Go Go.AM Go.AM.Rub
def PlF (p : Nat) (st : BS) : Prop := (p = 25 ∨ p = 156 ∨ p = 1048732) ∧ (st = .row ∨ st = .froz)
structure FoC (C : Callee) (now b : List Int) (n : Nat) : Prop where
 cl : ∀ (site : Nat → Nat) seen x, aBack site true seen (thaw C 66 [.imm (ics now) n x] [] 0) = Z0m (site 0) seen (fun k => .ref k 0 n n n 1 false) ⟨.row, ics now⟩
 so : ∀ (H : AHeap) B k l, l.length = n → BdI l → hget H k = some ⟨.row, ics l⟩ → C 67 [.ref k 0 n n n 1 false] H B = some (.tup [], hset H k ⟨.row, ics (srtI l)⟩)
 ap : ∀ (site : Nat → Nat) seen c x y, Rw n c → aBack site true seen (thaw C 68 [.imm (ics c) n x, .imm (ics b) n y] [] 0) = .pure (.int .i64 (abF (rowF c) (rowF b) n), [])
 ov : ∀ (site : Nat → Nat) seen c x y, Rw n c → aBack site true seen (thaw C 62 [.imm (ics c) n x, .imm (ics b) n y] [] 0) = .pure (.bool (decide (fe (mjE c b) 0 n = 0)), [])
abbrev foI (now b : List Int) (n p : Nat) (st : BS) (left i j x y : Nat) : St := ([(87, .int .i64 x), (86, .int .i64 n), (16, .int .i64 y), (15, .int .i64 x), (13, .int .i64 j), (12, .int .i64 i), (11, .int .i64 left), (10, .ref p 0 n n n 1 false), (9, .imm (ics b) n false)], [(p, ⟨st, ics now⟩)])
abbrev foO (now b : List Int) (n p : Nat) (st : BS) (left i j x : Nat) : St := ([(87, .int .i64 x), (86, .int .i64 n), (13, .int .i64 j), (12, .int .i64 i), (11, .int .i64 left), (10, .ref p 0 n n n 1 false), (9, .imm (ics b) n false)], [(p, ⟨st, ics now⟩)])
theorem Z0jw {C : Callee} {now b : List Int} {n : Nat} (hC : FoC C now b n) (hF : Fd n now b) (h0 : 0 < n) (h6 : n ≤ 6) {p left i j : Nat} {st : BS} (hp : PlF p st) (hl : apL now b = left) (hl9 : left ≤ 1000) (hi : i < n) (hno : ∀ x y, x < y → y < n → (x < i ∨ x = i ∧ y < j) → ¬ goF now b x y) (x y : Nat) (hxy : x < y) (hy : y < n) :
   ∃ st', PlF p st' ∧ ∃ s', (execA E C (fg 11) 0 216 [] 1000000 Z59) (foI now b n p st left i j x y) = some (.normal, s') ∧ headA [] s' = foI now b n p st' left i j x (y + 1) := by
 obtain ⟨hp, hst⟩ := hp
 have la : (ics now).length = n := by rw [Z6, hF.ra.len]
 have lb : (ics b).length = n := by rw [Z6, hF.rb.len]
 have ta : List.take n (ics now) = ics now := List.take_of_length_le (by omega)
 have a1 := Zu (l := now) (k := x) (by rw [hF.ra.len]; omega)
 have a2 := Zu (l := now) (k := y) (by rw [hF.ra.len]; omega)
 have b1 := rw_b hF.ra (k := x) (by omega)
 have b2 := rw_b hF.ra (k := y) (by omega)
 have gx : (x : Int) < n := by omega
 have gy : (y : Int) < n := by omega
 have w : wrp .i64 (rowF now x - rowF now y) = rowF now x - rowF now y := Zv (by omega)
 by_cases c1 : x > i
 · have g1 : (x : Int) > i := by omega
   clear hno
   refine ⟨st, ⟨hp, hst⟩, ?_⟩
   rcases hp with rfl | rfl | rfl <;> rcases hst with rfl | rfl <;>
     simp (disch := omega) only [ZF, stp, opPick, just, Rd.bind, Rd.run, Rd.opt, upds, aLen, Z4, aBin, aInt, Nat.reduceAdd, Nat.reduceBEq, Nat.reduceEqDiff, Nat.reduceLeDiff, ↓reduceIte, reduceCtorEq, stpT, ↓gdT, Rd.foot, writing, Z9, Tr.empty, Za, ZT, F_11, la, gy, g1, Zl (show y < 1000000 by omega)] <;> exact ⟨_, rfl, rfl⟩
 · have g1 : ¬ (x : Int) > i := by omega
   by_cases c2 : x = i ∧ y ≥ j
   · obtain ⟨e, c3⟩ := c2
     subst e
     have g2 : (y : Int) ≥ j := by omega
     have g1 : ¬ (x : Int) > x := by omega
     clear hno
     refine ⟨st, ⟨hp, hst⟩, ?_⟩
     rcases hp with rfl | rfl | rfl <;> rcases hst with rfl | rfl <;>
       simp (disch := omega) only [ZF, stp, opPick, just, Rd.bind, Rd.run, Rd.opt, upds, aLen, Z4, aBin, aInt, Nat.reduceAdd, Nat.reduceBEq, Nat.reduceEqDiff, Nat.reduceLeDiff, ↓reduceIte, reduceCtorEq, stpT, ↓gdT, Rd.foot, writing, Z9, Tr.empty, Za, ZT, F_11, la, gy, g1, g2, Zl (show y < 1000000 by omega)] <;> exact ⟨_, rfl, rfl⟩
   · have hbef : x < i ∨ x = i ∧ y < j := by omega
     by_cases hd : rowF now x - rowF now y < 2
     · clear hno
       refine ⟨st, ⟨hp, hst⟩, ?_⟩
       by_cases hxi : x = i
       · subst hxi
         have g3 : ¬ (y : Int) ≥ j := by omega
         have g1 : ¬ (x : Int) > x := by omega
         rcases hp with rfl | rfl | rfl <;> rcases hst with rfl | rfl <;>
           simp (disch := omega) only [ZF, stp, opPick, just, Rd.bind, Rd.run, Rd.opt, upds, tsz, rdCells, aLoad, Z2, aNum, aLen, Z4, aBin, aInt, Nat.reduceAdd, Nat.reduceLT, Nat.reduceBEq, Nat.reduceEqDiff, Nat.reduceLeDiff, ↓reduceIte, stpT, ↓gdT, Rd.foot, writing, Z9, Tr.empty, Za, apartT, disj, ZT, F_11, la, a1, a2, gx, gy, g1, g3, w, hd, Zl (show y < 1000000 by omega)] <;> exact ⟨_, rfl, rfl⟩
       · have g3 : ¬ (x : Int) = i := by omega
         have g3' : ((x : Int) == i) = false := by rw [beq_eq_false_iff_ne]; exact g3
         rcases hp with rfl | rfl | rfl <;> rcases hst with rfl | rfl <;>
           simp (disch := omega) only [ZF, stp, opPick, just, Rd.bind, Rd.run, Rd.opt, upds, tsz, rdCells, aLoad, Z2, aNum, aLen, Z4, aBin, aInt, Nat.reduceAdd, Nat.reduceLT, Nat.reduceBEq, Nat.reduceEqDiff, Nat.reduceLeDiff, ↓reduceIte, stpT, ↓gdT, Rd.foot, writing, Z9, Tr.empty, Za, apartT, disj, ZT, F_11, la, a1, a2, gx, gy, g1, g3', w, hd, Zl (show y < 1000000 by omega)] <;> exact ⟨_, rfl, rfl⟩
     · have r : Rb n now x y := Z3m hF.ra (by omega) hy (by omega)
       have hngo := hno x y hxy hy hbef
       rw [hF.go h0 h6 hxy hy] at hngo
       have rr := (Z0N hF.ra r).1
       have hmj := ZLi rr hF.rb (by rw [(Z4G hF.ra r).2, hF.sum])
       have h2 := ZwJ (b := b) rr (by rw [(Z4G hF.ra r).2, hF.sum])
       have hap := fun (site : Nat → Nat) seen x' y' => hC.ap site seen (rubL now x y) x' y' rr
       have hov := fun (site : Nat → Nat) seen x' y' => hC.ov site seen (rubL now x y) x' y' rr
       rw [h2] at hap
       have hbb := Zp8 rr hF.rb
       have hcl := hC.cl
       have hln := hF.ra.len
       have e1 := Z15 now x (rowF now x - 1)
       have l1 : (ics (now.set x (rowF now x - 1))).length = n := by rw [Z6, List.length_set, hln]
       have a3 : (ics (now.set x (rowF now x - 1)))[y]? = some (.int .i64 (rowF now y)) := by
         refine Z1T ?_
         rw [List.getElem?_set_ne (by omega)]
         exact Z2y (by omega)
       have e2 := Z15 (now.set x (rowF now x - 1)) y (rowF now y + 1)
       have e3 : (now.set x (rowF now x - 1)).set y (rowF now y + 1) = mvL now x y := rfl
       rw [e3] at e2
       have l2 : (ics (mvL now x y)).length = n := by rw [Z6, Zw, hln]
       have hso := fun (H : AHeap) B k => hC.so H B k (mvL now x y) (by rw [Zw, hln]) (fun k hk => by
         rw [Zw, hln] at hk
         rw [Z0M r.lt (by omega)]
         have := rw_b hF.ra hk
         unfold mvF
         split
         · omega
         · split <;> omega)
       rw [ZdY hF.ra r] at hso
       have l3 : (ics (rubL now x y)).length = n := by rw [Z6, rr.len]
       have t3 : List.take n (ics (rubL now x y)) = ics (rubL now x y) := List.take_of_length_le (by omega)
       have w1 : wrp .i64 (rowF now x - 1) = rowF now x - 1 := Zv (by omega)
       have w2 : wrp .i64 (rowF now y + 1) = rowF now y + 1 := Zv (by omega)
       have w3 : wrp .i64 (2 * (left : Int)) = 2 * (left : Int) := Zv (by omega)
       have hE : ∃ o : Bool, decide (fe (mjE (rubL now x y) b) 0 n = 0) = o ∧ (o = true → ¬ 2 * (apL (rubL now x y) b : Int) < 2 * (left : Int)) := by
         refine ⟨_, rfl, fun h hlt => hngo ⟨by omega, hmj.1 (of_decide_eq_true h), by omega⟩⟩
       obtain ⟨o, ho, ho2⟩ := hE
       rw [ho] at hov
       refine ⟨.froz, ⟨hp, .inr rfl⟩, ?_⟩
       clear hngo hmj ho h2 hno hl
       generalize rubL now x y = R at *
       generalize apL R b = q at *
       generalize ics R = RI at *
       generalize ics (mvL now x y) = M2 at *
       generalize ics (now.set x (rowF now x - 1)) = M1 at *
       have key : ∀ (q2 : Nat) (s2 : BS), (q2 = 25 ∨ q2 = 156 ∨ q2 = 1048732) → C 67 [.ref 124 0 n n n 1 false] (hset [(q2, ⟨.froz, ics now⟩)] 124 ⟨.row, M2⟩) 1728 = some (.tup [], hset [(q2, ⟨.froz, ics now⟩)] 124 ⟨.row, RI⟩) := by
         intro q2 s2 hq2
         have := hso (hset [(q2, ⟨.froz, ics now⟩)] 124 ⟨.row, M2⟩) 1728 124 (by rcases hq2 with rfl | rfl | rfl <;> rfl)
         rw [this]
         rcases hq2 with rfl | rfl | rfl <;> rfl
       have k25 := key 25 .row (by omega)
       have k156 := key 156 .row (by omega)
       have k1 := key 1048732 .row (by omega)
       simp only [Z2n, Z39, Nat.reduceEqDiff, if_true, if_false, Nat.reduceLeDiff] at k25 k156 k1
       clear key hso
       by_cases hxi : x = i
       · subst hxi
         have g3 : ¬ (y : Int) ≥ j := by omega
         have g1 : ¬ (x : Int) > x := by omega
         cases o with
         | true =>
           have g4 := ho2 rfl
           rcases hp with rfl | rfl | rfl <;> rcases hst with rfl | rfl <;>
             simp (disch := omega) only [ZF, ↓gd, stp, opPick, just, Rd.bind, Rd.run, Rd.opt, upds, acells, tsz, rdCells, aLoad, aStore, opStore, Z2, aNum, aLen, Z4, aBin, aInt, putC, Nat.reduceAdd, Nat.reduceMul, Nat.reduceLT, Nat.reduceBEq, Nat.reduceEqDiff, Nat.reduceLeDiff, ↓reduceIte, stpT, ↓gdT, Rd.foot, writing, Z9, Tr.empty, Za, apartT, disj, mutX, aCall, snaps, ZT, F_11, la, ta, a1, a2, gx, gy, g1, g3, w, hd, hcl, e1, l1, w1, a3, e2, w2, k25, k156, k1, l3, t3, hap, hov, w3, g4, if_pos, Zl (show y < 1000000 by omega)] <;> exact ⟨_, rfl, rfl⟩
         | false =>
           rcases hp with rfl | rfl | rfl <;> rcases hst with rfl | rfl <;>
             simp (disch := omega) only [ZF, ↓gd, stp, opPick, just, Rd.bind, Rd.run, Rd.opt, upds, acells, tsz, rdCells, aLoad, aStore, opStore, Z2, aNum, aLen, Z4, aBin, aInt, putC, Nat.reduceAdd, Nat.reduceMul, Nat.reduceLT, Nat.reduceBEq, Nat.reduceEqDiff, Nat.reduceLeDiff, ↓reduceIte, stpT, ↓gdT, Rd.foot, writing, Z9, Tr.empty, Za, apartT, disj, mutX, aCall, snaps, ZT, F_11, la, ta, a1, a2, gx, gy, g1, g3, w, hd, hcl, e1, l1, w1, a3, e2, w2, k25, k156, k1, l3, t3, hap, hov, if_pos, Zl (show y < 1000000 by omega)] <;> exact ⟨_, rfl, rfl⟩
       · have g3 : ¬ (x : Int) = i := by omega
         have g3' : ((x : Int) == i) = false := by rw [beq_eq_false_iff_ne]; exact g3
         cases o with
         | true =>
           have g4 := ho2 rfl
           rcases hp with rfl | rfl | rfl <;> rcases hst with rfl | rfl <;>
             simp (disch := omega) only [ZF, ↓gd, stp, opPick, just, Rd.bind, Rd.run, Rd.opt, upds, acells, tsz, rdCells, aLoad, aStore, opStore, Z2, aNum, aLen, Z4, aBin, aInt, putC, Nat.reduceAdd, Nat.reduceMul, Nat.reduceLT, Nat.reduceBEq, Nat.reduceEqDiff, Nat.reduceLeDiff, ↓reduceIte, stpT, ↓gdT, Rd.foot, writing, Z9, Tr.empty, Za, apartT, disj, mutX, aCall, snaps, ZT, F_11, la, ta, a1, a2, gx, gy, g1, g3', w, hd, hcl, e1, l1, w1, a3, e2, w2, k25, k156, k1, l3, t3, hap, hov, w3, g4, if_pos, Zl (show y < 1000000 by omega)] <;> exact ⟨_, rfl, rfl⟩
         | false =>
           rcases hp with rfl | rfl | rfl <;> rcases hst with rfl | rfl <;>
             simp (disch := omega) only [ZF, ↓gd, stp, opPick, just, Rd.bind, Rd.run, Rd.opt, upds, acells, tsz, rdCells, aLoad, aStore, opStore, Z2, aNum, aLen, Z4, aBin, aInt, putC, Nat.reduceAdd, Nat.reduceMul, Nat.reduceLT, Nat.reduceBEq, Nat.reduceEqDiff, Nat.reduceLeDiff, ↓reduceIte, stpT, ↓gdT, Rd.foot, writing, Z9, Tr.empty, Za, apartT, disj, mutX, aCall, snaps, ZT, F_11, la, ta, a1, a2, gx, gy, g1, g3', w, hd, hcl, e1, l1, w1, a3, e2, w2, k25, k156, k1, l3, t3, hap, hov, if_pos, Zl (show y < 1000000 by omega)] <;> exact ⟨_, rfl, rfl⟩
end Go.AM.Ytfmnoohhhokicaa
end
noncomputable section
namespace Go.AM.Ytfmnoohhhokicaa
open Go Go.AM Go.AM.Rub
noncomputable section
variable {C : Callee} {now b : List Int} {n p left i j : Nat} {st : BS}
theorem Z0hl (hC : FoC C now b n) (hF : Fd n now b) (h0 : 0 < n) (h6 : n ≤ 6) (hp : PlF p st) (hl : apL now b = left) (hl9 : left ≤ 1000) (hi : i < n) (hno : ∀ x y, x < y → y < n → (x < i ∨ x = i ∧ y < j) → ¬ goF now b x y) (x : Nat) (hx : x < n) :
   ∃ se, iterA (execA E C (fg 11) 0 216 [] 1000000 Z59) (headA []) 1000000 (foI now b n p st left i j x (x + 1)) = some (.exit 4, se) ∧ ∃ st', PlF p st' ∧ se = (((95, .bool false) :: (foI now b n p st' left i j x n).1 : AFr), (foI now b n p st' left i j x n).2) := by
 refine loopP (fun m s => ∃ st', PlF p st' ∧ s = foI now b n p st' left i j x (x + 1 + m)) _ (n - 1 - x) ?_ ?_ (by omega) ?_ (by simp)
 · refine ⟨st, hp, ?_⟩
   obtain ⟨hp, hst⟩ := hp
   rcases hp with rfl | rfl | rfl <;> rcases hst with rfl | rfl <;> rfl
 · rintro m hm s ⟨st', hp', rfl⟩
   obtain ⟨st2, hp2, s', h1, h2⟩ := Z0jw hC hF h0 h6 hp' hl hl9 hi hno x (x + 1 + m) (by omega) (by omega)
   exact ⟨s', h1, st2, hp2, h2⟩
 · rintro s ⟨st', ⟨hp, hst⟩, rfl⟩
   refine ⟨_, ?_, st', ⟨hp, hst⟩, rfl⟩
   have la : (ics now).length = n := by rw [Z6, hF.ra.len]
   have e : x + 1 + (n - 1 - x) = n := by omega
   rw [e]
   clear hno
   rcases hp with rfl | rfl | rfl <;> rcases hst with rfl | rfl <;>
     simp (disch := omega) only [ZF, stp, just, Rd.bind, Rd.run, Rd.opt, upds, aLen, Z4, aBin, aInt, Nat.reduceBEq, Nat.reduceEqDiff, Nat.reduceLeDiff, ↓reduceIte, ZT, F_11, foI, la]
theorem Z0ik (hC : FoC C now b n) (hF : Fd n now b) (h0 : 0 < n) (h6 : n ≤ 6) (hp : PlF p st) (hl : apL now b = left) (hl9 : left ≤ 1000) (hi : i < n) (hno : ∀ x y, x < y → y < n → (x < i ∨ x = i ∧ y < j) → ¬ goF now b x y) :
   ∃ se, iterA (execA E C (fg 11) 0 216 [] 1000000 Z54) (headA []) 1000000 (foO now b n p st left i j 0) = some (.exit 2, se) ∧ ∃ st', PlF p st' ∧ se = (((88, .bool false) :: (foO now b n p st' left i j n).1 : AFr), (foO now b n p st' left i j n).2) := by
 refine loopP (fun x s => ∃ st', PlF p st' ∧ s = foO now b n p st' left i j x) _ n ?_ ?_ (by omega) ?_ (by simp)
 · refine ⟨st, hp, ?_⟩
   obtain ⟨hp, hst⟩ := hp
   rcases hp with rfl | rfl | rfl <;> rcases hst with rfl | rfl <;> rfl
 · rintro x hx s ⟨st', hp', rfl⟩
   obtain ⟨se, h1, st2, hp2, rfl⟩ := Z0hl hC hF h0 h6 hp' hl hl9 hi hno x hx
   have e : ((x + 1 : Nat) : Int) = (x : Int) + 1 := by omega
   have w : wrp .i64 ((x : Int) + 1) = (x : Int) + 1 := Zv (by omega)
   have g1 : (x : Int) < n := by omega
   simp only [foI, e] at h1
   obtain ⟨hpa, hst1⟩ := hp'
   obtain ⟨_, hst2⟩ := hp2
   have key : ∃ s', (execA E C (fg 11) 0 216 [] 1000000 Z54) (foO now b n p st' left i j x) = some (.normal, s') ∧ headA [] s' = foO now b n p st2 left i j (x + 1) := by
     simp only [foO, e]
     clear hno
     rcases hpa with rfl | rfl | rfl <;> rcases hst1 with rfl | rfl <;> rcases hst2 with rfl | rfl <;>
       simp (disch := omega) only [ZF, stp, just, Rd.bind, Rd.run, Rd.opt, upds, aBin, aInt, Nat.reduceBEq, Nat.reduceEqDiff, Nat.reduceLeDiff, ↓reduceIte, F_11, g1, w, h1] <;> exact ⟨_, rfl, rfl⟩
   obtain ⟨s', h3, h4⟩ := key
   exact ⟨s', h3, st2, ⟨hpa, hst2⟩, h4⟩
 · rintro s ⟨st', ⟨hp, hst⟩, rfl⟩
   refine ⟨_, ?_, st', ⟨hp, hst⟩, rfl⟩
   clear hno
   rcases hp with rfl | rfl | rfl <;> rcases hst with rfl | rfl <;>
     simp (disch := omega) only [ZF, stp, just, Rd.bind, Rd.run, Rd.opt, upds, aBin, aInt, Nat.reduceEqDiff, Nat.reduceLeDiff, ↓reduceIte, F_11, foO]
end
abbrev foT (now b : List Int) (n p : Nat) (st : BS) (left : Nat) : St := ([(11, .int .i64 left), (10, .ref p 0 n n n 1 false), (9, .imm (ics b) n false)], [(p, ⟨st, ics now⟩)])
theorem Z0n4 {C : Callee} {now b : List Int} {n p left i j : Nat} {st : BS} (hC : FoC C now b n) (hF : Fd n now b) (h0 : 0 < n) (h6 : n ≤ 6) (hp : PlF p st) (hl : apL now b = left + 1) (hl9 : left + 1 ≤ 1000) (r : Rb n now i j) (hno : ∀ x y, x < y → y < n → (x < i ∨ x = i ∧ y < j) → ¬ goF now b x y)
   (hnx : apL (rubL now i j) b = left) (hmx : MajL (rubL now i j) b)
   (h1 : ∀ (site : Nat → Nat) seen x y, aBack site true seen (thaw C 33 [.imm (ics now) n x, .imm (ics b) n y] [] 0) = .pure (.tup [.int .i64 i, .int .i64 j, .int .i64 0], []))
   (h2 : ∀ (site : Nat → Nat) seen x, aBack site true seen (thaw C 22 [.imm (ics now) n x, .int .i64 i, .int .i64 j] [] 0) = Z0m (site 0) seen (fun k => .tup [.ref k 0 n n n 1 false, .int .i64 0]) ⟨.row, ics (rubL now i j)⟩)
   (h3 : ∀ (site : Nat → Nat) seen c x y, Rw n c → aBack site true seen (thaw C 24 [.imm (ics c) n x, .imm (ics c) n y] [] 0) = .pure (.bool true, [])) :
   ∃ q, PlF q .row ∧ ∃ s', (execA E C (fg 11) 0 216 [] 1000000 Z3D) (foT now b n p st (left + 1)) = some (.normal, s') ∧ headA [] s' = foT (rubL now i j) b n q .row left := by
 obtain ⟨se, hloop, st2, hp2, rfl⟩ := Z0ik hC hF h0 h6 hp hl hl9 (show i < n by have := r.lt; have := r.lj; omega) hno
 obtain ⟨hpa, hst⟩ := hp
 obtain ⟨_, hst2⟩ := hp2
 have rlt := r.lt
 have rlj := r.lj
 have rdf := r.df
 have la : (ics now).length = n := by rw [Z6, hF.ra.len]
 have ta : List.take n (ics now) = ics now := List.take_of_length_le (by omega)
 have a1 := Zu (l := now) (k := i) (by rw [hF.ra.len]; omega)
 have a2 := Zu (l := now) (k := j) (by rw [hF.ra.len]; omega)
 have b1 := rw_b hF.ra (k := i) (by omega)
 have b2 := rw_b hF.ra (k := j) (by omega)
 have gi : (i : Int) < n := by omega
 have gj : (j : Int) < n := by omega
 have w : wrp .i64 (rowF now i - rowF now j) = rowF now i - rowF now j := Zv (by omega)
 have rr := (Z0N hF.ra r).1
 have hmj := ZLi rr hF.rb (by rw [(Z4G hF.ra r).2, hF.sum])
 have hab := ZwJ (b := b) rr (by rw [(Z4G hF.ra r).2, hF.sum])
 have hap := fun (site : Nat → Nat) seen x' y' => hC.ap site seen (rubL now i j) x' y' rr
 have hov := fun (site : Nat → Nat) seen x' y' => hC.ov site seen (rubL now i j) x' y' rr
 have hsm := fun (site : Nat → Nat) seen x' y' => h3 site seen (rubL now i j) x' y' rr
 rw [hab, hnx] at hap
 rw [decide_eq_true (hmj.2 hmx)] at hov
 have hcl := hC.cl
 have hln := hF.ra.len
 have e1 := Z15 now i (rowF now i - 1)
 have l1 : (ics (now.set i (rowF now i - 1))).length = n := by rw [Z6, List.length_set, hln]
 have a3 : (ics (now.set i (rowF now i - 1)))[j]? = some (.int .i64 (rowF now j)) := by
   refine Z1T ?_
   rw [List.getElem?_set_ne (by omega)]
   exact Z2y (by omega)
 have e2 := Z15 (now.set i (rowF now i - 1)) j (rowF now j + 1)
 have e3 : (now.set i (rowF now i - 1)).set j (rowF now j + 1) = mvL now i j := rfl
 rw [e3] at e2
 have l2 : (ics (mvL now i j)).length = n := by rw [Z6, Zw, hln]
 have hso := fun (H : AHeap) B k => hC.so H B k (mvL now i j) (by rw [Zw, hln]) (fun k hk => by
   rw [Zw, hln] at hk
   rw [Z0M r.lt (by omega)]
   have := rw_b hF.ra hk
   unfold mvF
   split
   · omega
   · split <;> omega)
 rw [ZdY hF.ra r] at hso
 have l3 : (ics (rubL now i j)).length = n := by rw [Z6, rr.len]
 have t3 : List.take n (ics (rubL now i j)) = ics (rubL now i j) := List.take_of_length_le (by omega)
 have w1 : wrp .i64 (rowF now i - 1) = rowF now i - 1 := Zv (by omega)
 have w2 : wrp .i64 (rowF now j + 1) = rowF now j + 1 := Zv (by omega)
 have el : ((left + 1 : Nat) : Int) = (left : Int) + 1 := by omega
 have w3 : wrp .i64 (2 * ((left : Int) + 1)) = 2 * ((left : Int) + 1) := Zv (by omega)
 have w4 : wrp .i64 (2 * ((left : Int) + 1) - 2) = 2 * (left : Int) := by rw [Zv (by omega)]; omega
 have w5 : wrp .i64 ((left : Int) + 1 - 1) = (left : Int) := by rw [Zv (by omega)]; omega
 have g1 : (left : Int) + 1 > 0 := by omega
 have g2 : ¬ (i : Int) < 0 := by omega
 have g3 : ¬ (j : Int) ≤ i := by omega
 have g4 : ¬ (j : Int) ≥ n := by omega
 have g5 : ¬ rowF now i - rowF now j < 2 := by omega
 have ii : ∀ x : Int, (x != x) = false := fun x => by simp
 simp only [foO, el, cl0] at hloop
 simp only [foT, el]
 clear hmj hab hno hl hnx hmx hF rr
 generalize rubL now i j = R at *
 generalize ics R = RI at *
 generalize ics (mvL now i j) = M2 at *
 generalize ics (now.set i (rowF now i - 1)) = M1 at *
 have kk : ∀ (H : AHeap), hget H 160 = some ⟨.row, M2⟩ → C 67 [.ref 160 0 n n n 1 false] H 1728 = some (.tup [], hset H 160 ⟨.row, RI⟩) := fun H h => hso H 1728 160 h
 have k25 := kk [(25, ⟨.froz, ics now⟩), (156, ⟨.row, RI⟩), (160, ⟨.row, M2⟩)] rfl
 have k156 := kk [(156, ⟨.froz, ics now⟩), (160, ⟨.row, M2⟩), (1048732, ⟨.row, RI⟩)] rfl
 have k1 := kk [(156, ⟨.row, RI⟩), (160, ⟨.row, M2⟩), (1048732, ⟨.froz, ics now⟩)] rfl
 simp only [Z2n, Z39, Nat.reduceEqDiff, if_true, if_false, Nat.reduceLeDiff] at k25 k156 k1
 clear kk hso
 have nx : ∀ {r : Nat → AV} {bk : Blk} {seen : List Nat} (s2 : BS), (Z63 156 seen r bk).run [(156, ⟨s2, ics now⟩)] = ((frz seen).bind fun us => .pure (r 1048732, us ++ [(1048732, bk)])).run [(156, ⟨s2, ics now⟩)] := fun s2 => ZNJ (k := 156) rfl rfl
 rcases hpa with rfl | rfl | rfl
 · refine ⟨156, ⟨by omega, .inl rfl⟩, ?_⟩
   rcases hst with rfl | rfl <;> rcases hst2 with rfl | rfl <;>
     simp (disch := omega) only [ZF, ↓gd, stp, opPick, justO, just, Rd.bind, Rd.run, Rd.opt, upds, acells, tsz, rdCells, aLoad, aStore, opStore, Zs, Z2, aNum, aLen, Z4, aBin, aInt, putC, Nat.reduceAdd, Nat.reduceMul, Nat.reduceLT, Nat.reduceBEq, Nat.reduceEqDiff, Nat.reduceLeDiff, ↓reduceIte, stpT, ↓gdT, Rd.foot, writing, Z9, Tr.empty, Za, apartT, disj, aUn, mutX, aCall, snaps, ZT, F_11, la, ta, a1, a2, gi, gj, w, h1, hloop, h2, hcl, e1, l1, w1, a3, e2, w2, k25, l3, t3, hap, hov, hsm, w3, w4, w5, g1, g2, g3, g4, g5, if_pos] <;> exact ⟨_, rfl, rfl⟩
 · refine ⟨1048732, ⟨by omega, .inl rfl⟩, ?_⟩
   rcases hst with rfl | rfl <;> rcases hst2 with rfl | rfl <;>
     simp (disch := omega) only [ZF, ↓gd, stp, opPick, justO, just, Rd.bind, Rd.run, Rd.opt, upds, acells, tsz, rdCells, aLoad, aStore, opStore, Zs, Z2, aNum, aLen, Z4, aBin, aInt, putC, Nat.reduceAdd, Nat.reduceMul, Nat.reduceLT, Nat.reduceBEq, Nat.reduceEqDiff, Nat.reduceLeDiff, ↓reduceIte, stpT, ↓gdT, Rd.foot, writing, Z9, Tr.empty, Za, apartT, disj, aUn, mutX, aCall, snaps, ZT, F_11, la, ta, a1, a2, gi, gj, w, h1, hloop, h2, nx, hcl, e1, l1, w1, a3, e2, w2, k156, l3, t3, hap, hov, hsm, w3, w4, w5, g1, g2, g3, g4, g5, if_pos] <;> exact ⟨_, rfl, rfl⟩
 · refine ⟨156, ⟨by omega, .inl rfl⟩, ?_⟩
   rcases hst with rfl | rfl <;> rcases hst2 with rfl | rfl <;>
     simp (disch := omega) only [ZF, ↓gd, stp, opPick, justO, just, Rd.bind, Rd.run, Rd.opt, upds, acells, tsz, rdCells, aLoad, aStore, opStore, Zs, Z2, aNum, aLen, Z4, aBin, aInt, putC, Nat.reduceAdd, Nat.reduceMul, Nat.reduceLT, Nat.reduceBEq, Nat.reduceEqDiff, Nat.reduceLeDiff, ↓reduceIte, stpT, ↓gdT, Rd.foot, writing, Z9, Tr.empty, Za, apartT, disj, aUn, mutX, aCall, snaps, ZT, F_11, la, ta, a1, a2, gi, gj, w, h1, hloop, h2, hcl, e1, l1, w1, a3, e2, w2, k1, l3, t3, hap, hov, hsm, w3, w4, w5, g1, g2, g3, g4, g5, if_pos] <;> exact ⟨_, rfl, rfl⟩
end Go.AM.Ytfmnoohhhokicaa
end
end
noncomputable section
noncomputable section
namespace Go.AM.Ytfmnoohhhokicaa
open Go Go.AM Go.AM.Rub
theorem ZKy {d : Nat} {n : Nat} {l : List Int} (h : Rw n l) (h6 : n ≤ 6) {i j : Nat} (r : Rb n l i j) (site : Nat → Nat) (seen : List Nat) (x : Bool) : aBack site true seen (thaw (kF (d + 3)) 22 [.imm (ics l) n x, .int .i64 i, .int .i64 j] [] 0) = Z0m (site 0) seen (fun k => .tup [.ref k 0 n n n 1 false, .int .i64 0]) ⟨.row, ics (rubL l i j)⟩ := by
 have hlt := r.lt
 have hlj := r.lj
 have hdf := r.df
 have e0 : rubE l i j = 0 := by
   unfold rubE
   rw [if_neg (fun e => e (Z0el h (by omega) h6)), if_neg (by rw [h.len]; omega), if_neg (by omega), Int.toNat_natCast, Int.toNat_natCast, if_neg (by omega)]
 rcases Z08W (d := d) (i := (i : Int)) (j := (j : Int)) (a := .imm (ics l) n x) (.inr ⟨x, by rw [h.len]⟩) (by rw [h.len]; omega) with ⟨hz, _⟩ | ⟨_, g, H, h1, h2⟩
 · exact absurd e0 hz
 · rw [Int.toNat_natCast, Int.toNat_natCast] at h2
   rw [h.len] at h1
   exact Zix (by rw [Z11 rfl]; exact h1) h2 (by rw [Z6, (Z0N h r).1.len])
theorem foC {now b : List Int} {n : Nat} (hF : Fd n now b) (h0 : 0 < n) (h6 : n ≤ 6) : FoC (kF 40) now b n :=
 ⟨fun site seen x => Zby (d := 39) hF.ra.len h0 (by omega), fun H B k l h1 h2 h3 => Z4C (d := 34) h1 h0 h6 h2 h3, fun site seen c x y hc => ZuN (d := 39) hc hF.rb (by omega), fun site seen c x y hc => ZER (d := 38) hc hF.rb (by omega)⟩
theorem ZNi {n d : Nat} {b : List Int} (h0 : 0 < n) (h6 : n ≤ 6) (hd : d ≤ 1000) (k : Nat) (hk : k < d) (s : St) (hs : ∃ now p st, Fd n now b ∧ PlF p st ∧ apL now b = d - k ∧ s = foT now b n p st (d - k)) :
   ∃ s', execA E (kF 40) (fg 11) 0 216 [] 1000000 Z3D s = some (.normal, s') ∧ ∃ now p st, Fd n now b ∧ PlF p st ∧ apL now b = d - (k + 1) ∧ headA [] s' = foT now b n p st (d - (k + 1)) := by
 obtain ⟨now, p, st, hF, hp, ha, rfl⟩ := hs
 obtain ⟨left, hl⟩ : ∃ left, d - k = left + 1 := ⟨d - k - 1, by omega⟩
 have hl2 : d - (k + 1) = left := by omega
 rw [hl] at ha ⊢
 rw [hl2]
 have hne : now ≠ b := fun e => by
   subst e
   rw [(Z8O hF.ra hF.rb hF.mj).2 rfl] at ha
   omega
 obtain ⟨i, j, hij, hj, hv, hg, hno⟩ := Zpc (show n ≤ 8 by omega) (hF.some h0 h6 hne)
 have hgo := (hF.go h0 h6 hij hj).1 hg
 have r : Rb n now i j := Z3m hF.ra (by omega) hj (by omega)
 have hnr := hF.near r hgo.2.2
 have ia : ∀ x, IV now (.imm (ics now) n x) := fun x => .inr ⟨x, by rw [hF.ra.len]⟩
 have ib : ∀ x, IV b (.imm (ics b) n x) := fun x => .inr ⟨x, by rw [hF.rb.len]⟩
 have hF' : Fd n (rubL now i j) b := ⟨(Z0N hF.ra r).1, hF.rb, hgo.2.1⟩
 have hjo : joE now b = 0 := (Zea hF.ra hF.rb h0 h6 hF.sum).2 hF.mj
 have h1 := fun (site : Nat → Nat) seen x y => Zce (d := 36) (site := site) (seen := seen) (ia x) (ib y) (by rw [hF.ra.len]; omega) (by rw [hF.rb.len]; omega)
 have f1 : firE now b = 0 := by
   unfold firE
   rw [if_neg (fun e => e hjo), hF.ra.len, if_neg (by rw [hv]; omega)]
 have f2 : firI now b = i := by
   unfold firI
   rw [hF.ra.len, if_pos ⟨hjo, by rw [hv]; omega⟩, hv, show (8 * (i : Int) + j + 1 - 1) = 8 * (i : Int) + j by omega, Int.tdiv_eq_ediv_of_nonneg (by omega)]
   omega
 have f3 : firJ now b = j := by
   unfold firJ
   rw [hF.ra.len, if_pos ⟨hjo, by rw [hv]; omega⟩, hv, show (8 * (i : Int) + j + 1 - 1) = 8 * (i : Int) + j by omega, Int.tmod_eq_emod_of_nonneg (by omega)]
   omega
 rw [f1, f2, f3] at h1
 have hnx : apL (rubL now i j) b = left := by omega
 obtain ⟨q, hq, s', q1, q2⟩ := Z0n4 (foC hF h0 h6) hF h0 h6 hp ha (by omega) r hno hnx hgo.2.1 h1 (fun site seen x => ZKy (d := 37) hF.ra h6 r site seen x) (fun site seen c x y hc => by
   have := Z41 (d := 39) (site := site) (seen := seen) (l := c) (m := c) (a := .imm (ics c) n x) (b := .imm (ics c) n y) (.inr ⟨x, by rw [hc.len]⟩) (.inr ⟨y, by rw [hc.len]⟩) (by rw [hc.len]; omega)
   rw [decide_eq_true rfl] at this
   exact this)
 exact ⟨s', q1, rubL now i j, q, .row, hF', hq, hnx, q2⟩
theorem ZtH {zs : List Int} {pick : Int} (hz : zs.length = 8 ∧ ∀ (i : Nat) (z : Int), zs[i]? = some z → 0 ≤ z ∧ z ≤ 255) (hp : 0 ≤ pick ∧ pick ≤ 255) (hw : ∃ H0, kF 40 17 [] [] 0 = some (.bool true, H0)) :
   rsOf (bodyA E (kF 40) fg 1000000 11 [.agg (zs.map (AV.int .u8)), .int .u8 pick] [] 0) = some (.bool true) := by
 have hwk := fun (site : Nat → Nat) seen => Z1I (site := site) (seen := seen) hw
 have pl := Z0nq hz
 obtain ⟨n0, n1, n2⟩ := ZFs (m := 6) pl (by omega) (by omega)
 obtain ⟨ra, _⟩ := ZCt (m := 6) (t := 8) pl (by omega) (by omega) (by omega) (by omega)
 have hmd := fun (site : Nat → Nat) seen => ZLk (d := 33) (site := site) (seen := seen) (m := 6) (t := 8) pl (by omega) (by omega) (by omega) (by omega)
 have hre := fun (site : Nat → Nat) seen hs => ZqN (d := 32) (site := site) (seen := seen) ra n0 (by omega) hs
 have ok := ZGX ra
 have hlz : (u8s zs).length = 8 := by rw [Ze3, pl.len]
 have htz : List.take 8 (u8s zs) = u8s zs := List.take_of_length_le (by omega)
 have sp := fun d => Z3l (u8s zs) (d + 10) (by simp [u8s]) (by rw [hlz]; omega)
 have ez : zs.map (AV.int .u8) = u8s zs := rfl
 rw [ez]
 clear n2 hz ez
 generalize mdR zs 6 8 = a at *
 generalize mdN zs 6 = n at *
 have hn6 : n ≤ 6 := by omega
 have h9 : 9 ^ n ≤ 531441 := by have := Nat.pow_le_pow_right (n := 9) (show 0 < 9 by omega) hn6; omega
 have okl : (reL a).length ≤ 900000 := Nat.le_trans ok.len (Nat.le_trans h9 (by decide))
 clear h9
 have okp := ok.pos
 have tb := Z56 (a := pick) (b := (reL a).length) hp.1 (by omega)
 have hj : pick.tmod (reL a).length = ((pick.tmod (reL a).length).toNat : Int) := by omega
 have hjl : (pick.tmod (reL a).length).toNat < (reL a).length := by omega
 generalize (pick.tmod (reL a).length).toNat = j at *
 have hbj : (reL a)[j]? = some (reL a)[j] := List.getElem?_eq_getElem hjl
 obtain ⟨rb, hm⟩ := (ok.mem _).1 (List.mem_of_getElem? hbj)
 have hat := Z5x hbj
 have hft := Z1T (Zyl (a := a) hbj)
 rw [rb.len] at hat
 generalize (reL a)[j]'hjl = b at *
 have hd9 : apL a b ≤ 1000 := Nat.le_trans (Zp8 ra rb) (by omega)
 have hF : Fd n a b := ⟨ra, rb, hm⟩
 generalize hdd : apL a b = d at *
 obtain ⟨se, hloop, q, sq, hq, rfl⟩ := loopP (f := execA E (kF 40) (fg 11) 0 216 [] 1000000 Z3D) (E0 := []) (e := .exit 0)
   (s0 := ([(11, .int .i64 d), (10, .ref 25 0 n n n 1 false), (9, .imm (ics b) n false)], [(2, ⟨.box, u8s zs⟩), (25, ⟨.froz, ics a⟩), (28, ⟨.row, lcs (reL a)⟩), (244, ⟨.row, ics (farL a (reL a))⟩)]))
   (fun k s => ∃ now p st, Fd n now b ∧ PlF p st ∧ apL now b = d - k ∧ s = foT now b n p st (d - k))
   (fun s => ∃ p st, PlF p st ∧ s = (((46, .bool false) :: (foT b b n p st 0).1 : AFr), (foT b b n p st 0).2)) d
   ⟨a, 25, .froz, hF, ⟨by omega, .inr rfl⟩, hdd, rfl⟩ (fun k hk s hs => ZNi n0 hn6 hd9 k hk s hs) (by omega)
   (by
     rintro s ⟨now, p, st, hF', hp', ha, rfl⟩
     rw [Nat.sub_self] at ha ⊢
     have e := (Z8O hF'.ra hF'.rb hF'.mj).1 ha
     subst e
     refine ⟨_, ?_, p, st, hp', rfl⟩
     generalize kF 40 = C at *
     obtain ⟨hp, hst⟩ := hp'
     have g : ¬ (0 : Int) > 0 := by omega
     rcases hp with rfl | rfl | rfl <;> rcases hst with rfl | rfl <;>
       simp (disch := omega) only [ZF, stp, just, Rd.bind, Rd.run, Rd.opt, upds, aBin, aInt, Nat.reduceBEq, Nat.reduceEqDiff, Nat.reduceLeDiff, ↓reduceIte, F_11, foT, cl0, g]) (by simp)
 have ib : ∀ x, IV b (.imm (ics b) n x) := fun x => .inr ⟨x, by rw [rb.len]⟩
 have hjo : joE b b = 0 := (Zea rb rb n0 hn6 rfl).2 (Z5D b)
 have hFb : Fd n b b := ⟨rb, rb, Z5D b⟩
 have hfv : fiV b b n = 0 := by
   refine Classical.byContradiction fun h => ?_
   obtain ⟨i, j, hij, hj, _, hg, _⟩ := Zpc (show n ≤ 8 by omega) h
   have := ((hFb.go n0 hn6 hij hj).1 hg).2.2
   rw [(Z8O rb rb (Z5D b)).2 rfl] at this
   omega
 have h1 := fun (site : Nat → Nat) seen x y => Zce (d := 36) (site := site) (seen := seen) (ib x) (ib y) (by rw [rb.len]; omega) (by rw [rb.len]; omega)
 have f1 : firE b b = 13 := by
   unfold firE
   rw [if_neg (fun e => e hjo), rb.len, if_pos hfv]
 rw [f1] at h1
 have h2 := fun (site : Nat → Nat) seen x y => Z41 (d := 39) (site := site) (seen := seen) (ib x) (ib y) (by rw [rb.len]; omega)
 rw [decide_eq_true rfl] at h2
 have la : (ics a).length = n := by rw [Z6, ra.len]
 have ta : List.take n (ics a) = ics a := List.take_of_length_le (by omega)
 have lb : (ics b).length = n := by rw [Z6, rb.len]
 have tbb : List.take n (ics b) = ics b := List.take_of_length_le (by omega)
 have hll := Z0a (reL a)
 have hfl : (ics (farL a (reL a))).length = (reL a).length := by rw [Z6, Z8o]
 have w1 : wrp .i64 pick = pick := Zv (by omega)
 have m0 : ¬ ((reL a).length : Int) = 0 := by omega
 have g1 : (j : Int) < (reL a).length := by omega
 simp only [cl0] at hloop
 clear hF hdd ok hm hFb hfv hjo f1 ra rb
 generalize firI b b = v1 at *
 generalize firJ b b = v2 at *
 generalize kF 40 = C at *
 generalize ics (farL a (reL a)) = F at *
 generalize lcs (reL a) = A at *
 generalize (reL a).length = m at *
 generalize u8s zs = Z at *
 generalize ics b = IB at *
 generalize ics a = IA at *
 obtain ⟨hq, hst⟩ := hq
 rcases hq with rfl | rfl | rfl <;> rcases hst with rfl | rfl <;>
   simp (disch := omega) only [ZF, ↓gd, Z8, stp, opPick, opBox, justO, just, Rd.bind, Rd.run, Rd.opt, upds, acells, tsz, rdCells, aLoad, Zs, resA, resL, fresh, Z2, aNum, aLen, Z4, aBin, aInt, Nat.reduceAdd, Nat.reduceMul, Nat.reduceLT, Nat.reduceBEq, Nat.reduceEqDiff, Nat.reduceLeDiff, ↓reduceIte, reduceCtorEq, aCall, snaps, aConv, ZT, F_11, hlz, htz, sp, hmd, hre, la, ta, lb, tbb, hll, hfl, w1, m0, hj, g1, hat, hft, hloop, h1, h2, hwk]
end Go.AM.Ytfmnoohhhokicaa
end
noncomputable section
namespace Go.AM.Ytfmnoohhhokicaa
open Go Go.AM
theorem ZE0 : isTrue (kF 40 17 [] [] 0) = true := by kernel_rfl
theorem soundK (d : Nat) : CS Proofs.Try.prog E (kF d) := ZGT (Z8k envOk mixed fr fg 1000000 d)
theorem soundB : CS Proofs.Try.prog E (bodyA E (kF 40) fg 1000000) := ZBo envOk mixed fg 1000000 (soundK 40)
end Go.AM.Ytfmnoohhhokicaa
end
noncomputable section
namespace Go.AM.Ytfmnoohhhokicaa
open Go Go.AM Go.RowKit Go.Proofs Go.Proofs.Ytfmnoohhhokicaa Go.ChangeShapes Go.WideShapes Go.ChangeAt Go.AM.Rub
theorem laidOut : laidOutB Try.prog = true := by kernel_rfl
theorem ZEp : Try.prog.readableRec 49 = true := by kernel_rfl
theorem ZFe : 49 < Try.prog.types.size := of_decide_eq_true (by kernel_rfl)
theorem ZHq : Try.prog.cellsOf 49 = 8 := by kernel_rfl
theorem ZuJ : Try.prog.cellTypes Try.prog.depth 49 = some (List.replicate 8 5) := by kernel_rfl
theorem ZF4 : Try.prog.readableRec 5 = true := by kernel_rfl
theorem ZE4 : 5 < Try.prog.types.size := of_decide_eq_true (by kernel_rfl)
theorem Ziw {W : World} {zs0 : List Int} {v0 : Value} {x1 : Int} (h0 : zs0.length = 8 ∧ ∀ (i : Nat) (z : Int), zs0[i]? = some z → 0 ≤ z ∧ z ≤ 255) (r0 : (start (fun k => k < W.heap.size) W).R (.agg (zs0.map (AV.int .u8))) v0) (h1 : 0 ≤ x1 ∧ x1 ≤ 255) :
   Calls Try.prog 11 #[v0, .int .u8 x1] W fun e w' => e = .returned (.bool true) ∧ Below W.heap.size W w' := by
 obtain ⟨H0, hw⟩ := ZIR ZE0
 obtain ⟨H1, hr⟩ := ZWn (ZtH h0 h1 ⟨H0, hw⟩)
 refine Z01A soundB hr (fun k h => h) (vs := [v0, .int .u8 x1]) ?_
 simp only [Gh.Rs, VRs]
 exact ⟨v0, _, rfl, r0, _, _, rfl, by simp only [VR], rfl⟩
theorem Zas (os : Os) (started : os.Started) (H : Type) (enc : TypeId × Value → H) :
   ReturnsInHanded {} Try.checked os 11 .any (Rows.rubFirstSpec.pre6 enc Try.prog Try.f11 Rows.rubFirstRow.domain false)
     (Rows.rubFirstSpec.post enc Try.prog Try.f11 false true false false) := by
 refine returnsInHanded_of_change own started (by kernel_rfl) Try.func11 (ChangeSpec.witness6 (enc := enc) (C := Try.checked) false ⟨#[], #[.agg (Array.replicate 8 (.int .u8 0)), .int .u8 0], []⟩ 8 (by kernel_rfl) (by kernel_rfl) (by kernel_rfl) (by kernel_rfl)) ?_
 intro W base args ds gs before hval0 hW _ _
 have hW' := hW
 obtain ⟨p, q, hA0, hV, rfl, hfz, hnd⟩ := hW
 have hA : DataW.TrodAll enc Try.prog W 0 (fun _ => true) true Try.f11.params.toList args.toList ds p := hA0
 rw [Try.params11] at hA
 obtain ⟨w0, vs0, d0, ds0, p0, q0, ha, rfl, rfl, t0, hr0⟩ := trodAll_cons hA
 obtain ⟨w1, vs1, d1, ds1, p1, q1, rfl, rfl, rfl, t1, hr1⟩ := trodAll_cons hr0
 obtain ⟨rfl, rfl, rfl⟩ := trodAll_nil hr1
 obtain rfl : args = #[w0, w1] := by cases args; simp_all
 obtain ⟨rfl, rfl⟩ := trodVars_none hV
 have hval : ∀ (j : Nat) t v, (#[49, 5] : Array TypeId)[j]? = some t → (#[w0, w1] : Array Value)[j]? = some v → Value.okWide Try.prog W .any base t v := by
   intro j t v; have := hval0 j t v; rw [Try.params11] at this; exact this
 obtain ⟨zs0, cs0, rfl, e0, l0, b0⟩ := ZuF Try.underlying49 Try.underlying5 ZuJ ZHq (by omega) (hval 0 49 w0 rfl rfl)
 have h0 : zs0.length = 8 ∧ ∀ (i : Nat) (z : Int), zs0[i]? = some z → 0 ≤ z ∧ z ≤ 255 := ⟨l0, b0⟩
 have r0 : (start (fun k => k < W.heap.size) W).R (.agg (zs0.map (AV.int .u8))) (.agg cs0) := Z0lB _ e0
 obtain ⟨x1, rfl, h1⟩ := Z01B Try.underlying5 (hval 1 5 w1 rfl rfl)
 refine (Ziw h0 r0 h1).mono fun e W' ⟨he, bel⟩ => ?_
 subst he
 exact ⟨_, rfl, _, _, _, [], _, [], hW', trodAll_mk1 (shut_bool Try.underlying4 _),
   trodAll_mk2 (bel.trod' laidOut ZEp ZFe t0) (bel.trod' laidOut ZF4 ZE4 t1), rfl, bel.frame _, fun h => by cases h⟩
theorem rubFirst_holds : Rows.RubFirstSaid :=
 OpenClaim.holds_of_wide 11 Try.f11 rfl rfl rfl rfl rfl rfl rfl ⟨rfl, rfl, rfl, rfl, rfl⟩ rfl rfl rfl rfl rfl (by kernel_rfl) Try.func11 (by kernel_rfl)
   (of_decide_eq_true (by kernel_rfl)) (by unfold Func.isWrapper; first | (rw [if_pos (by decide +kernel)]; kernel_rfl) | (rw [if_neg (by decide +kernel)]; exact ⟨rfl, rfl⟩))
   (fun os started H enc _ => Zas os started H enc)
end Go.AM.Ytfmnoohhhokicaa
namespace Go.Proofs.Ytfmnoohhhokicaa
theorem rubFirst_holds : Rows.RubFirstSaid := Go.AM.Ytfmnoohhhokicaa.rubFirst_holds
end Go.Proofs.Ytfmnoohhhokicaa
end
end
#print axioms Go.Proofs.Ytfmnoohhhokicaa.rubFirst_holds
