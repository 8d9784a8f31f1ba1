/- A part of the proof of muleDue_card: DuM. Own work of this project; texts printed by own programs among it. -/
import Derived.Test.YtgfnbmfjbjopkaaDoorDwK
set_option maxRecDepth 1000000
set_option maxHeartbeats 16000000
noncomputable section
noncomputable section
namespace Go.AM.YtgfnbmfjbjopkaaDoor
open Go Go.AM Go.AM.Mule
abbrev ciS (ls : List Ld) (B : List Nat) (n : Nat) (e1 e2 : Bool) (lim : Int) (N s j : Nat) (first : Bool) (cs : List Int) (os hs : List Nat) : St :=
 ([(39, .int .i64 j), (38, .int .i64 (lsL B s).length), (37, .ref 37 0 (lsL B s).length (lst s).length (lst s).length 1 false), (9, .bool first), (8, .int .u64 (s : Int)), (6, .ref 24 0 N N N 1 false), (5, .ref 22 0 N N N 1 false), (4, .ref 20 0 N N N 1 false), (2, .ptr 2 0 2), (1, .int .i64 lim)],
   [(2, ⟨.box, trA ls B n e1 e2⟩), (20, ⟨.row, ics cs⟩), (22, ⟨.row, ins os⟩), (24, ⟨.row, ins hs⟩), (37, ⟨.row, lsCells B s⟩)])
structure CoC (C : Callee) (ls : List Ld) (B : List Nat) (n : Nat) (e1 e2 : Bool) : Prop where
 all : ∀ (site : Nat → Nat) seen, aBack site true seen (thaw C 95 [.agg (trA ls B n e1 e2)] [] 0) = .pure (.int .u64 ((2 ^ n - 1 : Nat) : Int), [])
 lasts : ∀ (site : Nat → Nat) seen (s : Nat), s < 2 ^ n → s ≠ 0 → aBack site true seen (thaw C 128 [.agg (trA ls B n e1 e2), .int .u64 (s : Int)] [] 0) = back1 (site 0) seen (fun k => .ref k 0 (lsL B s).length (lst s).length (lst s).length 1 false) ⟨.row, lsCells B s⟩
 days : ∀ (site : Nat → Nat) seen (s : Nat), s < 2 ^ n → aBack site true seen (thaw C 100 [.agg (trA ls B n e1 e2), .int .u64 (s : Int)] [] 0) = .pure (.int .i64 (daysS ls s), [])
 cost : ∀ (site : Nat → Nat) seen l day, LdOk l → 0 ≤ day ∧ day ≤ 1000 → aBack site true seen (thaw C 99 [.agg (lc l), .int .i64 day] [] 0) = .pure (.int .i64 (ldC l day), [])
theorem coC {ls : List Ld} {B : List Nat} {n : Nat} (h : TrOk ls B n) (d : Nat) (e1 e2 : Bool) : CoC (callA E fg 1000 (d + 5)) ls B n e1 e2 :=
 ⟨fun _ _ => Z8n h.le, fun _ _ _ a b => Zr3 h a b, fun _ _ _ a => Zhq h a, fun _ _ _ _ a b => Zcn a b⟩
theorem lsAt {B : List Nat} {s j i : Nat} (hj : (lsL B s)[j]? = some i) : (lsCells B s)[j]? = some (.int .i64 (i : Int)) := by
 have hl := (List.getElem?_eq_some_iff.1 hj).1
 unfold lsCells
 refine Z0P ?_
 rw [List.getElem?_append_left hl]; exact hj
theorem Z0Gq {C : Callee} {ls : List Ld} {B : List Nat} {n : Nat} {e1 e2 : Bool} (hC : CoC C ls B n e1 e2) {lim : Int} (h : TrOk ls B n) {s : Nat} (hs : s < 2 ^ n) (h0 : s ≠ 0) (j : Nat) (hj : j < (lsL B s).length) {first : Bool} {cs : List Int} {os hs' : List Nat} (hcs : cs.length = 2 ^ n)
   (hos : Part (2 ^ n) (cntN ls B 100000) s (psum ls B 100000 s j) os) (hhs : Part (2 ^ n) (cntN ls B lim) s (psum ls B lim s j) hs') :
   ∃ s', (execA E C (fg 94) 0 102 [] 1000 Zbg) (ciS ls B n e1 e2 lim (2 ^ n) s j first cs os hs') = some (.normal, s') ∧ ∃ cs2 os2 hs2, cs2.length = 2 ^ n ∧ Part (2 ^ n) (cntN ls B 100000) s (psum ls B 100000 s (j + 1)) os2 ∧ Part (2 ^ n) (cntN ls B lim) s (psum ls B lim s (j + 1)) hs2 ∧
     headA [] s' = ciS ls B n e1 e2 lim (2 ^ n) s (j + 1) false cs2 os2 hs2 := by
 have h64 := lt64 h.le hs
 have hk : (lsL B s)[j]? = some (lsL B s)[j] := List.getElem?_eq_getElem hj
 have hmem := List.getElem_mem hj
 have hi6 := Z4S h.le hs _ (Zdq hmem)
 obtain ⟨y, y1, y2, y3⟩ := Zkn h hi6
 have hdb := Zw5 h hs
 have hdays := fun site seen => hC.days site seen s hs
 have hcost := fun site seen => hC.cost site seen y (daysS ls s) y2 (by omega)
 have hdl := Z0EZ h64 (Zdq hmem)
 have hpo := ZgP (ls := ls) (lim := 100000) hk
 have hph := ZgP (ls := ls) (lim := lim) hk
 rw [if_pos (by rw [y3]; have := Zkh y2 (show 0 ≤ daysS ls s ∧ daysS ls s ≤ 1000 by omega); omega)] at hpo
 rw [y3] at hph
 have bo := Zig ls B 100000 s j
 have bh := Zig ls B lim s j
 have b1 := ZwH ls B 100000 (delS s (lsL B s)[j])
 have b2 := ZwH ls B lim (delS s (lsL B s)[j])
 have hl6 := Z2m s
 have hle := ZqA B s
 have ay := Z1D ZJ y1
 have hlen : (cls lc ls).length = n * 5 := by rw [Zv ZJ, h.l]
 have hls := lsAt hk
 have hlsl := Z9l B s
 have hshl := Zic (i := (lsL B s)[j]) (by have := h.le; omega)
 have han := Z9K h64 (ZJW (show (lsL B s)[j] < 6 by have := h.le; omega))
 rw [show s &&& (63 - 1 <<< (lsL B s)[j]) = delS s (lsL B s)[j] from rfl] at han
 have o1 := hos.lt _ hdl
 have o2 := hos.at_
 have p1 := hhs.lt _ hdl
 have p2 := hhs.at_
 have co1 : cs[delS s (lsL B s)[j]]? = some (cs.getD (delS s (lsL B s)[j]) 0) := Z09 (l := cs) (by omega)
 have co2 : cs[s]? = some (cs.getD s 0) := Z09 (l := cs) (by omega)
 have oo1 : os[delS s (lsL B s)[j]]? = some (os.getD (delS s (lsL B s)[j]) 0) := Z09 (l := os) (by rw [hos.len]; omega)
 have oo2 : os[s]? = some (os.getD s 0) := Z09 (l := os) (by rw [hos.len]; omega)
 have ho1 : hs'[delS s (lsL B s)[j]]? = some (hs'.getD (delS s (lsL B s)[j]) 0) := Z09 (l := hs') (by rw [hhs.len]; omega)
 have ho2 : hs'[s]? = some (hs'.getD s 0) := Z09 (l := hs') (by rw [hhs.len]; omega)
 rw [o1] at oo1; rw [o2] at oo2; rw [p1] at ho1; rw [p2] at ho2
 have co1' := Z38 co1
 have co2' := Z38 co2
 have oo1' := Z0P oo1
 have oo2' := Z0P oo2
 have ho1' := Z0P ho1
 have ho2' := Z0P ho2
 have cl1 : (ics cs).length = 2 ^ n := by rw [ZC, hcs]
 have ol1 : (ins os).length = 2 ^ n := by rw [Zn, hos.len]
 have hl1 : (ins hs').length = 2 ^ n := by rw [Zn, hhs.len]
 have gs : (s : Int) < (2 ^ n : Nat) := by omega
 have gdl : (delS s (lsL B s)[j] : Int) < (2 ^ n : Nat) := by omega
 have gi : (j : Int) < (lsL B s).length := by omega
 have gp : ((lsL B s)[j] : Int) < n := by omega
 have wo : wrp .i64 ((psum ls B 100000 s j : Int) + (cntN ls B 100000 (delS s (lsL B s)[j]) : Int)) = ((psum ls B 100000 s j + cntN ls B 100000 (delS s (lsL B s)[j]) : Nat) : Int) := by rw [Z0q (by omega)]; omega
 have wh : wrp .i64 ((psum ls B lim s j : Int) + (cntN ls B lim (delS s (lsL B s)[j]) : Int)) = ((psum ls B lim s j + cntN ls B lim (delS s (lsL B s)[j]) : Nat) : Int) := by rw [Z0q (by omega)]; omega
 have so := Z8U os s (psum ls B 100000 s j + cntN ls B 100000 (delS s (lsL B s)[j]))
 have sh := Z8U hs' s (psum ls B lim s j + cntN ls B lim (delS s (lsL B s)[j]))
 have Po := ZHs (w := psum ls B 100000 s (j + 1)) hos hs
 have Ph := ZHs (w := psum ls B lim s (j + 1)) hhs hs
 rw [hpo] at Po ⊢
 rw [hph] at Ph ⊢
 rw [show psum ls B lim s j + (if ldC y (daysS ls s) ≤ lim then cntN ls B lim (delS s (lsL B s)[j]) else 0) = psum ls B lim s j + (if ldC y (daysS ls s) ≤ lim then cntN ls B lim (delS s (lsL B s)[j]) else 0) from rfl] at Ph
 have hosl : (os.set s (psum ls B 100000 s j + cntN ls B 100000 (delS s (lsL B s)[j]))).length = 2 ^ n := by rw [List.length_set, hos.len]
 have sc := ZjS cs s
 have hN : s < 2 ^ n := hs
 simp only [ciS]
 generalize psum ls B 100000 s j = PO at *
 generalize psum ls B lim s j = PH at *
 generalize cntN ls B 100000 (delS s (lsL B s)[j]) = FO at *
 generalize cntN ls B lim (delS s (lsL B s)[j]) = FH at *
 generalize hRest : delS s (lsL B s)[j] = rest at *
 generalize (lsL B s)[j] = i at *
 generalize (lsL B s).length = m at *
 generalize (lst s).length = q at *
 generalize lsCells B s = lcs at *
 generalize daysS ls s = day at *
 generalize ldC y day = own at *
 generalize 2 ^ n = N at *
 simp only [lc] at ay hcost
 have hmx : (if own > cs.getD rest 0 then own else cs.getD rest 0) = mxv (cs.getD rest 0) own := rfl
 generalize cs.getD rest 0 = cr at *
 generalize mxv cr own = x at *
 have sx := sc x
 have hl2 : (ics (cs.set s x)).length = N := by rw [ZC, List.length_set, hcs]
 have hol2 : (ins (os.set s (PO + FO))).length = N := by rw [Zn, hosl]
 suffices key : ∃ (cs2 : List Int) (hs2 : List Nat), cs2.length = N ∧ Part N (cntN ls B lim) s (PH + if own ≤ lim then FH else 0) hs2 ∧ (∃ s', (execA E C (fg 94) 0 102 [] 1000 Zbg) ([(39, .int .i64 j), (38, .int .i64 m), (37, .ref 37 0 m q q 1 false), (9, .bool first), (8, .int .u64 (s : Int)), (6, .ref 24 0 N N N 1 false), (5, .ref 22 0 N N N 1 false), (4, .ref 20 0 N N N 1 false), (2, .ptr 2 0 2), (1, .int .i64 lim)],
       [(2, ⟨.box, trA ls B n e1 e2⟩), (20, ⟨.row, ics cs⟩), (22, ⟨.row, ins os⟩), (24, ⟨.row, ins hs'⟩), (37, ⟨.row, lcs⟩)]) = some (.normal, s') ∧
       headA [] s' = ([(39, .int .i64 (j + 1 : Nat)), (38, .int .i64 m), (37, .ref 37 0 m q q 1 false), (9, .bool false), (8, .int .u64 (s : Int)), (6, .ref 24 0 N N N 1 false), (5, .ref 22 0 N N N 1 false), (4, .ref 20 0 N N N 1 false), (2, .ptr 2 0 2), (1, .int .i64 lim)],
       [(2, ⟨.box, trA ls B n e1 e2⟩), (20, ⟨.row, ics cs2⟩), (22, ⟨.row, ins (os.set s (PO + FO))⟩), (24, ⟨.row, ins hs2⟩), (37, ⟨.row, lcs⟩)])) by
   obtain ⟨cs2, hs2, h1, h2, s', h3, h4⟩ := key
   exact ⟨s', h3, cs2, os.set s (PO + FO), hs2, h1, Po, h2, h4⟩
 by_cases hlim : own ≤ lim
 · rw [if_pos hlim] at Ph ⊢
   cases first with
   | true =>
     clear cl1
     have cl1 : (ics cs).length = N := by rw [ZC, hcs]
     refine ⟨cs.set s x, _, by rw [List.length_set, hcs], Ph, ?_⟩
     simp (disch := omega) only [Z9, Zh, ↓gd, ZN, Bool.not_true, Bool.not_false, Zc, Za, Z4, Z2, Z3, Z0, Zd, Zi, Zo, Zj, stp, opPick, justO, just, Rd.bind, Rd.run, Rd.opt, upds, acells, tsz, rdCells, fieldOf, Zb, aLoad, aStore, opStore, Z6, aNum, Zf, aMax, aBin, aInt, putC, Nat.reduceAdd, Nat.reduceLT, Nat.reduceBEq, Nat.reduceEqDiff, Nat.reduceLeDiff, ↓reduceIte, reduceCtorEq, Ze, Nat.zero_add, Nat.add_zero, List.nil_append, ZS, ZR, ZX, ZW, ZM, Z02, ZD, ZA, ZP, ZL, stpT, Rd.foot, writing, Zr, Tr.empty, Zu, apartT, disj, List.isEmpty_nil, List.isEmpty_cons, List.map_nil, List.map_cons, Bool.not_false, Bool.not_true, Bool.true_or, Bool.or_true, Bool.or_false, Bool.and_true, Bool.true_and, Bool.and_self, decide_true, Z5, Zl, and_true, true_and, Int.natCast_nonneg, Int.toNat_natCast, aCall, snaps, List.append_nil, List.elem_cons, List.elem_nil, List.length_cons, List.length_nil, List.getElem?_cons_zero, List.drop_zero, List.take_succ_cons, List.take_nil, Zs, seqN, bindN, regN, Zw, Z0a, ZE, List.all_cons, List.all_nil, Nat.le_refl, Nat.mul_one, List.not_mem_nil, beq_self_eq_true, Bool.false_eq_true, T_3, T_36, Z0X, ZO, Z1j, List.all_cons, List.all_nil, List.getD_cons_zero, List.getD_cons_succ, beq_self_eq_true, Zbh, Z8r, Z7c, Zb9, ZbE, Zbb, ZdB, Z8z, Z60, Z8c, Z8Z, Zdf, Z8y, Z8T, Z70, Z6Q, Z6c, Z5M, Zd5, Z6H, Z50, Z4Z, Z8O, Z8P, Z82, Z5U, Z6o, Z7b, Z7g, Z8Q, Z8s, Z5C, ZcR, Z5H, Z8b, Z67, Z5P, Z6t, Z6g, Z86, Z6e, ZdK, Z6M, Z7r, Z6O, Z7l, Z80, Z5Z, Z8q, Z5Y, Z8J, Z7z, Zel, Z8G, Z95, Z8L, Z8o, Z5Q, Z93, Z68, Zdi, Ze4, ZdV, ZcM, Z7O, Z4U, Z58, Z8e, Z8f, Z8F, Z7k, Z76, Z8j, Z7q, Z7T, Z8K, Z8S, Z4P, ZcU, Z7m, Z6P, Z6h, Z7D, Zda, Z77, Z52, Z4R, Z7L, Z7Z, Z6C, Z8d, Z6l, Z5E, Z78, Z8A, Z7U, Z8l, Z54, ZcW, ZdE, Zdx, Zea, Ze8, ZcJ, Zd6, Zdd, Zek, Zej, Ze9, Z8p, Z7R, Z6L, Zd3, Zbl, Zbd, gi, gs, gdl, gp, hls, hlsl, hlen, hshl, han, ay, hdays, hcost, co1', oo1', oo2', ho1', ho2', cl1, ol1, hl1, wo, wh, so, sh, sx, hmx, hlim, if_pos, ZK (show j < 1000000 by omega)]
     exact ⟨_, rfl, rfl⟩
   | false =>
     by_cases hx : x < cs.getD s 0
     · skip
       refine ⟨cs.set s x, _, by rw [List.length_set, hcs], Ph, ?_⟩
       simp (disch := omega) only [Z9, Zh, ↓gd, ZN, Bool.not_true, Bool.not_false, Zc, Za, Z4, Z2, Z3, Z0, Zd, Zi, Zo, Zj, stp, opPick, justO, just, Rd.bind, Rd.run, Rd.opt, upds, acells, tsz, rdCells, fieldOf, Zb, aLoad, aStore, opStore, Z6, aNum, Zf, aMax, aBin, aInt, putC, Nat.reduceAdd, Nat.reduceLT, Nat.reduceBEq, Nat.reduceEqDiff, Nat.reduceLeDiff, ↓reduceIte, Ze, Nat.zero_add, Nat.add_zero, List.nil_append, ZS, ZR, ZX, ZW, ZM, Z02, ZD, ZA, ZP, ZL, stpT, Rd.foot, writing, Zr, Tr.empty, Zu, apartT, disj, List.isEmpty_nil, List.isEmpty_cons, List.map_nil, List.map_cons, Bool.not_false, Bool.not_true, Bool.true_or, Bool.or_true, Bool.or_false, Bool.and_true, Bool.true_and, Bool.and_self, decide_true, Z5, Zl, and_true, true_and, Int.natCast_nonneg, Int.toNat_natCast, aCall, snaps, List.append_nil, List.elem_cons, List.elem_nil, List.length_cons, List.length_nil, List.getElem?_cons_zero, List.drop_zero, List.take_succ_cons, List.take_nil, Zs, seqN, bindN, regN, Zw, Z0a, ZE, List.all_cons, List.all_nil, Nat.le_refl, Nat.mul_one, List.not_mem_nil, beq_self_eq_true, Bool.false_eq_true, T_3, T_36, Z0X, ZO, Z1j, List.all_cons, List.all_nil, List.getD_cons_zero, List.getD_cons_succ, beq_self_eq_true, Zbh, Z8r, Z7c, Zb9, ZbE, Zbb, ZdB, Z8z, Z60, Z8c, Z8Z, Zdf, Z8y, Z8T, Z70, Z6Q, Z6c, Z5M, Zd5, Z6H, Z50, Z4Z, Z8O, Z8P, Z82, Z5U, Z6o, Z7b, Z7g, Z8Q, Z8s, Z5C, ZcR, Z5H, Z8b, Z67, Z5P, Z6t, Z6g, Z86, Z6e, ZdK, Z6M, Z7r, Z6O, Z7l, Z80, Z5Z, Z8q, Z5Y, Z8J, Z7z, Zel, Z8G, Z95, Z8L, Z8o, Z5Q, Z93, Z68, Zdi, Ze4, ZdV, ZcM, Z7O, Z4U, Z58, Z8e, Z8f, Z8F, Z7k, Z76, Z8j, Z7q, Z7T, Z8K, Z8S, Z4P, ZcU, Z7m, Z6P, Z6h, Z7D, Zda, Z77, Z52, Z4R, Z7L, Z7Z, Z6C, Z8d, Z6l, Z5E, Z78, Z8A, Z7U, Z8l, Z54, ZcW, ZdE, Zdx, Zea, Ze8, ZcJ, Zd6, Zdd, Zek, Zej, Ze9, Z8p, Z7R, Z6L, Zd3, Zbl, Zbd, gi, gs, gdl, gp, hls, hlsl, hlen, hshl, han, ay, hdays, hcost, co1', co2', oo1', oo2', ho1', ho2', cl1, ol1, hl1, wo, wh, so, sh, sx, hmx, hlim, hx, if_pos, ZK (show j < 1000000 by omega)]
       exact ⟨_, rfl, rfl⟩
     · skip
       refine ⟨cs, _, hcs, Ph, ?_⟩
       simp (disch := omega) only [Z9, Zh, ↓gd, ZN, Bool.not_true, Bool.not_false, Zc, Za, Z4, Z2, Z3, Z0, Zd, Zi, Zo, Zj, stp, opPick, justO, just, Rd.bind, Rd.run, Rd.opt, upds, acells, tsz, rdCells, fieldOf, Zb, aLoad, aStore, opStore, Z6, aNum, Zf, aMax, aBin, aInt, putC, Nat.reduceAdd, Nat.reduceLT, Nat.reduceBEq, Nat.reduceEqDiff, Nat.reduceLeDiff, ↓reduceIte, Ze, Nat.zero_add, Nat.add_zero, List.nil_append, ZS, ZR, ZX, ZW, ZM, Z02, ZD, ZA, ZP, ZL, stpT, Rd.foot, writing, Zr, Tr.empty, Zu, apartT, disj, List.isEmpty_nil, List.isEmpty_cons, List.map_nil, List.map_cons, Bool.not_false, Bool.not_true, Bool.true_or, Bool.or_true, Bool.or_false, Bool.and_true, Bool.true_and, Bool.and_self, decide_true, decide_false, Z5, Zl, and_true, true_and, Int.natCast_nonneg, Int.toNat_natCast, aCall, snaps, List.append_nil, List.elem_cons, List.elem_nil, List.length_cons, List.length_nil, List.getElem?_cons_zero, List.drop_zero, List.take_succ_cons, List.take_nil, Zs, seqN, bindN, regN, Zw, Z0a, ZE, List.all_cons, List.all_nil, Nat.le_refl, Nat.mul_one, List.not_mem_nil, beq_self_eq_true, Bool.false_eq_true, T_3, T_36, Z0X, ZO, Z1j, List.all_cons, List.all_nil, List.getD_cons_zero, List.getD_cons_succ, beq_self_eq_true, Zbh, Z8r, Z7c, Zb9, ZbE, Zbb, ZdB, Z8z, Z60, Z8c, Z8Z, Zdf, Z8y, Z8T, Z70, Z6Q, Z6c, Z5M, Zd5, Z6H, Z50, Z4Z, Z8O, Z8P, Z82, Z5U, Z6o, Z7b, Z7g, Z8Q, Z8s, Z5C, ZcR, Z5H, Z8b, Z67, Z5P, Z6t, Z6g, Z86, Z6e, ZdK, Z6M, Z7r, Z6O, Z7l, Z80, Z5Z, Z8q, Z5Y, Z8J, Z7z, Zel, Z8G, Z95, Z8L, Z8o, Z5Q, Z93, Z68, Zdi, Ze4, ZdV, ZcM, Z7O, Z4U, Z58, Z8e, Z8f, Z8F, Z7k, Z76, Z8j, Z7q, Z7T, Z8K, Z8S, Z4P, ZcU, Z7m, Z6P, Z6h, Z7D, Zda, Z77, Z52, Z4R, Z7L, Z7Z, Z6C, Z8d, Z6l, Z5E, Z78, Z8A, Z7U, Z8l, Z54, ZcW, ZdE, Zdx, Zea, Ze8, ZcJ, Zd6, Zdd, Zek, Zej, Ze9, Z8p, Z7R, Z6L, Zd3, Zbl, Zbd, gi, gs, gdl, gp, hls, hlsl, hlen, hshl, han, ay, hdays, hcost, co1', co2', oo1', oo2', ho1', ho2', cl1, ol1, hl1, wo, wh, so, sh, sx, hmx, hlim, hx, if_pos, ZK (show j < 1000000 by omega)]
       exact ⟨_, rfl, rfl⟩
 · rw [if_neg hlim] at Ph ⊢
   have Ph : Part N (cntN ls B lim) s (PH + 0) hs' := by rw [Nat.add_zero]; exact hhs
   cases first with
   | true =>
     clear cl1
     have cl1 : (ics cs).length = N := by rw [ZC, hcs]
     refine ⟨cs.set s x, _, by rw [List.length_set, hcs], Ph, ?_⟩
     simp (disch := omega) only [Z9, Zh, ↓gd, ZN, Bool.not_true, Bool.not_false, Zc, Za, Z4, Z2, Z3, Z0, Zd, Zi, Zo, Zj, stp, opPick, justO, just, Rd.bind, Rd.run, Rd.opt, upds, acells, tsz, rdCells, fieldOf, Zb, aLoad, aStore, opStore, Z6, aNum, Zf, aMax, aBin, aInt, putC, Nat.reduceAdd, Nat.reduceLT, Nat.reduceBEq, Nat.reduceEqDiff, Nat.reduceLeDiff, ↓reduceIte, reduceCtorEq, Ze, Nat.zero_add, Nat.add_zero, List.nil_append, ZS, ZR, ZX, ZW, ZM, Z02, ZD, ZA, ZP, ZL, stpT, Rd.foot, writing, Zr, Tr.empty, Zu, apartT, disj, List.isEmpty_nil, List.isEmpty_cons, List.map_nil, List.map_cons, Bool.not_false, Bool.not_true, Bool.true_or, Bool.or_true, Bool.or_false, Bool.and_true, Bool.true_and, Bool.and_self, decide_true, decide_false, Z5, Zl, and_true, true_and, Int.natCast_nonneg, Int.toNat_natCast, aCall, snaps, List.append_nil, List.elem_cons, List.elem_nil, List.length_cons, List.length_nil, List.getElem?_cons_zero, List.drop_zero, List.take_succ_cons, List.take_nil, Zs, seqN, bindN, regN, Zw, Z0a, ZE, List.all_cons, List.all_nil, Nat.le_refl, Nat.mul_one, List.not_mem_nil, beq_self_eq_true, Bool.false_eq_true, T_3, T_36, Z0X, ZO, Z1j, List.all_cons, List.all_nil, List.getD_cons_zero, List.getD_cons_succ, beq_self_eq_true, Zbh, Z8r, Z7c, Zb9, ZbE, Zbb, ZdB, Z8z, Z60, Z8c, Z8Z, Zdf, Z8y, Z8T, Z70, Z6Q, Z6c, Z5M, Zd5, Z6H, Z50, Z4Z, Z8O, Z8P, Z82, Z5U, Z6o, Z7b, Z7g, Z8Q, Z8s, Z5C, ZcR, Z5H, Z8b, Z67, Z5P, Z6t, Z6g, Z86, Z6e, ZdK, Z6M, Z7r, Z6O, Z7l, Z80, Z5Z, Z8q, Z5Y, Z8J, Z7z, Zel, Z8G, Z95, Z8L, Z8o, Z5Q, Z93, Z68, Zdi, Ze4, ZdV, ZcM, Z7O, Z4U, Z58, Z8e, Z8f, Z8F, Z7k, Z76, Z8j, Z7q, Z7T, Z8K, Z8S, Z4P, ZcU, Z7m, Z6P, Z6h, Z7D, Zda, Z77, Z52, Z4R, Z7L, Z7Z, Z6C, Z8d, Z6l, Z5E, Z78, Z8A, Z7U, Z8l, Z54, ZcW, ZdE, Zdx, Zea, Ze8, ZcJ, Zd6, Zdd, Zek, Zej, Ze9, Z8p, Z7R, Z6L, Zd3, Zbl, Zbd, gi, gs, gdl, gp, hls, hlsl, hlen, hshl, han, ay, hdays, hcost, co1', oo1', oo2', ho1', ho2', cl1, ol1, hl1, wo, wh, so, sh, sx, hmx, hlim, if_pos, ZK (show j < 1000000 by omega)]
     exact ⟨_, rfl, rfl⟩
   | false =>
     by_cases hx : x < cs.getD s 0
     · skip
       refine ⟨cs.set s x, _, by rw [List.length_set, hcs], Ph, ?_⟩
       simp (disch := omega) only [Z9, Zh, ↓gd, ZN, Bool.not_true, Bool.not_false, Zc, Za, Z4, Z2, Z3, Z0, Zd, Zi, Zo, Zj, stp, opPick, justO, just, Rd.bind, Rd.run, Rd.opt, upds, acells, tsz, rdCells, fieldOf, Zb, aLoad, aStore, opStore, Z6, aNum, Zf, aMax, aBin, aInt, putC, Nat.reduceAdd, Nat.reduceLT, Nat.reduceBEq, Nat.reduceEqDiff, Nat.reduceLeDiff, ↓reduceIte, Ze, Nat.zero_add, Nat.add_zero, List.nil_append, ZS, ZR, ZX, ZW, ZM, Z02, ZD, ZA, ZP, ZL, stpT, Rd.foot, writing, Zr, Tr.empty, Zu, apartT, disj, List.isEmpty_nil, List.isEmpty_cons, List.map_nil, List.map_cons, Bool.not_false, Bool.not_true, Bool.true_or, Bool.or_true, Bool.or_false, Bool.and_true, Bool.true_and, Bool.and_self, decide_true, decide_false, Z5, Zl, and_true, true_and, Int.natCast_nonneg, Int.toNat_natCast, aCall, snaps, List.append_nil, List.elem_cons, List.elem_nil, List.length_cons, List.length_nil, List.getElem?_cons_zero, List.drop_zero, List.take_succ_cons, List.take_nil, Zs, seqN, bindN, regN, Zw, Z0a, ZE, List.all_cons, List.all_nil, Nat.le_refl, Nat.mul_one, List.not_mem_nil, beq_self_eq_true, Bool.false_eq_true, T_3, T_36, Z0X, ZO, Z1j, List.all_cons, List.all_nil, List.getD_cons_zero, List.getD_cons_succ, beq_self_eq_true, Zbh, Z8r, Z7c, Zb9, ZbE, Zbb, ZdB, Z8z, Z60, Z8c, Z8Z, Zdf, Z8y, Z8T, Z70, Z6Q, Z6c, Z5M, Zd5, Z6H, Z50, Z4Z, Z8O, Z8P, Z82, Z5U, Z6o, Z7b, Z7g, Z8Q, Z8s, Z5C, ZcR, Z5H, Z8b, Z67, Z5P, Z6t, Z6g, Z86, Z6e, ZdK, Z6M, Z7r, Z6O, Z7l, Z80, Z5Z, Z8q, Z5Y, Z8J, Z7z, Zel, Z8G, Z95, Z8L, Z8o, Z5Q, Z93, Z68, Zdi, Ze4, ZdV, ZcM, Z7O, Z4U, Z58, Z8e, Z8f, Z8F, Z7k, Z76, Z8j, Z7q, Z7T, Z8K, Z8S, Z4P, ZcU, Z7m, Z6P, Z6h, Z7D, Zda, Z77, Z52, Z4R, Z7L, Z7Z, Z6C, Z8d, Z6l, Z5E, Z78, Z8A, Z7U, Z8l, Z54, ZcW, ZdE, Zdx, Zea, Ze8, ZcJ, Zd6, Zdd, Zek, Zej, Ze9, Z8p, Z7R, Z6L, Zd3, Zbl, Zbd, gi, gs, gdl, gp, hls, hlsl, hlen, hshl, han, ay, hdays, hcost, co1', co2', oo1', oo2', ho1', ho2', cl1, ol1, hl1, wo, wh, so, sh, sx, hmx, hlim, hx, if_pos, ZK (show j < 1000000 by omega)]
       exact ⟨_, rfl, rfl⟩
     · skip
       refine ⟨cs, _, hcs, Ph, ?_⟩
       simp (disch := omega) only [Z9, Zh, ↓gd, ZN, Bool.not_true, Bool.not_false, Zc, Za, Z4, Z2, Z3, Z0, Zd, Zi, Zo, Zj, stp, opPick, justO, just, Rd.bind, Rd.run, Rd.opt, upds, acells, tsz, rdCells, fieldOf, Zb, aLoad, aStore, opStore, Z6, aNum, Zf, aMax, aBin, aInt, putC, Nat.reduceAdd, Nat.reduceLT, Nat.reduceBEq, Nat.reduceEqDiff, Nat.reduceLeDiff, ↓reduceIte, Ze, Nat.zero_add, Nat.add_zero, List.nil_append, ZS, ZR, ZX, ZW, ZM, Z02, ZD, ZA, ZP, ZL, stpT, Rd.foot, writing, Zr, Tr.empty, Zu, apartT, disj, List.isEmpty_nil, List.isEmpty_cons, List.map_nil, List.map_cons, Bool.not_false, Bool.not_true, Bool.true_or, Bool.or_true, Bool.or_false, Bool.and_true, Bool.true_and, Bool.and_self, decide_true, decide_false, Z5, Zl, and_true, true_and, Int.natCast_nonneg, Int.toNat_natCast, aCall, snaps, List.append_nil, List.elem_cons, List.elem_nil, List.length_cons, List.length_nil, List.getElem?_cons_zero, List.drop_zero, List.take_succ_cons, List.take_nil, Zs, seqN, bindN, regN, Zw, Z0a, ZE, List.all_cons, List.all_nil, Nat.le_refl, Nat.mul_one, List.not_mem_nil, beq_self_eq_true, Bool.false_eq_true, T_3, T_36, Z0X, ZO, Z1j, List.all_cons, List.all_nil, List.getD_cons_zero, List.getD_cons_succ, beq_self_eq_true, Zbh, Z8r, Z7c, Zb9, ZbE, Zbb, ZdB, Z8z, Z60, Z8c, Z8Z, Zdf, Z8y, Z8T, Z70, Z6Q, Z6c, Z5M, Zd5, Z6H, Z50, Z4Z, Z8O, Z8P, Z82, Z5U, Z6o, Z7b, Z7g, Z8Q, Z8s, Z5C, ZcR, Z5H, Z8b, Z67, Z5P, Z6t, Z6g, Z86, Z6e, ZdK, Z6M, Z7r, Z6O, Z7l, Z80, Z5Z, Z8q, Z5Y, Z8J, Z7z, Zel, Z8G, Z95, Z8L, Z8o, Z5Q, Z93, Z68, Zdi, Ze4, ZdV, ZcM, Z7O, Z4U, Z58, Z8e, Z8f, Z8F, Z7k, Z76, Z8j, Z7q, Z7T, Z8K, Z8S, Z4P, ZcU, Z7m, Z6P, Z6h, Z7D, Zda, Z77, Z52, Z4R, Z7L, Z7Z, Z6C, Z8d, Z6l, Z5E, Z78, Z8A, Z7U, Z8l, Z54, ZcW, ZdE, Zdx, Zea, Ze8, ZcJ, Zd6, Zdd, Zek, Zej, Ze9, Z8p, Z7R, Z6L, Zd3, Zbl, Zbd, gi, gs, gdl, gp, hls, hlsl, hlen, hshl, han, ay, hdays, hcost, co1', co2', oo1', oo2', ho1', ho2', cl1, ol1, hl1, wo, wh, so, sh, sx, hmx, hlim, hx, if_pos, ZK (show j < 1000000 by omega)]
       exact ⟨_, rfl, rfl⟩
end Go.AM.YtgfnbmfjbjopkaaDoor
end
noncomputable section
namespace Go.AM.YtgfnbmfjbjopkaaDoor
open Go Go.AM Go.AM.Mule
theorem Zpk {N : Nat} {F : Nat → Nat} {s : Nat} {os : List Nat} (h : Part N F s (F s) os) : Part N F (s + 1) 0 os := by
 refine ⟨h.len, fun t ht => ?_, ?_, fun t h1 h2 => h.gt t (by omega) h2⟩
 · rcases Nat.lt_or_ge t s with h1 | h1
   · exact h.lt t h1
   · rw [show t = s by omega]; exact h.at_
 · by_cases hs : s + 1 < N
   · exact h.gt _ (by omega) hs
   · have := h.len
     rw [List.getD_eq_getElem?_getD, List.getElem?_eq_none (by omega)]; rfl
theorem ZMn {N : Nat} {F : Nat → Nat} {v : Nat} {os : List Nat} (h : Part N F N v os) : os = (List.range N).map F := by
 apply List.ext_getElem?
 intro t
 by_cases ht : t < N
 · have := h.lt t ht
   have e : os[t]? = some (os.getD t 0) := Z09 (l := os) (by rw [h.len]; exact ht)
   rw [e, this]; simp [ht]
 · rw [List.getElem?_eq_none (by rw [h.len]; omega), List.getElem?_eq_none (by simp; omega)]
abbrev coS (ls : List Ld) (B : List Nat) (n : Nat) (e1 e2 : Bool) (lim : Int) (N s : Nat) (cs : List Int) (os hs : List Nat) : St :=
 ([(8, .int .u64 (s : Int)), (6, .ref 24 0 N N N 1 false), (5, .ref 22 0 N N N 1 false), (4, .ref 20 0 N N N 1 false), (2, .ptr 2 0 2), (1, .int .i64 lim)],
   [(2, ⟨.box, trA ls B n e1 e2⟩), (20, ⟨.row, ics cs⟩), (22, ⟨.row, ins os⟩), (24, ⟨.row, ins hs⟩)])
theorem Z0Fz {C : Callee} {ls : List Ld} {B : List Nat} {n : Nat} {e1 e2 : Bool} (hC : CoC C ls B n e1 e2) {lim : Int} (h : TrOk ls B n) (hT : Ord (bit B)) {s : Nat} (hs : s < 2 ^ n) (h0 : s ≠ 0) {cs : List Int} {os hs' : List Nat} (hcs : cs.length = 2 ^ n)
   (hos : Part (2 ^ n) (cntN ls B 100000) s 0 os) (hhs : Part (2 ^ n) (cntN ls B lim) s 0 hs') :
   ∃ s', (execA E C (fg 94) 0 102 [] 1000 ZbJ) (coS ls B n e1 e2 lim (2 ^ n) s cs os hs') = some (.normal, s') ∧ ∃ cs2 os2 hs2, cs2.length = 2 ^ n ∧ Part (2 ^ n) (cntN ls B 100000) (s + 1) 0 os2 ∧ Part (2 ^ n) (cntN ls B lim) (s + 1) 0 hs2 ∧
     headA [] s' = coS ls B n e1 e2 lim (2 ^ n) (s + 1) cs2 os2 hs2 := by
 have h64 := lt64 h.le hs
 have hN : 2 ^ n ≤ 64 := Nat.pow_le_pow_right (by omega) h.le
 have hl6 := Z2m s
 have hle := ZqA B s
 have hp1 := ZUx (ls := ls) (B := B) (lim := 100000) h64 h0
 have hp2 := ZUx (ls := ls) (B := B) (lim := lim) h64 h0
 obtain ⟨se, hi, first2, cs2, os2, hs2, c1, c2, c3, rfl⟩ := ZbF (f := (execA E C (fg 94) 0 102 [] 1000 Zbg)) (hd := headA []) (e := .exit 2)
   (P := fun j st => ∃ first cs os hs2, cs.length = 2 ^ n ∧ Part (2 ^ n) (cntN ls B 100000) s (psum ls B 100000 s j) os ∧ Part (2 ^ n) (cntN ls B lim) s (psum ls B lim s j) hs2 ∧ st = ciS ls B n e1 e2 lim (2 ^ n) s j first cs os hs2)
   (Q := fun st => ∃ (first : Bool) (cs : List Int) (os hs2 : List Nat), cs.length = 2 ^ n ∧ Part (2 ^ n) (cntN ls B 100000) s (cntN ls B 100000 s) os ∧ Part (2 ^ n) (cntN ls B lim) s (cntN ls B lim s) hs2 ∧ st = ([(40, .bool false), (39, .int .i64 (lsL B s).length), (38, .int .i64 (lsL B s).length), (37, .ref 37 0 (lsL B s).length (lst s).length (lst s).length 1 false), (9, .bool first), (8, .int .u64 (s : Int)), (6, .ref 24 0 (2 ^ n) (2 ^ n) (2 ^ n) 1 false), (5, .ref 22 0 (2 ^ n) (2 ^ n) (2 ^ n) 1 false), (4, .ref 20 0 (2 ^ n) (2 ^ n) (2 ^ n) 1 false), (2, .ptr 2 0 2), (1, .int .i64 lim)],
     [(2, ⟨.box, trA ls B n e1 e2⟩), (20, ⟨.row, ics cs⟩), (22, ⟨.row, ins os⟩), (24, ⟨.row, ins hs2⟩), (37, ⟨.row, lsCells B s⟩)]))
   (by simp) (lsL B s).length 1000 0 (ciS ls B n e1 e2 lim (2 ^ n) s 0 true cs os hs') ⟨true, cs, os, hs', hcs, hos, hhs, rfl⟩ (by omega)
   (fun j st _ hj hP => by
     obtain ⟨first, cs, os, hs2, a1, a2, a3, rfl⟩ := hP
     obtain ⟨s', b1, cs2, os2, hs3, b2, b3, b4, b5⟩ := Z0Gq (first := first) hC h hs h0 j (by omega) a1 a2 a3
     exact ⟨s', b1, false, cs2, os2, hs3, b2, b3, b4, b5⟩)
   (fun st hP => by
     obtain ⟨first, cs, os, hs2, a1, a2, a3, rfl⟩ := hP
     rw [Nat.zero_add] at a2 a3 ⊢
     rw [hp1] at a2; rw [hp2] at a3
     refine ⟨_, ?_, first, cs, os, hs2, a1, a2, a3, rfl⟩
     simp only [ciS]
     generalize (lsL B s).length = m at *
     generalize (lst s).length = q at *
     simp (disch := omega) only [ZG, Z9, Zc, Za, Z4, Z2, Z3, Z0, Zo, stp, just, Rd.bind, Rd.run, Rd.opt, upds, aBin, aInt, Nat.reduceEqDiff, Nat.reduceLeDiff, ↓reduceIte, decide_false, Z5, List.elem_nil, seqN, bindN, regN, Int.lt_irrefl, Bool.false_eq_true, Zbh, Z8r, Z7c, Zb9, ZbE, Zbb, Zbl, Zbd])
 have hall := hC.all
 have hlasts := fun site seen => hC.lasts site seen s hs h0
 have g1 : (s : Int) ≤ ((2 ^ n - 1 : Nat) : Int) := by omega
 have hlsl := Z9l B s
 have w : wrp .u64 ((s : Int) + 1) = ((s + 1 : Nat) : Int) := wrpU (n := s + 1) (by omega)
 simp only [ciS, cl0] at hi
 have key : ∃ s', (execA E C (fg 94) 0 102 [] 1000 ZbJ) (coS ls B n e1 e2 lim (2 ^ n) s cs os hs') = some (.normal, s') ∧ headA [] s' = coS ls B n e1 e2 lim (2 ^ n) (s + 1) cs2 os2 hs2 := by
   simp only [coS]
   generalize (lsL B s).length = m at *
   generalize (lst s).length = q at *
   generalize lsCells B s = lcs at *
   generalize 2 ^ n - 1 = N1 at *
   generalize 2 ^ n = N at *
   simp (disch := omega) only [Z9, Zz, Zh, Zc, Za, Z4, Z2, Z3, Z0, Zk, Zd, Zq, Zi, Zj, stp, just, Rd.bind, Rd.run, Rd.opt, upds, rdCells, aLoad, aLen, Zf, aBin, aInt, Nat.reduceAdd, Nat.reduceBEq, Nat.reduceEqDiff, Nat.reduceLeDiff, ↓reduceIte, Ze, Nat.zero_add, List.nil_append, List.getElem?_toArray, decide_true, Z5, aCall, snaps, List.append_nil, List.elem_cons, List.elem_nil, List.length_cons, List.length_nil, List.getElem?_cons_zero, List.drop_zero, List.take_succ_cons, List.take_nil, Zs, seqN, bindN, regN, Zw, Z0a, ZE, Z0Z, Nat.le_refl, Nat.zero_mul, beq_self_eq_true, Bool.false_eq_true, T_36, ZO, beq_self_eq_true, Z0h1, Z07m, Z0c4, Z03k, Z022, ZXU, Z0f7, Z0i5, Z0g8, Z0jD, Z0C8, Z0vz, Z0ze, Z0EH, Z0zf, Z0wL, Z0vR, Z0yn, Z0yv, Z0up, Z0EK, Z0Bg, Z0Bj, Z0Bn, Z0Cw, Z0Cu, Z0tp, Z0wi, Z0zb, Z0vd, Z0F1, Z0fH, hall, hlasts, g1, hlsl, hi, w]
   exact ⟨_, rfl, rfl⟩
 obtain ⟨s', k1, k2⟩ := key
 exact ⟨s', k1, cs2, os2, hs2, c1, Zpk c2, Zpk c3, k2⟩
theorem Zmf : ∀ n, repC [.int .i64 0] n = ics (List.replicate n 0)
 | 0 => rfl
 | n + 1 => by rw [repC, Zmf n]; rfl
theorem ZTx {N : Nat} {F : Nat → Nat} (h : F 0 = 1) (hN : 1 ≤ N) : Part N F 1 0 ((List.replicate N 0).set 0 1) := by
 have hl : 0 < (List.replicate N 0).length := by simp; omega
 have z : ∀ t, (List.replicate N 0).getD t 0 = 0 := fun t => by
   simp only [List.getD_eq_getElem?_getD, List.getElem?_replicate]; split <;> rfl
 refine ⟨by simp, fun t ht => ?_, ?_, fun t h1 h2 => ?_⟩
 · rw [Z2R _ _ _ _ hl, if_pos (by omega), show t = 0 by omega, h]
 · rw [Z2R _ _ _ _ hl, if_neg (by omega), z]
 · rw [Z2R _ _ _ _ hl, if_neg (by omega), z]
def cntL (ls : List Ld) (B : List Nat) (lim : Int) (n : Nat) : List Nat := (List.range (2 ^ n)).map (cntN ls B lim)
theorem Z3J (ls B lim n) : (cntL ls B lim n).length = 2 ^ n := by simp [cntL]
theorem ZJZ (ls B lim n) : (cntL ls B lim n)[2 ^ n - 1]? = some (cntN ls B lim (2 ^ n - 1)) := by
 have := Nat.two_pow_pos n
 simp [cntL, show 2 ^ n - 1 < 2 ^ n by omega]
theorem Z0gB {d : Nat} {ls : List Ld} {B : List Nat} {n : Nat} {e1 e2 : Bool} {lim : Int} (h : TrOk ls B n) (hT : Ord (bit B)) :
   ∃ cs H', cs.length = 2 ^ n ∧ bodyA E (callA E fg 1000 (d + 5)) fg 1000 94 [.agg (trA ls B n e1 e2), .int .i64 lim] [] 0 = some (.tup [.ref 20 0 (2 ^ n) (2 ^ n) (2 ^ n) 1 false, .ref 22 0 (2 ^ n) (2 ^ n) (2 ^ n) 1 false, .ref 24 0 (2 ^ n) (2 ^ n) (2 ^ n) 1 false], H') ∧
     hget H' 20 = some ⟨.row, ics cs⟩ ∧ hget H' 22 = some ⟨.row, ins (cntL ls B 100000 n)⟩ ∧ hget H' 24 = some ⟨.row, ins (cntL ls B lim n)⟩ := by
 have hC := coC h d e1 e2
 have hN : 2 ^ n ≤ 64 := Nat.pow_le_pow_right (by omega) h.le
 have hN1 := Nat.two_pow_pos n
 generalize callA E fg 1000 (d + 5) = C at *
 have hl1 : ∀ x : Nat, ((2 ^ n : Nat) : Int) = x → x = 2 ^ n := fun x hx => by omega
 obtain ⟨se, hi, cs2, c1, rfl⟩ := ZbF (f := (execA E C (fg 94) 0 102 [] 1000 ZbJ)) (hd := headA []) (e := .exit 0)
   (P := fun k st => ∃ cs os hs2, cs.length = 2 ^ n ∧ Part (2 ^ n) (cntN ls B 100000) k 0 os ∧ Part (2 ^ n) (cntN ls B lim) k 0 hs2 ∧ st = coS ls B n e1 e2 lim (2 ^ n) k cs os hs2)
   (Q := fun st => ∃ cs, cs.length = 2 ^ n ∧ st = ([(32, .bool false), (8, .int .u64 ((2 ^ n : Nat) : Int)), (6, .ref 24 0 (2 ^ n) (2 ^ n) (2 ^ n) 1 false), (5, .ref 22 0 (2 ^ n) (2 ^ n) (2 ^ n) 1 false), (4, .ref 20 0 (2 ^ n) (2 ^ n) (2 ^ n) 1 false), (2, .ptr 2 0 2), (1, .int .i64 lim)],
     [(2, ⟨.box, trA ls B n e1 e2⟩), (20, ⟨.row, ics cs⟩), (22, ⟨.row, ins (cntL ls B 100000 n)⟩), (24, ⟨.row, ins (cntL ls B lim n)⟩)]))
   (by simp) (2 ^ n - 1) 1000 1 (coS ls B n e1 e2 lim (2 ^ n) 1 (List.replicate (2 ^ n) 0) ((List.replicate (2 ^ n) 0).set 0 1) ((List.replicate (2 ^ n) 0).set 0 1))
   ⟨_, _, _, by simp, ZTx (Zzt ..) hN1, ZTx (Zzt ..) hN1, rfl⟩ (by omega)
   (fun k st hk1 hk2 hP => by
     obtain ⟨cs, os, hs2, a1, a2, a3, rfl⟩ := hP
     obtain ⟨s', b1, cs2, os2, hs3, b2, b3, b4, b5⟩ := Z0Fz hC h hT (show k < 2 ^ n by omega) (by omega) a1 a2 a3
     exact ⟨s', b1, cs2, os2, hs3, b2, b3, b4, b5⟩)
   (fun st hP => by
     obtain ⟨cs, os, hs2, a1, a2, a3, rfl⟩ := hP
     rw [show 1 + (2 ^ n - 1) = 2 ^ n by omega] at a2 a3 ⊢
     obtain rfl := ZMn a2
     obtain rfl := ZMn a3
     refine ⟨_, ?_, cs, a1, rfl⟩
     have hall := hC.all
     have g1 : ¬ ((2 ^ n : Nat) : Int) ≤ ((2 ^ n - 1 : Nat) : Int) := by omega
     simp only [coS, cntL]
     generalize 2 ^ n - 1 = N1 at *
     generalize 2 ^ n = N at *
     simp (disch := omega) only [ZG, Z9, Zc, Za, Z4, Z2, Z3, Z0, Zd, Zj, stp, just, Rd.bind, Rd.run, Rd.opt, upds, rdCells, aLoad, aBin, aInt, Nat.reduceAdd, Nat.reduceBEq, Nat.reduceEqDiff, Nat.reduceLeDiff, ↓reduceIte, Ze, Nat.zero_add, decide_false, Z5, aCall, snaps, List.append_nil, List.elem_cons, List.elem_nil, List.length_cons, List.length_nil, List.drop_zero, List.take_succ_cons, List.take_nil, seqN, bindN, regN, Z0a, ZE, Nat.le_refl, beq_self_eq_true, Bool.false_eq_true, ZO, beq_self_eq_true, Z0h1, Z07m, Z0c4, Z03k, Z022, ZXU, Z0f7, Z0i5, Z0g8, Z0jD, Z0fH, hall, g1])
 have hall := hC.all
 have w1 : wrp .i64 ((2 ^ n - 1 : Nat) : Int) = ((2 ^ n - 1 : Nat) : Int) := Z0q (by omega)
 have w2 : wrp .i64 (((2 ^ n - 1 : Nat) : Int) + 1) = ((2 ^ n : Nat) : Int) := by rw [Z0q (by omega)]; omega
 have rep := Zm5 (2 ^ n)
 have rep2 : ins (List.replicate (2 ^ n) 0) = ics (List.replicate (2 ^ n) 0) := by rw [ZsO]; simp
 have hflat : [AV.int .i64 0].all AV.flat = true := rfl
 have hk : ((2 ^ n : Nat) : Int) ≤ kHi .i64 := by simp only [kHi]; omega
 have hby : ((8 : Nat) : Int) * ((2 ^ n : Nat) : Int) ≤ 281474976710656 := by omega
 have hil : (ins (List.replicate (2 ^ n) 0)).length = 2 ^ n := by rw [Zn, List.length_replicate]
 have s1 := Z8U (List.replicate (2 ^ n) 0) 0 1
 have hil2 : (ins ((List.replicate (2 ^ n) 0).set 0 1)).length = 2 ^ n := by rw [Zn, List.length_set, List.length_replicate]
 simp only [coS, ← rep2] at hi
 have z1 : ((1 : Nat) : Int) = 1 := rfl
 rw [z1] at hi s1
 have lo1 : (ins (cntL ls B 100000 n)).length = 2 ^ n := by rw [Zn, Z3J]
 have lo2 : (ins (cntL ls B lim n)).length = 2 ^ n := by rw [Zn, Z3J]
 have lo0 : (ics cs2).length = 2 ^ n := by rw [ZC, c1]
 have gz : (0 : Int) < ((2 ^ n : Nat) : Int) := by omega
 have hN2 : 1 ≤ 2 ^ n := hN1
 refine ⟨cs2, [(2, ⟨.box, trA ls B n e1 e2⟩), (20, ⟨.row, ics cs2⟩), (22, ⟨.row, ins (cntL ls B 100000 n)⟩), (24, ⟨.row, ins (cntL ls B lim n)⟩)], c1, ?_, rfl, rfl, rfl⟩
 generalize 2 ^ n - 1 = N1 at *
 generalize 2 ^ n = N at *
 simp (disch := omega) only [Zz, Bool.not_true, Bool.not_false, Zp, Zc, Za, Z4, Z2, Z3, Z0, Zk, Zd, Zq, Zi, Zm, Zo, Zj, stp, opBox, justO, just, Rd.bind, Rd.run, Rd.opt, upds, acells, zeroCells, tsz, elemT, rdCells, aLoad, aStore, opStore, resA, resL, fresh, Z6, aNum, aBin, aInt, putC, Nat.reduceAdd, Nat.reduceLT, Nat.reduceBEq, Nat.reduceEqDiff, Nat.reduceLeDiff, ↓reduceIte, reduceCtorEq, Ze, Nat.zero_add, Nat.add_zero, List.nil_append, ZS, ZR, ZX, ZW, ZM, Z02, ZD, ZA, ZP, ZL, stpT, Rd.foot, writing, Zr, Tr.empty, Zu, apartT, disj, List.isEmpty_nil, List.isEmpty_cons, List.map_nil, List.map_cons, Bool.not_false, Bool.not_true, Bool.true_or, Bool.or_true, Bool.or_false, Bool.and_true, Bool.true_and, Bool.and_self, decide_true, Z5, Zl, and_true, true_and, Int.natCast_nonneg, Int.toNat_natCast, aCall, snaps, List.append_nil, Option.map_some, List.elem_cons, List.elem_nil, List.length_cons, List.length_nil, List.drop_zero, List.take_succ_cons, List.take_nil, Zs, seqN, bindN, regN, Zw, Z0a, ZE, aConv, List.all_cons, List.all_nil, Nat.le_refl, Int.reduceLE, Int.reduceToNat, Nat.mul_one, List.not_mem_nil, beq_self_eq_true, Bool.false_eq_true, T_3, T_36, ZO, Z1c, List.all_cons, List.all_nil, List.getD_cons_zero, List.getD_cons_succ, beq_self_eq_true, Z0FH, Z0zg, Z0Ax, Z0xF, Z0yJ, Z0vM, Z0FA, Z0vB, Z0x2, Z0sI, Z0AK, Z0xP, Z0yg, Z0GC, Z0xQ, Z0nY, Z0lv, Z0u9, Z0uc, Z0vE, Z0sY, Z0ve, Z0uv, Z0ui, Z0tu, Z0zA, Z0I8, Z0sZ, Z0sp, Z0wp, Z0sS, Z0w8, Z0wu, Z0vk, Z0BP, Z0sc, Z0vq, Z0F0, Z0D6, Z0GG, Z0Bt, Z0oQ, Z0q5, Z0li, Z0qI, Z0od, Z0qF, Z0nH, Z0Ck, Z0BD, Z0FU, Z0Hc, Z0H5, Z0FJ, Z0Gu, b_94, hall, w1, w2, aMake, rep, hflat, hk, hby, hil, s1, hi, gz, hN2, if_pos]
end Go.AM.YtgfnbmfjbjopkaaDoor
end
noncomputable section
namespace Go.AM
def ZfS (k0 k1 k2 : Nat) (seen : List Nat) (r : Nat → Nat → Nat → AV) (b0 b1 b2 : Blk) : Rd (AV × Ups) :=
 (freeOff [k2, k1, k0] 6 0).bind fun off => (freeAll [k2 + off, k1 + off, k0 + off]).bind fun _ => (frz seen).bind fun us => .pure (r (k0 + off) (k1 + off) (k2 + off), us ++ [(k2 + off, b2), (k1 + off, b1), (k0 + off, b0)])
def ZEW (k0 k1 k2 : Nat) (seen : List Nat) (r : Nat → Nat → Nat → AV) (b0 b1 b2 : Blk) : Rd (AV × Ups) := ZfS k0 k1 k2 seen r b0 b1 b2
theorem Z0mD (k0 k1 k2 : Nat) (seen : List Nat) (r : Nat → Nat → Nat → AV) (b0 b1 b2 : Blk) : ∃ no no' no'' : Blk → Rd (AV × Ups), ZfS k0 k1 k2 seen r b0 b1 b2 = .get k2 fun
   | none => .get k1 fun
     | none => .get k0 fun
       | none => .get k2 fun
         | none => .get k1 fun
           | none => .get k0 fun
             | none => (frz seen).bind fun us => .pure (r k0 k1 k2, us ++ [(k2, b2), (k1, b1), (k0, b0)])
             | some _ => .fail
           | some _ => .fail
         | some _ => .fail
       | some b => no b
     | some b => no' b
   | some b => no'' b := by
 refine ⟨fun _ => (freeOff [k2, k1, k0] 5 1048576).bind fun off => (freeAll [k2 + off, k1 + off, k0 + off]).bind fun _ => (frz seen).bind fun us => .pure (r (k0 + off) (k1 + off) (k2 + off), us ++ [(k2 + off, b2), (k1 + off, b1), (k0 + off, b0)]),
   fun _ => (freeOff [k2, k1, k0] 5 1048576).bind fun off => (freeAll [k2 + off, k1 + off, k0 + off]).bind fun _ => (frz seen).bind fun us => .pure (r (k0 + off) (k1 + off) (k2 + off), us ++ [(k2 + off, b2), (k1 + off, b1), (k0 + off, b0)]),
   fun _ => (freeOff [k2, k1, k0] 5 1048576).bind fun off => (freeAll [k2 + off, k1 + off, k0 + off]).bind fun _ => (frz seen).bind fun us => .pure (r (k0 + off) (k1 + off) (k2 + off), us ++ [(k2 + off, b2), (k1 + off, b1), (k0 + off, b0)]), ?_⟩
 simp only [ZfS, freeOff, List.map_cons, List.map_nil, allFree, Rd.bind, Nat.add_zero]
 congr 1
 funext x
 cases x with
 | some _ => rfl
 | none =>
   simp only [Rd.bind]
   congr 1
   funext y
   cases y with
   | some _ => rfl
   | none =>
     simp only [Rd.bind]
     congr 1
     funext z
     cases z with
     | some _ => rfl
     | none =>
       simp only [Rd.bind, freeAll, Nat.add_zero]
       congr 1
       funext x
       cases x with
       | some _ => rfl
       | none =>
         simp only [Rd.bind]
         congr 1
         funext y
         cases y with
         | some _ => rfl
         | none =>
           simp only [Rd.bind]
           congr 1
           funext z
           cases z <;> rfl
theorem ZXL {k0 k1 k2 : Nat} {seen : List Nat} {r : Nat → Nat → Nat → AV} {b0 b1 b2 : Blk} {H : AHeap} : (ZfS k0 k1 k2 seen r b0 b1 b2).run H = match hget H k2 with
   | none => match hget H k1 with
     | none => match hget H k0 with
       | none => ((frz seen).bind fun us => .pure (r k0 k1 k2, us ++ [(k2, b2), (k1, b1), (k0, b0)])).run H
       | some _ => (ZEW k0 k1 k2 seen r b0 b1 b2).run H
     | some _ => (ZEW k0 k1 k2 seen r b0 b1 b2).run H
   | some _ => (ZEW k0 k1 k2 seen r b0 b1 b2).run H := by
 cases h : hget H k2 with
 | some _ => rfl
 | none =>
   cases h2 : hget H k1 with
   | some _ => rfl
   | none =>
     cases h3 : hget H k0 with
     | some _ => rfl
     | none =>
       obtain ⟨no, no', no'', e⟩ := Z0mD k0 k1 k2 seen r b0 b1 b2
       rw [e]; simp only [Rd.run, h, h2, h3]
theorem Z0cN {C : Callee} {site : Nat → Nat} {seen : List Nat} {f : FuncId} {args : List AV} {i0 i1 i2 n0 n1 n2 g0 g1 g2 z0 z1 z2 : Nat} {c0 c1 c2 : List AV} {H' : AHeap} (h : C f args [] 0 = some (.tup [.ref i0 0 n0 n0 g0 z0 false, .ref i1 0 n1 n1 g1 z1 false, .ref i2 0 n2 n2 g2 z2 false], H'))
   (h0 : hget H' i0 = some ⟨.row, c0⟩) (h1 : hget H' i1 = some ⟨.row, c1⟩) (h2 : hget H' i2 = some ⟨.row, c2⟩) (d1 : i1 ≠ i0) (d2 : i2 ≠ i0) (d3 : i2 ≠ i1) (s1 : site 1 ≠ site 0) (s2 : site 2 ≠ site 0) (s3 : site 2 ≠ site 1) (l0 : c0.length = g0) (l1 : c1.length = g1) (l2 : c2.length = g2) :
   aBack site true seen (thaw C f args [] 0) = ZfS (site 0) (site 1) (site 2) seen (fun k k' k'' => .tup [.ref k 0 n0 n0 g0 z0 false, .ref k' 0 n1 n1 g1 z1 false, .ref k'' 0 n2 n2 g2 z2 false]) ⟨.row, c0⟩ ⟨.row, c1⟩ ⟨.row, c2⟩ := by
 subst l0; subst l1; subst l2
 have e1 : ∀ off, (site 1 + off == site 0 + off) = false := fun off => by rw [beq_eq_false_iff_ne]; omega
 have e2 : ∀ off, (site 2 + off == site 0 + off) = false := fun off => by rw [beq_eq_false_iff_ne]; omega
 have e3 : ∀ off, (site 2 + off == site 1 + off) = false := fun off => by rw [beq_eq_false_iff_ne]; omega
 simp only [thaw, h, frzRet, aBack, sitesB, aBackAt, imp, imps, h0, h1, h2, d1, d2, d3, e1, e2, e3, List.length_nil, List.length_cons, List.not_mem_nil, List.mem_cons, or_self, not_false_eq_true, and_true, if_true, List.map_cons, List.map_nil, AM.apart, List.elem_cons, List.elem_nil, Bool.not_false, Bool.and_true, AV.leads, AV.leads.leadsL, Bool.or_false, Bool.true_or, Nat.zero_add, ZfS, Nat.reduceAdd]
end Go.AM
end
noncomputable section
namespace Go.AM.YtgfnbmfjbjopkaaDoor
open Go Go.AM Go.AM.Mule
theorem ZqN {d : Nat} {ls : List Ld} {B : List Nat} {n : Nat} {e1 e2 : Bool} {lim : Int} (h : TrOk ls B n) (hT : Ord (bit B)) :
   ∃ c : List AV, c.length = 2 ^ n ∧ ∀ (site : Nat → Nat) seen, site 1 ≠ site 0 → site 2 ≠ site 0 → site 2 ≠ site 1 → aBack site true seen (thaw (callA E fg 1000 (d + 6)) 94 [.agg (trA ls B n e1 e2), .int .i64 lim] [] 0) = ZfS (site 0) (site 1) (site 2) seen (fun k k' k'' => .tup [.ref k 0 (2 ^ n) (2 ^ n) (2 ^ n) 1 false, .ref k' 0 (2 ^ n) (2 ^ n) (2 ^ n) 1 false, .ref k'' 0 (2 ^ n) (2 ^ n) (2 ^ n) 1 false])
     ⟨.row, c⟩ ⟨.row, ins (cntL ls B 100000 n)⟩ ⟨.row, ins (cntL ls B lim n)⟩ := by
 obtain ⟨cs, H', c1, h1, h2, h3, h4⟩ := Z0gB (d := d) (e1 := e1) (e2 := e2) (lim := lim) h hT
 exact ⟨ics cs, by rw [ZC, c1], fun site seen s1 s2 s3 => Z0cN h1 h2 h3 h4 (by omega) (by omega) (by omega) s1 s2 s3 (by rw [ZC, c1]) (by rw [Zn, Z3J]) (by rw [Zn, Z3J])⟩
def ordN (ls : List Ld) (B : List Nat) (n : Nat) (lim : Int) : Nat := cntN ls B lim (2 ^ n - 1)
theorem Z0eO {d : Nat} {ls : List Ld} {es : List Pr} {a b : AV} (ha : SV lc ls a) (hb : SV bc es b) (h : chk ls es = 0) :
   rsOf (bodyA E (callA E fg 1000 (d + 6)) fg 1000 61 [.agg [a, b]] [] 0) = some (.tup [.int .i64 (ordN ls (sets ls.length es) ls.length 100000 : Nat), .int .i64 0]) := by
 have hr := fun (site : Nat → Nat) seen hs => Z8E (d := d + 3) (site := site) (seen := seen) ha hb h hs
 obtain ⟨tr, ord, _, _⟩ := Z1x h
 obtain ⟨c, c1, hu⟩ := ZqN (d := d) (e1 := false) (e2 := false) (lim := 0) tr ord
 have hall := fun (site : Nat → Nat) seen => Z8n (d := d + 5) (site := site) (seen := seen) (ls := ls) (B := sets ls.length es) (n := ls.length) (e1 := false) (e2 := false) tr.le
 have sa := Z10 ha
 have sb := Z10 hb
 have hlen : (cls lc ls).length = ls.length * 5 := Zv ZJ ls
 have hul : (ucs (sets ls.length es)).length = ls.length := by rw [Z05, tr.b]
 have hat := Z0P (ZJZ ls (sets ls.length es) 100000 ls.length)
 have l1 : (ins (cntL ls (sets ls.length es) 100000 ls.length)).length = 2 ^ ls.length := by rw [Zn, Z3J]
 have l2 : (ins (cntL ls (sets ls.length es) 0 ls.length)).length = 2 ^ ls.length := by rw [Zn, Z3J]
 have hN := Nat.two_pow_pos ls.length
 rw [show cntN ls (sets ls.length es) 100000 (2 ^ ls.length - 1) = ordN ls (sets ls.length es) ls.length 100000 from rfl] at hat
 generalize ordN ls (sets ls.length es) ls.length 100000 = x at *
 generalize cntL ls (sets ls.length es) 100000 ls.length = o1 at *
 generalize cntL ls (sets ls.length es) 0 ls.length = o2 at *
 generalize callA E fg 1000 (d + 6) = C at *
 generalize sets ls.length es = B at *
 have t1 : List.take (ls.length * 5) (cls lc ls) = cls lc ls := Z3s ZJ ls
 have t2 : List.take ls.length (ucs B) = ucs B := List.take_of_length_le (by omega)
 have g : ((2 ^ ls.length - 1 : Nat) : Int) < ((2 ^ ls.length : Nat) : Int) := by omega
 generalize 2 ^ ls.length - 1 = N1 at *
 generalize 2 ^ ls.length = N at *
 simp (disch := omega) only [Z9, Zp, Zc, Za, Z4, Z0e, Z2, Z3, Z0, Zk, Zd, Zq, Zi, Zm, Zj, stp, opBox, justO, just, Rd.bind, Rd.run, Rd.opt, upds, acells, zeroCells, tsz, rdCells, aLoad, aStore, opStore, Zx, resA, resL, fresh, Z6, aNum, aBin, aInt, putC, Nat.reduceAdd, Nat.reduceMul, Nat.reduceLT, Nat.reduceBEq, Nat.reduceEqDiff, Nat.reduceLeDiff, ↓reduceIte, reduceCtorEq, Ze, Nat.zero_add, List.nil_append, Bool.and_true, decide_true, Z5, Zl, and_true, Int.natCast_nonneg, Int.toNat_natCast, aCall, snaps, List.append_nil, Option.map_some, List.elem_cons, List.elem_nil, List.length_cons, List.length_nil, List.getElem?_cons_zero, List.getElem?_cons_succ, List.drop_zero, List.take_succ_cons, List.take_nil, List.set_cons_zero, List.set_cons_succ, Zs, Zdm, Z63, seqN, bindN, regN, Zw, ZH, ZE, Z1V, List.cons_append, Nat.le_refl, Nat.mul_one, Nat.zero_mul, beq_self_eq_true, bne_self_eq_false, Bool.false_eq_true, T_3, T_25, T_36, ZO, beq_self_eq_true, Z0Gc, Z0sW, Z0tl, Z0yb, Z0sm, Z0GV, Z0Ae, Z0ux, Z0xt, Z0zl, Z0v8, Z0z3, Z0w4, Z0wH, Z0sw, Z0Hg, Z0zG, Z0wF, Z0yx, Z0Fp, Z0Aj, Z0wO, Z0yj, Z0uY, Z0Ez, Z0FT, Z0DF, Z0GQ, Z0Gx, Z0Cb, Z0v4, Z0wd, Z0tD, Z0A6, Z0uR, Z0vQ, Z0vf, Z0z7, Z0t8, Z0xH, Z0DN, Z0t1, Z0Ar, Z0Al, Z0ys, Z0yK, Z0uJ, Z0tR, Z0xM, Z0DI, Z0Cg, Z0Dr, Z0G2, Z0GJ, Z0HH, b_61, sa 196, sb 195, hr, hlen, hul, t1, t2, hu, hall, ZXL, l1, hat, g]
theorem Z0dw {d : Nat} {ls : List Ld} {es : List Pr} {a b : AV} (ha : SV lc ls a) (hb : SV bc es b) (h : chk ls es = 0) :
   rsOf (bodyA E (callA E fg 1000 (d + 6)) fg 1000 24 [.agg [a, b]] [] 0) = some (.tup [.int .i64 (ordN ls (sets ls.length es) ls.length (ruC ls (sets ls.length es) ls.length) : Nat), .int .i64 0]) := by
 have hr := fun (site : Nat → Nat) seen hs => Z8E (d := d + 3) (site := site) (seen := seen) ha hb h hs
 obtain ⟨tr, ord, _, _⟩ := Z1x h
 have hru := fun (site : Nat → Nat) seen => ZxH (d := d) (site := site) (seen := seen) (e1 := false) (e2 := false) tr ord
 obtain ⟨c, c1, hu⟩ := ZqN (d := d) (e1 := false) (e2 := false) (lim := ruC ls (sets ls.length es) ls.length) tr ord
 have hall := fun (site : Nat → Nat) seen => Z8n (d := d + 5) (site := site) (seen := seen) (ls := ls) (B := sets ls.length es) (n := ls.length) (e1 := false) (e2 := false) tr.le
 have sa := Z10 ha
 have sb := Z10 hb
 have hlen : (cls lc ls).length = ls.length * 5 := Zv ZJ ls
 have hul : (ucs (sets ls.length es)).length = ls.length := by rw [Z05, tr.b]
 have hol : (ins (ruO ls (sets ls.length es) ls.length)).length = ls.length := by rw [Zn, ← ZVB tr ord, List.length_reverse, ZhA]
 have hat := Z0P (ZJZ ls (sets ls.length es) (ruC ls (sets ls.length es) ls.length) ls.length)
 have l1 : (ins (cntL ls (sets ls.length es) 100000 ls.length)).length = 2 ^ ls.length := by rw [Zn, Z3J]
 have l2 : (ins (cntL ls (sets ls.length es) (ruC ls (sets ls.length es) ls.length) ls.length)).length = 2 ^ ls.length := by rw [Zn, Z3J]
 have hN := Nat.two_pow_pos ls.length
 rw [show cntN ls (sets ls.length es) (ruC ls (sets ls.length es) ls.length) (2 ^ ls.length - 1) = ordN ls (sets ls.length es) ls.length (ruC ls (sets ls.length es) ls.length) from rfl] at hat
 generalize ordN ls (sets ls.length es) ls.length (ruC ls (sets ls.length es) ls.length) = x at *
 generalize cntL ls (sets ls.length es) 100000 ls.length = o1 at *
 generalize cntL ls (sets ls.length es) (ruC ls (sets ls.length es) ls.length) ls.length = o2 at *
 generalize ruC ls (sets ls.length es) ls.length = lim at *
 generalize ruO ls (sets ls.length es) ls.length = ro at *
 generalize callA E fg 1000 (d + 6) = C at *
 generalize sets ls.length es = B at *
 have t1 : List.take (ls.length * 5) (cls lc ls) = cls lc ls := Z3s ZJ ls
 have t2 : List.take ls.length (ucs B) = ucs B := List.take_of_length_le (by omega)
 have g : ((2 ^ ls.length - 1 : Nat) : Int) < ((2 ^ ls.length : Nat) : Int) := by omega
 generalize 2 ^ ls.length - 1 = N1 at *
 generalize 2 ^ ls.length = N at *
 simp (disch := omega) only [Z9, Zp, Zc, Za, Z4, Z0e, Z2, Z3, Z0, Zk, Zd, Zq, Zi, Zm, Zj, stp, opBox, justO, just, Rd.bind, Rd.run, Rd.opt, upds, acells, zeroCells, tsz, rdCells, aLoad, aStore, opStore, Zx, resA, resL, fresh, Z6, aNum, aBin, aInt, putC, Nat.reduceAdd, Nat.reduceMul, Nat.reduceLT, Nat.reduceBEq, Nat.reduceEqDiff, Nat.reduceLeDiff, ↓reduceIte, reduceCtorEq, Ze, Nat.zero_add, List.nil_append, Bool.and_true, decide_true, Z5, Zl, and_true, Int.natCast_nonneg, Int.toNat_natCast, aCall, snaps, List.append_nil, Option.map_some, List.elem_cons, List.elem_nil, List.length_cons, List.length_nil, List.getElem?_cons_zero, List.getElem?_cons_succ, List.drop_zero, List.take_succ_cons, List.take_nil, List.set_cons_zero, List.set_cons_succ, Zs, Zdm, Z63, ZgT, seqN, bindN, regN, Zw, ZH, ZE, Z0Z, Z1V, List.cons_append, Nat.le_refl, Nat.mul_one, Nat.zero_mul, beq_self_eq_true, bne_self_eq_false, Bool.false_eq_true, T_3, T_25, T_36, ZO, beq_self_eq_true, Z0HT, Z0yC, Z0wo, Z0wM, Z0yT, Z0GB, Z0ts, Z0xB, Z0z0, Z0uz, Z0wn, Z0tG, Z0yF, Z0vG, Z0wy, Z0H3, Z0xc, Z0tg, Z0AR, Z0GP, Z0zw, Z0As, Z0v5, Z0AY, Z0ER, Z0Gs, Z0BL, Z0GT, Z0Fl, Z0EL, Z0sD, Z0w5, Z0u4, Z0sM, Z0ur, Z0us, Z0tP, Z0wG, Z0DX, Z0xY, Z0wE, Z0wP, Z0xi, Z0zM, Z0zR, Z0yY, Z0u6, Z0yc, Z0z2, Z0xR, Z0E1, Z0yh, Z0xp, Z0tH, Z0wC, Z0vp, Z0sy, Z0A0, Z0tk, Z0E5, Z0El, Z0Ep, Z0C1, Z0HG, Z0HY, Z0HC, b_24, sa 196, sb 195, hr, hlen, hul, t1, t2, hru, hu, hall, ZXL, l2, hat, g]
end Go.AM.YtgfnbmfjbjopkaaDoor
end
noncomputable section
namespace Go.AM.YtgfnbmfjbjopkaaDoor
open Go Go.AM Go.AM.Mule
def arrSt (ds : List Int) (p : Int × List Int) (i : Nat) : Int × List Int := (p.1 + ds.getD i 0, p.2.set i (p.1 + ds.getD i 0))
def arrF (ds : List Int) (n : Nat) (o : List Nat) : Int × List Int := o.foldl (arrSt ds) (0, List.replicate n 0)
def arrL (ds : List Int) (o : List Nat) : List Int := (arrF ds o.length o).2
theorem ZzK (ds : List Int) (n : Nat) (o : List Nat) (i : Nat) : arrF ds n (o ++ [i]) = arrSt ds (arrF ds n o) i := by simp [arrF, List.foldl_append]
theorem Z1e (ds : List Int) (n : Nat) : ∀ o : List Nat, (arrF ds n o).2.length = n := by
 have key : ∀ (o : List Nat) (p : Int × List Int), p.2.length = n → (o.foldl (arrSt ds) p).2.length = n := by
   intro o
   induction o with
   | nil => intro p h; exact h
   | cons i o ih => intro p h; exact ih _ (by simp [arrSt, h])
 intro o
 exact key o _ (by simp)
theorem Z0ga {ds : List Int} {n : Nat} (hb : ∀ i, 0 ≤ ds.getD i 0 ∧ ds.getD i 0 ≤ 1000) : ∀ o : List Nat, 0 ≤ (arrF ds n o).1 ∧ (arrF ds n o).1 ≤ 1000 * o.length := by
 have key : ∀ (o : List Nat) (p : Int × List Int) (m : Nat), 0 ≤ p.1 ∧ p.1 ≤ 1000 * m → 0 ≤ (o.foldl (arrSt ds) p).1 ∧ (o.foldl (arrSt ds) p).1 ≤ 1000 * (m + o.length : Nat) := by
   intro o
   induction o with
   | nil => intro p m h; exact h
   | cons i o ih =>
     intro p m h
     have := hb i
     have := ih (arrSt ds p i) (m + 1) (by simp only [arrSt]; omega)
     rw [List.foldl_cons, List.length_cons]
     omega
 intro o
 have := key o (0, List.replicate n 0) 0 (by simp)
 simpa [arrF] using this
abbrev alS (os : List Nat) (ds : List Int) (x1 x2 : Bool) (i : Nat) : St :=
 ([(16, .int .i64 i), (15, .int .i64 os.length), (14, .imm (ins os) os.length x1), (8, .int .i64 (arrF ds os.length (os.take i)).1), (7, .ref 13 0 os.length os.length os.length 1 false), (2, .imm (ics ds) ds.length x2)], [(13, ⟨.row, ics (arrF ds os.length (os.take i)).2⟩)])
theorem Z0Gd {C : Callee} {os : List Nat} {ds : List Int} {x1 x2 : Bool} (hl : ds.length = os.length) (h9 : os.length < 900) (ho : ∀ i ∈ os, i < os.length) (hb : ∀ i, 0 ≤ ds.getD i 0 ∧ ds.getD i 0 ≤ 1000) (i : Nat) (hi : i < os.length) :
   ∃ s', (execA E C (fg 136) 0 32 [] 1000 Zb2) (alS os ds x1 x2 i) = some (.normal, s') ∧ headA [] s' = alS os ds x1 x2 (i + 1) := by
 have hk : os[i]? = some os[i] := List.getElem?_eq_getElem hi
 have hkn := ho _ (List.getElem_mem hi)
 have ht : os.take (i + 1) = os.take i ++ [os[i]] := by rw [List.take_add_one, hk]; rfl
 have b := Z0ga (n := os.length) hb (os.take i)
 have hl2 := Z1e ds os.length (os.take i)
 have hlt : (os.take i).length ≤ 900 := by rw [List.length_take]; omega
 have bb := hb os[i]
 have had := Z38 (Z09 (l := ds) (show os[i] < ds.length by omega))
 rw [show ds.getD os[i] default = ds.getD os[i] 0 from rfl] at had
 have hat := Z0P hk
 have hil := Zn os
 have hdl := ZC ds
 simp only [alS, ht, ZzK, arrSt]
 generalize arrF ds os.length (os.take i) = p at *
 obtain ⟨now, out⟩ := p
 simp only at b hl2 ⊢
 generalize os[i] = k at *
 generalize ds.getD k 0 = d at *
 have hol : (ics out).length = os.length := by rw [ZC, hl2]
 have hset := ZjS out k (now + d)
 have w : wrp .i64 (now + d) = now + d := Z0q (by omega)
 have g1 : (i : Int) < os.length := by omega
 have g2 : (k : Int) < os.length := by omega
 have g3 : (k : Int) < ds.length := by omega
 simp (disch := omega) only [Z9, Zh, Zc, Za, Z4, Z2, Z3, Z0, Zd, Zi, Zo, Zj, stp, just, Rd.bind, Rd.run, Rd.opt, upds, acells, tsz, rdCells, aLoad, aStore, opStore, Z6, aNum, aBin, aInt, putC, Nat.reduceLT, Nat.reduceBEq, Nat.reduceEqDiff, Nat.reduceLeDiff, ↓reduceIte, Ze, Nat.zero_add, List.nil_append, decide_true, Z5, Zl, and_true, true_and, Int.natCast_nonneg, Int.toNat_natCast, snaps, List.append_nil, List.elem_cons, List.elem_nil, List.length_cons, List.length_nil, Zs, seqN, bindN, regN, Zw, Nat.mul_one, List.not_mem_nil, beq_self_eq_true, Bool.false_eq_true, T_3, T_36, beq_self_eq_true, Z04U, ZKL, ZVe, Z00c, Z08R, Z0bD, Z0sn, Z0qD, Z0n3, Z0lR, Z0rj, Z0vH, Z0nZ, Z0mo, Z0mp, Z0lC, Z0ri, Z0oa, Z0mG, Z0o8, Z0wl, Z0pv, Z0mr, Z0ne, Z0nk, Z0n9, Z0qn, Z0xy, Z0sC, Z0yM, Z0Am, Z0qr, Z0nE, Z0nD, Z0wj, Z00J, Z071, g1, g2, g3, hat, had, hil, hdl, hol, hset, w, if_pos, ZK (show i < 1000000 by omega)]
 exact ⟨_, rfl, rfl⟩
theorem Z0gj {C : Callee} {os : List Nat} {ds : List Int} {x1 x2 : Bool} {c : List AV} (hl : ds.length = os.length) (h9 : os.length < 900) (h0 : 0 < os.length) (ho : ∀ i ∈ os, i < os.length) (hb : ∀ i, 0 ≤ ds.getD i 0 ∧ ds.getD i 0 ≤ 1000):
   ∃ H', bodyA E C fg 1000 136 [.agg c, .imm (ins os) os.length x1, .imm (ics ds) ds.length x2] [] 0 = some (.ref 13 0 os.length os.length os.length 1 false, H') ∧ hget H' 13 = some ⟨.row, ics (arrL ds os)⟩ := by
 have hloop := Z0K (f := (execA E C (fg 136) 0 32 [] 1000 Zb2)) (hd := headA []) (alS os ds x1 x2) os.length 1000 0
   ([(16, .int .i64 0), (15, .int .i64 os.length), (14, .imm (ins os) os.length x1), (8, .int .i64 0), (7, .ref 13 0 os.length os.length os.length 1 false), (2, .imm (ics ds) ds.length x2)], [(3, ⟨.box, c⟩), (13, ⟨.row, ics (List.replicate os.length 0)⟩)])
   rfl (by omega) (fun i _ hi => Z0Gd (x1 := x1) (x2 := x2) hl h9 ho hb i (by omega))
   (e := .exit 0) (se := ([(17, .bool false), (16, .int .i64 os.length), (15, .int .i64 os.length), (14, .imm (ins os) os.length x1), (8, .int .i64 (arrF ds os.length os).1), (7, .ref 13 0 os.length os.length os.length 1 false), (2, .imm (ics ds) ds.length x2)], [(13, ⟨.row, ics (arrL ds os)⟩)]))
   (by
     rw [Nat.zero_add]
     simp only [alS, List.take_length, arrL]
     simp (disch := omega) only [ZG, Z9, Zc, Za, Z4, Z2, Z3, Z0, Zo, stp, just, Rd.bind, Rd.run, Rd.opt, upds, aBin, aInt, Nat.reduceEqDiff, Nat.reduceLeDiff, ↓reduceIte, decide_false, Z5, List.elem_nil, seqN, bindN, regN, Int.lt_irrefl, Bool.false_eq_true, Z04U, ZKL, ZVe, Z00c, Z08R, Z0bD, Z00J, Z071]) (by simp)
 have rep := Zmf os.length
 have hflat : [AV.int .i64 0].all AV.flat = true := rfl
 have hk : ((os.length : Nat) : Int) ≤ kHi .i64 := by simp only [kHi]; omega
 have hby : ((8 : Nat) : Int) * ((os.length : Nat) : Int) ≤ 281474976710656 := by omega
 have hil : (ics (List.replicate os.length 0)).length = os.length := by rw [ZC, List.length_replicate]
 have hil2 := Zn os
 have hil3 : (ics (arrL ds os)).length = os.length := by rw [ZC]; exact Z1e ds os.length os
 refine ⟨[(13, ⟨.row, ics (arrL ds os)⟩)], ?_, rfl⟩
 simp (disch := omega) only [Zz, Zp, Zc, Za, Z4, Z0e, Z2, Z3, Z0, Zk, Zd, Zq, Zi, Zm, Zo, Zj, stp, opBox, just, Rd.bind, Rd.run, upds, acells, zeroCells, elemT, resA, resL, fresh, aNum, aLen, Zf, Nat.reduceAdd, Nat.reduceLT, Nat.reduceBEq, Nat.reduceEqDiff, Nat.reduceLeDiff, ↓reduceIte, reduceCtorEq, Nat.zero_add, List.getElem?_toArray, Z5, and_true, true_and, Int.natCast_nonneg, Int.toNat_natCast, Option.map_some, List.elem_cons, List.elem_nil, List.length_cons, List.length_nil, List.getElem?_cons_zero, seqN, bindN, regN, Nat.mul_one, beq_self_eq_true, Bool.false_eq_true, T_3, T_36, beq_self_eq_true, Z0CB, Z0nu, Z0oD, Z0q6, Z0Cp, Z0mJ, Z0q7, Z0qR, Z0lL, Z0mk, Z0Bb, Z0mM, Z0qL, Z0Ci, Z0mH, Z0oF, Z0oG, Z0oL, Z0x5, Z0F4, Z0C3, Z0wX, Z0oC, Z0oM, Z0qX, Z0xV, Z0vl, Z0D1, Z0Do, Z0Cf, Z0BN, Z0FY, aMake, rep, hflat, hk, hby, hloop, if_pos]
theorem Z0dX {d : Nat} {site : Nat → Nat} {seen : List Nat} {os : List Nat} {ds : List Int} {x1 x2 : Bool} {c : List AV} (hl : ds.length = os.length) (h9 : os.length < 900) (h0 : 0 < os.length) (ho : ∀ i ∈ os, i < os.length) (hb : ∀ i, 0 ≤ ds.getD i 0 ∧ ds.getD i 0 ≤ 1000) :
   aBack site true seen (thaw (callA E fg 1000 (d + 1)) 136 [.agg c, .imm (ins os) os.length x1, .imm (ics ds) ds.length x2] [] 0) = back1 (site 0) seen (fun k => .ref k 0 os.length os.length os.length 1 false) ⟨.row, ics (arrL ds os)⟩ := by
 obtain ⟨H', h1, h2⟩ := Z0gj (C := callA E fg 1000 d) (x1 := x1) (x2 := x2) (c := c) hl h9 h0 ho hb
 exact Z5k h1 h2 (by rw [ZC]; exact Z1e ds os.length os)
def dayE (ls : List Ld) (ds : List Int) (i : Nat) : Int := if ds.getD i 0 < (ls.getD i default).lo ∨ (ls.getD i default).hi < ds.getD i 0 then 1 else 0
def toldE (ls : List Ld) (es : List Pr) (o ds : List Int) : Int := if validE ls es o ≠ 0 then validE ls es o else if ds.length ≠ o.length then 3 else firstE ds.length (dayE ls ds)
theorem Z0AN {B : List Nat} {n : Nat} {o : List Int} (h : ordersE B n o = 0) : o.length = n ∧ ∃ os : List Nat, o = os.map (fun (i : Nat) => (i : Int)) ∧ os.length = n ∧ ∀ i ∈ os, i < n := by
 unfold ordersE at h
 split at h
 · simp at h
 · rename_i hn
   have hz := Z11.1 h
   refine ⟨by simpa using hn, o.map Int.toNat, ?_, by simpa using hn, ?_⟩
   · apply List.ext_getElem?
     intro i
     by_cases hi : i < o.length
     · obtain ⟨y, hy, _⟩ := ZK6 (hz i hi)
       have : o[i]? = some (o.getD i 0) := Z09 (l := o) hi
       simp only [List.getElem?_map, this, hy]
       rfl
     · rw [List.getElem?_eq_none (by omega), List.getElem?_eq_none (by simpa using hi)]
   · intro x hx
     obtain ⟨z, hz1, rfl⟩ := List.mem_map.1 hx
     obtain ⟨i, hi, rfl⟩ := List.mem_iff_getElem.1 hz1
     obtain ⟨y, hy, h2, _⟩ := ZK6 (hz i hi)
     have : o.getD i 0 = o[i] := by simp [hi]
     rw [← this, hy]
     exact h2
abbrev apS (ls : List Ld) (B : List Nat) (n : Nat) (ds : List Int) (x2 : Bool) (oa : AV) (i : Nat) : St :=
 ([(37, .int .i64 i), (36, .int .i64 ds.length), (35, .imm (ics ds) ds.length x2), (9, .ptr 9 0 2), (6, .ptr 6 0 2), (2, .imm (ics ds) ds.length x2), (1, oa)],
   [(6, ⟨.box, [.nilsl, .nilsl]⟩), (9, ⟨.box, [.ref 15 0 n n (n * 5) 5 false, .ref 82 0 n n n 1 false]⟩), (15, ⟨.row, cls lc ls⟩), (82, ⟨.row, ucs B⟩)])
theorem Z0rM {C : Callee} {ls : List Ld} {B : List Nat} {n : Nat} {ds : List Int} {x2 : Bool} {os : List Nat} {x1 : Bool} (h : TrOk ls B n) (hl : ds.length = n) (i : Nat) (hi : i < n) (h0 : dayE ls ds i = 0) :
   ∃ s', (execA E C (fg 114) 0 67 [] 1000 Z57) (apS ls B n ds x2 (.imm (ins os) os.length x1) i) = some (.normal, s') ∧ headA [] s' = apS ls B n ds x2 (.imm (ins os) os.length x1) (i + 1) := by
 have hle := h.le
 have hx : ls[i]? = some (ls.getD i default) := Z09 (by rw [h.l]; exact hi)
 have hd : ds[i]? = some (ds.getD i 0) := Z09 (l := ds) (by omega)
 have f0 : (cls lc ls)[i * 5 + 0]? = some (.int .i64 (ls.getD i default).lo) := Z3C ZJ hx (by omega)
 have f1 : (cls lc ls)[i * 5 + 1]? = some (.int .i64 (ls.getD i default).hi) := Z3C ZJ hx (by omega)
 rw [Nat.add_zero] at f0
 have hlen : (cls lc ls).length = n * 5 := by rw [Zv ZJ, h.l]
 have had := Z38 hd
 have hdl := ZC ds
 have g1 : (i : Int) < ds.length := by omega
 have g2 : (i : Int) < n := by omega
 unfold dayE at h0
 have c1 : ¬ ds.getD i 0 < (ls.getD i default).lo := by intro hc; rw [if_pos (.inl hc)] at h0; simp at h0
 have c2 : ¬ ds.getD i 0 > (ls.getD i default).hi := by intro hc; rw [if_pos (.inr hc)] at h0; simp at h0
 clear h0
 generalize ls.getD i default = x at *
 generalize ds.getD i 0 = z at *
 simp only [apS]
 simp (disch := omega) only [Z9, Zh, ↓gd, ZN, Zc, Za, Z4, Z2, Z3, Z0, Zd, Zi, Zo, Zj, stp, opPick, just, Rd.bind, Rd.run, Rd.opt, upds, acells, tsz, rdCells, fieldOf, Zb, aLoad, aStore, opStore, Z6, aNum, aBin, aInt, putC, Nat.reduceAdd, Nat.reduceLT, Nat.reduceBEq, Nat.reduceEqDiff, Nat.reduceLeDiff, ↓reduceIte, Ze, Nat.zero_add, Nat.add_zero, Bool.and_true, decide_true, decide_false, Z5, Zl, and_true, true_and, Int.natCast_nonneg, Int.toNat_natCast, snaps, List.append_nil, List.elem_cons, List.elem_nil, List.length_cons, List.length_nil, List.getElem?_cons_zero, List.drop_zero, List.take_succ_cons, List.take_nil, List.set_cons_zero, List.set_cons_succ, seqN, bindN, regN, ZH, Nat.le_refl, Int.reduceLE, Int.reduceToNat, Nat.mul_one, beq_self_eq_true, Bool.false_eq_true, T_3, T_36, Z0X, ZO, Z1j, beq_self_eq_true, ZiF, Zf3, Zge, Zlu, Zkd, ZiT, ZvW, Zhx, ZgR, ZhI, ZgN, ZgI, ZgE, ZtP, Zia, Zib, ZhU, Zhm, Zhr, Zh9, ZhZ, Zhz, Zhc, ZhF, Zh5, ZfG, ZfA, Zf9, ZfY, ZeK, ZeC, Zf8, ZeZ, ZwO, Zi0, ZgQ, ZhJ, ZhS, ZgO, Zu0, Zuo, ZvI, Zwl, Zus, ZtW, Zwv, Z0uj, Z0hO, Z0g9, Z0kt, Zv3, ZkH, ZkR, g1, g2, f0, f1, hlen, had, hdl, c1, c2, if_pos, ZK (show i < 1000000 by omega)]
 exact ⟨_, rfl, rfl⟩
theorem Z0Ew {C : Callee} {ls : List Ld} {B : List Nat} {n : Nat} {ds : List Int} {x2 : Bool} {os : List Nat} {x1 : Bool} (h : TrOk ls B n) (hl : ds.length = n) (i : Nat) (hi : i < n) (h0 : dayE ls ds i ≠ 0) :
   (execA E C (fg 114) 0 67 [] 1000 Z57) (apS ls B n ds x2 (.imm (ins os) os.length x1) i) = some (.ret, ([(8, .int .i64 1), (7, .nilsl), (6, .ptr 6 0 2)],
     [(6, ⟨.box, [.ref 15 0 n n (n * 5) 5 false, .ref 82 0 n n n 1 false]⟩), (9, ⟨.box, [.ref 15 0 n n (n * 5) 5 false, .ref 82 0 n n n 1 false]⟩), (15, ⟨.row, cls lc ls⟩), (82, ⟨.row, ucs B⟩)])) := by
 have hle := h.le
 have hx : ls[i]? = some (ls.getD i default) := Z09 (by rw [h.l]; exact hi)
 have hd : ds[i]? = some (ds.getD i 0) := Z09 (l := ds) (by omega)
 have f0 : (cls lc ls)[i * 5 + 0]? = some (.int .i64 (ls.getD i default).lo) := Z3C ZJ hx (by omega)
 have f1 : (cls lc ls)[i * 5 + 1]? = some (.int .i64 (ls.getD i default).hi) := Z3C ZJ hx (by omega)
 rw [Nat.add_zero] at f0
 have hlen : (cls lc ls).length = n * 5 := by rw [Zv ZJ, h.l]
 have had := Z38 hd
 have hdl := ZC ds
 have g1 : (i : Int) < ds.length := by omega
 have g2 : (i : Int) < n := by omega
 unfold dayE at h0
 have hor : ds.getD i 0 < (ls.getD i default).lo ∨ ds.getD i 0 > (ls.getD i default).hi := by
   refine Classical.byContradiction fun hc => h0 ?_
   rw [if_neg hc]
 clear h0
 generalize ls.getD i default = x at *
 generalize ds.getD i 0 = z at *
 simp only [apS]
 by_cases c1 : z < x.lo
 · simp (disch := omega) only [Z01, Z9, ZT, ↓gd, ZN, Bool.not_false, Zc, Za, Z4, Z2, Z3, Z0, Zd, Zi, Zo, Zj, stp, opPick, just, Rd.bind, Rd.run, Rd.opt, upds, acells, tsz, rdCells, fieldOf, Zb, aLoad, aStore, opStore, Z6, aNum, aBin, aInt, putC, Nat.reduceAdd, Nat.reduceLT, Nat.reduceBEq, Nat.reduceEqDiff, Nat.reduceLeDiff, ↓reduceIte, reduceCtorEq, Ze, Nat.zero_add, Nat.add_zero, Bool.not_false, Bool.and_true, decide_true, Z5, Zl, and_true, true_and, Int.natCast_nonneg, Int.toNat_natCast, snaps, List.append_nil, List.elem_cons, List.elem_nil, List.length_cons, List.length_nil, List.getElem?_cons_zero, List.drop_zero, List.take_succ_cons, List.take_nil, List.set_cons_zero, List.set_cons_succ, seqN, bindN, regN, ZH, Nat.le_refl, Int.reduceLE, Int.reduceToNat, Nat.mul_one, beq_self_eq_true, Bool.false_eq_true, T_3, T_36, Z0X, ZO, Z1j, beq_self_eq_true, ZiF, Zf3, Zge, Zlu, Zkd, ZiT, ZvW, Zhx, ZgR, ZhI, ZgN, ZgI, ZgE, ZtP, Zia, Zib, ZhU, Zhm, Zhr, Zh9, ZhZ, Zhz, Zhc, ZhF, Zh5, ZfG, ZfA, Zf9, ZfY, ZeK, ZeC, Zf8, ZeZ, ZwO, Zi0, ZgQ, ZhJ, ZhS, ZgO, Zu0, Zuo, ZvI, Zwl, Zus, ZtW, Zwv, Zv3, ZkH, ZkR, g1, g2, f0, hlen, had, hdl, c1, if_pos]
 · have c2 : z > x.hi := hor.resolve_left c1
   simp (disch := omega) only [Z01, Z9, ZT, ↓gd, ZN, Zc, Za, Z4, Z2, Z3, Z0, Zd, Zi, Zo, Zj, stp, opPick, just, Rd.bind, Rd.run, Rd.opt, upds, acells, tsz, rdCells, fieldOf, Zb, aLoad, aStore, opStore, Z6, aNum, aBin, aInt, putC, Nat.reduceAdd, Nat.reduceLT, Nat.reduceBEq, Nat.reduceEqDiff, Nat.reduceLeDiff, ↓reduceIte, Ze, Nat.zero_add, Nat.add_zero, Bool.and_true, decide_true, decide_false, Z5, Zl, and_true, true_and, Int.natCast_nonneg, Int.toNat_natCast, snaps, List.append_nil, List.elem_cons, List.elem_nil, List.length_cons, List.length_nil, List.getElem?_cons_zero, List.drop_zero, List.take_succ_cons, List.take_nil, List.set_cons_zero, List.set_cons_succ, seqN, bindN, regN, ZH, Nat.le_refl, Int.reduceLE, Int.reduceToNat, Nat.mul_one, beq_self_eq_true, Bool.false_eq_true, T_3, T_36, Z0X, ZO, Z1j, beq_self_eq_true, ZiF, Zf3, Zge, Zlu, Zkd, ZiT, ZvW, Zhx, ZgR, ZhI, ZgN, ZgI, ZgE, ZtP, Zia, Zib, ZhU, Zhm, Zhr, Zh9, ZhZ, Zhz, Zhc, ZhF, Zh5, ZfG, ZfA, Zf9, ZfY, ZeK, ZeC, Zf8, ZeZ, ZwO, Zi0, ZgQ, ZhJ, ZhS, ZgO, Zu0, Zuo, ZvI, Zwl, Zus, ZtW, Zwv, Zv3, ZkH, ZkR, g1, g2, f0, f1, hlen, had, hdl, c1, c2, if_pos]
theorem at_b {ls : List Ld} {B : List Nat} {n : Nat} (h : TrOk ls B n) {ds : List Int} (hl : ds.length = n) (h0 : firstE ds.length (dayE ls ds) = 0) (i : Nat) : 0 ≤ ds.getD i 0 ∧ ds.getD i 0 ≤ 1000 := by
 by_cases hi : i < ds.length
 · have := Z11.1 h0 i hi
   have hx := ZkB h (show i < n by omega)
   obtain ⟨x, x1, x2, _⟩ := hx
   unfold dayE at this
   rw [show ls.getD i default = x by simp [List.getD_eq_getElem?_getD, x1]] at this
   have h1 := x2.lo
   have h2 := x2.hi
   by_cases hc : ds.getD i 0 < x.lo ∨ x.hi < ds.getD i 0
   · rw [if_pos hc] at this; simp at this
   · omega
 · have : ds.getD i 0 = 0 := by simp [hi]
   omega
theorem Z0is {os : List Nat} {a : AV} (h : IV (os.map fun (i : Nat) => (i : Int)) a) (h0 : 0 < os.length) : ∃ ex, a = .imm (ins os) os.length ex := by
 rcases h with ⟨h, _⟩ | ⟨ex, rfl⟩
 · simp at h; subst h; simp at h0
 · exact ⟨ex, by rw [ZsO]; simp⟩
theorem Z0rD {l : List Int} {a : AV} (h : IV l a) (h0 : 0 < l.length) : ∃ ex, a = .imm (ics l) l.length ex := by
 rcases h with ⟨rfl, _⟩ | h
 · simp at h0
 · exact h
theorem Z0sh {d : Nat} {ls : List Ld} {es : List Pr} {a b c e : AV} {o ds : List Int} (ha : SV lc ls a) (hb : SV bc es b) (hc : IV o c) (he : IV ds e) (hm : o.length < 900) (hm2 : ds.length < 900) :
   (chk ls es ≠ 0 → ∃ H', bodyA E (callA E fg 1000 (d + 5)) fg 1000 114 [.agg [a, b], c, e] [] 0 = some (.tup [.agg [.nilsl, .nilsl], .nilsl, .int .i64 (toldE ls es o ds)], H')) ∧
   (chk ls es = 0 → toldE ls es o ds ≠ 0 → ∃ H', bodyA E (callA E fg 1000 (d + 5)) fg 1000 114 [.agg [a, b], c, e] [] 0 = some (.tup [.agg [.ref 15 0 ls.length ls.length (ls.length * 5) 5 false, .ref 82 0 ls.length ls.length ls.length 1 false], .nilsl, .int .i64 (toldE ls es o ds)], H') ∧ hget H' 15 = some ⟨.row, cls lc ls⟩ ∧ hget H' 82 = some ⟨.row, ucs (sets ls.length es)⟩) ∧
   (∀ os : List Nat, toldE ls es o ds = 0 → o = os.map (fun (i : Nat) => (i : Int)) → (∀ i ∈ os, i < os.length) → os.length = ls.length →
     ∃ H', bodyA E (callA E fg 1000 (d + 5)) fg 1000 114 [.agg [a, b], c, e] [] 0 = some (.tup [.agg [.ref 15 0 ls.length ls.length (ls.length * 5) 5 false, .ref 82 0 ls.length ls.length ls.length 1 false], .ref 66 0 ls.length ls.length ls.length 1 false, .int .i64 0], H') ∧ hget H' 15 = some ⟨.froz, cls lc ls⟩ ∧ hget H' 82 = some ⟨.froz, ucs (sets ls.length es)⟩ ∧ hget H' 66 = some ⟨.row, ics (arrL ds os)⟩) := by
 have sa := Z10 ha
 have sb := Z10 hb
 have sc := Z55 hc
 have se := Z55 he
 refine ⟨fun h => ?_, fun h ht => ?_, fun os ht ho hos hol => ?_⟩
 · have e1 : toldE ls es o ds = chk ls es := by unfold toldE validE; rw [if_pos h, if_pos h]
   rw [e1]
   have hr := fun (site : Nat → Nat) seen => Z0gK (d := d + 2) (site := site) (seen := seen) ha hb h
   generalize callA E fg 1000 (d + 5) = C at *
   generalize chk ls es = z at *
   simp (disch := omega) only [Z01, Z9, ZT, Zp, Zc, Za, Z4, Z2, Z3, Z0, Zk, Zd, Zq, Zi, Zm, Zj, stp, opBox, justO, just, Rd.bind, Rd.run, Rd.opt, upds, acells, zeroCells, tsz, rdCells, aLoad, aStore, opStore, Zx, resA, resL, fresh, aLen, Zf, aBin, aInt, putC, Nat.reduceAdd, Nat.reduceBEq, Nat.reduceEqDiff, Nat.reduceLeDiff, ↓reduceIte, reduceCtorEq, Ze, Nat.zero_add, bne_iff_ne, ne_eq, beq_iff_eq, List.nil_append, List.getElem?_toArray, not_false_eq_true, Z5, Zl, and_true, aCall, snaps, List.append_nil, Option.map_some, List.elem_cons, List.elem_nil, List.length_cons, List.length_nil, List.getElem?_cons_zero, List.getElem?_cons_succ, List.drop_zero, List.take_succ_cons, List.take_nil, List.set_cons_zero, List.set_cons_succ, Zs, seqN, bindN, regN, ZU, ZE, Nat.le_refl, List.not_mem_nil, beq_self_eq_true, Bool.false_eq_true, T_25, T_36, ZO, beq_self_eq_true, Ze7, Z6n, Z6N, Z7F, Z64, Z6d, ZcL, Z7s, Z8v, Z8Y, Z6T, Z8u, Z7e, Z7S, Z75, Z61, Zdt, Z8D, Z5S, Z6A, ZdO, Z6J, Z6j, Z66, Z7I, ZdW, Zdv, Zer, ZaA, Z5D, Z6s, Z84, Z81, ZaX, Z7y, Z6K, Z74, Z8g, Z5F, Z7x, ZaS, ZaN, ZaR, Z8x, Z5L, Z7t, ZaB, ZaV, ZaF, ZaU, ZaD, ZdR, ZdS, Zdz, Zl9, sa 196, sb 195, hr, h]
   exact ⟨_, rfl⟩
 · have hr := fun (site : Nat → Nat) seen hs => Z8E (d := d + 2) (site := site) (seen := seen) ha hb h hs
   obtain ⟨tr, ord, _, _⟩ := Z1x h
   have hlen : (cls lc ls).length = ls.length * 5 := Zv ZJ ls
   have hul : (ucs (sets ls.length es)).length = ls.length := by rw [Z05, tr.b]
   have t1 : List.take (ls.length * 5) (cls lc ls) = cls lc ls := Z3s ZJ ls
   have t2 : List.take ls.length (ucs (sets ls.length es)) = ucs (sets ls.length es) := List.take_of_length_le (by omega)
   have hoc := fun (site : Nat → Nat) seen => ZFT (d := d) (site := site) (seen := seen) (e1 := false) (e2 := false) tr hc hm
   have eV : validE ls es o = ordersE (sets ls.length es) ls.length o := by unfold validE; rw [if_neg (by simpa using h)]
   by_cases hv : validE ls es o = 0
   · have hsav := hv
     rw [eV] at hv
     obtain ⟨hon, os, rfl, hos1, hos2⟩ := Z0AN hv
     obtain ⟨x1, rfl⟩ := Z0is hc (by rw [hos1]; exact tr.ne)
     have hil := Zn os
     rw [hv] at hoc
     by_cases hd : ds.length = (os.map fun (i : Nat) => (i : Int)).length
     · have hE : toldE ls es (os.map fun (i : Nat) => (i : Int)) ds = firstE ds.length (dayE ls ds) := by unfold toldE; rw [if_neg (by simpa using hsav), if_neg (by simpa using hd)]
       rw [hE] at ht ⊢
       have hdl : ds.length = ls.length := by rw [hd]; simpa using hos1
       obtain ⟨x2, rfl⟩ := Z0rD he (by rw [hdl]; exact tr.ne)
       have hlt : fst1 ds.length (fun i => dayE ls ds i != 0) < ds.length := by
         refine Classical.byContradiction fun hc => ht ?_
         unfold firstE; rw [if_neg hc]
       have hat := Z6r hlt
       have hE1 : firstE ds.length (dayE ls ds) = 1 := by
         unfold firstE; rw [if_pos hlt]
         have : dayE ls ds (fst1 ds.length fun i => dayE ls ds i != 0) ≠ 0 := by simpa using hat
         unfold dayE at this ⊢
         split at this
         · rename_i hcc; rw [if_pos hcc]
         · simp at this
       rw [hE1]
       have hbad := Z0Ew (C := callA E fg 1000 (d + 5)) (x2 := x2) (os := os) (x1 := x1) tr hdl (fst1 ds.length fun i => dayE ls ds i != 0) (by omega) (by simpa using hat)
       have hgo := fun i (hi : i < fst1 ds.length fun i => dayE ls ds i != 0) => Z0rM (C := callA E fg 1000 (d + 5)) (x2 := x2) (os := os) (x1 := x1) tr hdl i (by omega) (by simpa using Z73 (p := fun i => dayE ls ds i != 0) hi)
       generalize callA E fg 1000 (d + 5) = C at *
       have hloop := Z0K (f := (execA E C (fg 114) 0 67 [] 1000 Z57)) (hd := headA []) (fun i => apS ls (sets ls.length es) ls.length ds x2 (.imm (ins os) os.length x1) i) (fst1 ds.length fun i => dayE ls ds i != 0) 1000 0
         ([(37, .int .i64 0), (36, .int .i64 ds.length), (35, .imm (ics ds) ds.length x2), (9, .ptr 9 0 2), (6, .ptr 6 0 2), (2, .imm (ics ds) ds.length x2), (1, .imm (ins os) os.length x1)],
           [(3, ⟨.box, [a, b]⟩), (6, ⟨.box, [.nilsl, .nilsl]⟩), (9, ⟨.box, [.ref 15 0 ls.length ls.length (ls.length * 5) 5 false, .ref 82 0 ls.length ls.length ls.length 1 false]⟩), (15, ⟨.row, cls lc ls⟩), (82, ⟨.row, ucs (sets ls.length es)⟩)])
         (by rcases ha with ⟨_, rfl⟩ | ⟨e, rfl⟩ <;> rcases hb with ⟨_, rfl⟩ | ⟨e', rfl⟩ <;> rfl) (by omega) (fun i _ hi => hgo i (by omega)) (by rw [Nat.zero_add]; exact hbad) (by simp)
       have hdl2 := ZC ds
       have g1 : ((ds.length : Int) = os.length) := by simp at hd; omega
       generalize sets ls.length es = B at *
       simp (disch := omega) only [Z01, Z9, Zh, ZT, Zp, Zc, Za, Z4, Z2, Z3, Z0, Zk, Zd, Zq, Zi, Zm, Zo, Zj, stp, opBox, justO, just, Rd.bind, Rd.run, Rd.opt, upds, acells, zeroCells, tsz, rdCells, aLoad, aStore, opStore, Zx, resA, resL, fresh, aLen, Zf, aBin, aInt, putC, Nat.reduceAdd, Nat.reduceMul, Nat.reduceBEq, Nat.reduceEqDiff, Nat.reduceLeDiff, ↓reduceIte, reduceCtorEq, Ze, Nat.zero_add, bne_iff_ne, ne_eq, List.nil_append, List.getElem?_toArray, Bool.and_true, decide_true, not_true_eq_false, Z5, Zl, and_true, aCall, snaps, List.append_nil, Option.map_some, List.elem_cons, List.elem_nil, List.length_cons, List.length_nil, List.getElem?_cons_zero, List.getElem?_cons_succ, List.drop_zero, List.take_succ_cons, List.take_nil, List.set_cons_zero, List.set_cons_succ, Zs, seqN, bindN, regN, Z0a, ZH, ZE, Z1V, List.cons_append, Nat.le_refl, Nat.mul_one, Nat.zero_mul, beq_self_eq_true, bne_self_eq_false, Bool.false_eq_true, T_25, T_36, ZO, beq_self_eq_true, Ze7, Z6n, Z6N, Z7F, Z64, Z6d, ZcL, Z7s, Z8v, Z8Y, Z6T, Z8u, Z7e, Z7S, Z75, Z61, Zdt, Z8D, Z5S, Z6A, ZdO, Z6J, Z6j, Z66, Z7I, Zbn, ZdW, Zdv, Zer, ZaA, Z5D, Z6s, Z84, Z81, ZaX, Z7y, Z6K, Z74, Z8g, Z5F, Z7x, ZaS, ZaN, ZaR, Z8x, Z5L, Z7t, ZeD, ZeH, Zgw, ZfD, Zim, ZfB, ZeN, Zfd, Zgv, Zg5, ZjY, ZiI, Zje, Zjh, ZaB, ZaV, ZaF, ZaU, Z01g, ZPp, ZD6, ZQ4, ZNl, Z0bx, Z09z, Z06P, Z02v, ZaD, ZdR, ZdS, Zdz, Zl9, sa 196, sb 195, hr, hlen, hul, t1, t2, hoc, eq_true g1, hloop]
       exact ⟨_, rfl, rfl, rfl⟩
     · have hE : toldE ls es (os.map fun (i : Nat) => (i : Int)) ds = 3 := by unfold toldE; rw [if_neg (by simpa using hsav), if_pos (by simpa using hd)]
       rw [hE]
       have g1 : ¬ ((ds.length : Int) = os.length) := by simp at hd; omega
       generalize callA E fg 1000 (d + 5) = C at *
       generalize sets ls.length es = B at *
       rcases he with ⟨rfl, rfl⟩ | ⟨x2, rfl⟩
       · simp only [List.length_nil, cl0] at g1
         simp (disch := omega) only [Z01, Z9, ZT, Zp, Zc, Za, Z4, Z2, Z3, Z0, Zk, Zd, Zq, Zi, Zm, Zj, stp, opBox, justO, just, Rd.bind, Rd.run, Rd.opt, upds, acells, zeroCells, tsz, rdCells, aLoad, aStore, opStore, Zx, resA, resL, fresh, aLen, Zf, aBin, aInt, putC, Nat.reduceAdd, Nat.reduceMul, Nat.reduceBEq, Nat.reduceEqDiff, Nat.reduceLeDiff, ↓reduceIte, reduceCtorEq, Ze, Nat.zero_add, bne_iff_ne, ne_eq, List.nil_append, List.getElem?_toArray, Bool.and_true, decide_true, not_false_eq_true, Z5, Zl, and_true, aCall, snaps, List.append_nil, Option.map_some, List.elem_cons, List.elem_nil, List.length_cons, List.length_nil, List.getElem?_cons_zero, List.getElem?_cons_succ, List.drop_zero, List.take_succ_cons, List.take_nil, List.set_cons_zero, List.set_cons_succ, Zs, seqN, bindN, regN, Z0a, ZH, ZE, Z1V, List.cons_append, Nat.le_refl, Nat.mul_one, Nat.zero_mul, beq_self_eq_true, bne_self_eq_false, Bool.false_eq_true, T_25, T_36, ZO, beq_self_eq_true, Ze7, Z6n, Z6N, Z7F, Z64, Z6d, ZcL, Z7s, Z8v, Z8Y, Z6T, Z8u, Z7e, Z7S, Z75, Z61, Zdt, Z8D, Z5S, Z6A, ZdO, Z6J, Z6j, Z66, Z7I, Zbn, ZdW, Zdv, Zer, ZaA, Z5D, Z6s, Z84, Z81, ZaX, Z7y, Z6K, Z74, Z8g, Z5F, Z7x, ZaS, ZaN, ZaR, Z8x, Z5L, Z7t, ZeD, ZeH, Zgw, ZfD, Zim, ZfB, ZeN, Zfd, Zgv, Zg5, ZjY, ZiI, Zje, Zjh, ZaB, ZaV, ZaF, ZaU, ZaD, ZdR, ZdS, Zdz, Zl9, sa 196, sb 195, hr, hlen, hul, t1, t2, hoc, g1]
         exact ⟨_, rfl, rfl, rfl⟩
       · have hdl2 := ZC ds
         simp (disch := omega) only [Z01, Z9, ZT, Zp, Zc, Za, Z4, Z2, Z3, Z0, Zk, Zd, Zq, Zi, Zm, Zj, stp, opBox, justO, just, Rd.bind, Rd.run, Rd.opt, upds, acells, zeroCells, tsz, rdCells, aLoad, aStore, opStore, Zx, resA, resL, fresh, aLen, Zf, aBin, aInt, putC, Nat.reduceAdd, Nat.reduceMul, Nat.reduceBEq, Nat.reduceEqDiff, Nat.reduceLeDiff, ↓reduceIte, reduceCtorEq, Ze, Nat.zero_add, bne_iff_ne, ne_eq, List.nil_append, List.getElem?_toArray, Bool.and_true, decide_true, not_false_eq_true, Z5, Zl, and_true, aCall, snaps, List.append_nil, Option.map_some, List.elem_cons, List.elem_nil, List.length_cons, List.length_nil, List.getElem?_cons_zero, List.getElem?_cons_succ, List.drop_zero, List.take_succ_cons, List.take_nil, List.set_cons_zero, List.set_cons_succ, Zs, seqN, bindN, regN, Z0a, ZH, ZE, Z1V, List.cons_append, Nat.le_refl, Nat.mul_one, Nat.zero_mul, beq_self_eq_true, bne_self_eq_false, Bool.false_eq_true, T_25, T_36, ZO, beq_self_eq_true, Ze7, Z6n, Z6N, Z7F, Z64, Z6d, ZcL, Z7s, Z8v, Z8Y, Z6T, Z8u, Z7e, Z7S, Z75, Z61, Zdt, Z8D, Z5S, Z6A, ZdO, Z6J, Z6j, Z66, Z7I, Zbn, ZdW, Zdv, Zer, ZaA, Z5D, Z6s, Z84, Z81, ZaX, Z7y, Z6K, Z74, Z8g, Z5F, Z7x, ZaS, ZaN, ZaR, Z8x, Z5L, Z7t, ZeD, ZeH, Zgw, ZfD, Zim, ZfB, ZeN, Zfd, Zgv, Zg5, ZjY, ZiI, Zje, Zjh, ZaB, ZaV, ZaF, ZaU, ZaD, ZdR, ZdS, Zdz, Zl9, sa 196, sb 195, hr, hlen, hul, t1, t2, hoc, g1]
         exact ⟨_, rfl, rfl, rfl⟩
   · have hE : toldE ls es o ds = ordersE (sets ls.length es) ls.length o := by unfold toldE; rw [if_pos (by simpa using hv), eV]
     rw [hE]
     rw [eV] at hv
     have hv' : ¬ ordersE (sets ls.length es) ls.length o = 0 := hv
     generalize ordersE (sets ls.length es) ls.length o = z at *
     generalize callA E fg 1000 (d + 5) = C at *
     generalize sets ls.length es = B at *
     simp (disch := omega) only [Z01, Z9, ZT, Zp, Zc, Za, Z4, Z2, Z3, Z0, Zk, Zd, Zq, Zi, Zm, Zj, stp, opBox, justO, just, Rd.bind, Rd.run, Rd.opt, upds, acells, zeroCells, tsz, rdCells, aLoad, aStore, opStore, Zx, resA, resL, fresh, aLen, Zf, aBin, aInt, putC, Nat.reduceAdd, Nat.reduceMul, Nat.reduceBEq, Nat.reduceEqDiff, Nat.reduceLeDiff, ↓reduceIte, reduceCtorEq, Ze, Nat.zero_add, bne_iff_ne, ne_eq, List.nil_append, List.getElem?_toArray, Bool.and_true, decide_true, not_false_eq_true, Z5, Zl, and_true, aCall, snaps, List.append_nil, Option.map_some, List.elem_cons, List.elem_nil, List.length_cons, List.length_nil, List.getElem?_cons_zero, List.getElem?_cons_succ, List.drop_zero, List.take_succ_cons, List.take_nil, List.set_cons_zero, List.set_cons_succ, Zs, seqN, bindN, regN, ZH, ZE, Z1V, List.cons_append, Nat.le_refl, Nat.mul_one, Nat.zero_mul, beq_self_eq_true, Bool.false_eq_true, T_25, T_36, ZO, beq_self_eq_true, Ze7, Z6n, Z6N, Z7F, Z64, Z6d, ZcL, Z7s, Z8v, Z8Y, Z6T, Z8u, Z7e, Z7S, Z75, Z61, Zdt, Z8D, Z5S, Z6A, ZdO, Z6J, Z6j, Z66, Z7I, Zbn, ZdW, Zdv, Zer, ZaA, Z5D, Z6s, Z84, Z81, ZaX, Z7y, Z6K, Z74, Z8g, Z5F, Z7x, ZaS, ZaN, ZaR, Z8x, Z5L, Z7t, ZaB, ZaV, ZaF, ZaU, ZaD, ZdR, ZdS, Zdz, Zl9, sa 196, sb 195, sc 197, hr, hlen, hul, t1, t2, hoc, hv']
     exact ⟨_, rfl, rfl, rfl⟩
 · have hvz : validE ls es o = 0 ∧ ds.length = o.length ∧ firstE ds.length (dayE ls ds) = 0 := by
     unfold toldE at ht
     split at ht
     · rename_i h1; exact absurd ht h1
     · rename_i h1
       split at ht
       · simp at ht
       · rename_i h2; exact ⟨by simpa using h1, by simpa using h2, ht⟩
   obtain ⟨hv, hd, hf⟩ := hvz
   have h : chk ls es = 0 := by
     unfold validE at hv
     split at hv
     · rename_i h1; exact absurd hv h1
     · rename_i h1; simpa using h1
   have hr := fun (site : Nat → Nat) seen hs => Z8E (d := d + 2) (site := site) (seen := seen) ha hb h hs
   obtain ⟨tr, ord, _, _⟩ := Z1x h
   have hlen : (cls lc ls).length = ls.length * 5 := Zv ZJ ls
   have hul : (ucs (sets ls.length es)).length = ls.length := by rw [Z05, tr.b]
   have t1 : List.take (ls.length * 5) (cls lc ls) = cls lc ls := Z3s ZJ ls
   have t2 : List.take ls.length (ucs (sets ls.length es)) = ucs (sets ls.length es) := List.take_of_length_le (by omega)
   have hoc := fun (site : Nat → Nat) seen => ZFT (d := d) (site := site) (seen := seen) (e1 := false) (e2 := false) tr hc hm
   have eV : validE ls es o = ordersE (sets ls.length es) ls.length o := by unfold validE; rw [if_neg (by simpa using h)]
   rw [← eV, hv] at hoc
   subst ho
   have hdl : ds.length = os.length := by rw [hd]; simp
   obtain ⟨x1, rfl⟩ := Z0is hc (by rw [hol]; exact tr.ne)
   obtain ⟨x2, rfl⟩ := Z0rD he (by rw [hdl, hol]; exact tr.ne)
   have hal := fun (site : Nat → Nat) seen (c : List AV) => Z0dX (d := d + 4) (site := site) (seen := seen) (x1 := x1) (x2 := x2) (c := c) hdl (by have := tr.le; omega) (by rw [hol]; exact tr.ne) hos (at_b tr (by omega) hf)
   have hgo := fun i (hi : i < ds.length) => Z0rM (C := callA E fg 1000 (d + 5)) (x2 := x2) (os := os) (x1 := x1) tr (by omega) i (by omega) (Z11.1 hf i hi)
   have hle := tr.le
   generalize callA E fg 1000 (d + 5) = C at *
   have hloop := Z0K (f := (execA E C (fg 114) 0 67 [] 1000 Z57)) (hd := headA []) (fun i => apS ls (sets ls.length es) ls.length ds x2 (.imm (ins os) os.length x1) i) ds.length 1000 0
     ([(37, .int .i64 0), (36, .int .i64 ds.length), (35, .imm (ics ds) ds.length x2), (9, .ptr 9 0 2), (6, .ptr 6 0 2), (2, .imm (ics ds) ds.length x2), (1, .imm (ins os) os.length x1)],
       [(3, ⟨.box, [a, b]⟩), (6, ⟨.box, [.nilsl, .nilsl]⟩), (9, ⟨.box, [.ref 15 0 ls.length ls.length (ls.length * 5) 5 false, .ref 82 0 ls.length ls.length ls.length 1 false]⟩), (15, ⟨.row, cls lc ls⟩), (82, ⟨.row, ucs (sets ls.length es)⟩)])
     (by rcases ha with ⟨_, rfl⟩ | ⟨e, rfl⟩ <;> rcases hb with ⟨_, rfl⟩ | ⟨e', rfl⟩ <;> rfl) (by omega) (fun i _ hi => hgo i (by omega))
     (e := .exit 1) (se := ([(38, .bool false), (37, .int .i64 ds.length), (36, .int .i64 ds.length), (35, .imm (ics ds) ds.length x2), (9, .ptr 9 0 2), (6, .ptr 6 0 2), (2, .imm (ics ds) ds.length x2), (1, .imm (ins os) os.length x1)],
       [(6, ⟨.box, [.nilsl, .nilsl]⟩), (9, ⟨.box, [.ref 15 0 ls.length ls.length (ls.length * 5) 5 false, .ref 82 0 ls.length ls.length ls.length 1 false]⟩), (15, ⟨.row, cls lc ls⟩), (82, ⟨.row, ucs (sets ls.length es)⟩)]))
     (by
       rw [Nat.zero_add]
       simp only [apS]
       simp (disch := omega) only [ZG, Z9, Zc, Za, Z4, Z2, Z3, Z0, Zo, stp, just, Rd.bind, Rd.run, Rd.opt, upds, aBin, aInt, Nat.reduceEqDiff, Nat.reduceLeDiff, ↓reduceIte, decide_false, Z5, List.elem_nil, seqN, bindN, regN, Int.lt_irrefl, Bool.false_eq_true, ZiF, Zf3, Zge, Zlu, Zkd, ZiT, ZkH, ZkR]) (by simp)
   have hil := Zn os
   have hdl2 := ZC ds
   have g1 : ((ds.length : Int) = os.length) := by omega
   have hil3 : (ics (arrL ds os)).length = os.length := by rw [ZC]; exact Z1e ds os.length os
   generalize sets ls.length es = B at *
   simp (disch := omega) only [Z9, Zz, Zh, Bool.not_true, Bool.not_false, Zp, Zc, Za, Z4, Z2, Z3, Z0, Zk, Zd, Zq, Zi, Zm, Zo, Zj, stp, opBox, justO, just, Rd.bind, Rd.run, Rd.opt, upds, acells, zeroCells, tsz, rdCells, aLoad, aStore, opStore, Zx, resA, resL, fresh, aLen, Zf, aBin, aInt, putC, Nat.reduceAdd, Nat.reduceMul, Nat.reduceBEq, Nat.reduceEqDiff, Nat.reduceLeDiff, ↓reduceIte, reduceCtorEq, Ze, Nat.zero_add, bne_iff_ne, ne_eq, List.nil_append, List.getElem?_toArray, ZS, ZR, ZX, ZW, ZM, Z02, ZD, ZA, ZP, ZL, stpT, Rd.foot, writing, Zr, Tr.empty, Zu, apartT, disj, List.isEmpty_nil, List.isEmpty_cons, List.map_nil, List.map_cons, Bool.not_false, Bool.not_true, Bool.true_or, Bool.or_true, Bool.or_false, Bool.and_true, Bool.true_and, Bool.and_self, decide_true, not_true_eq_false, Z5, Zl, and_true, aCall, snaps, List.append_nil, Option.map_some, List.elem_cons, List.elem_nil, List.length_cons, List.length_nil, List.getElem?_cons_zero, List.getElem?_cons_succ, List.drop_zero, List.take_succ_cons, List.take_nil, List.set_cons_zero, List.set_cons_succ, Zs, Zdm, Z63, seqN, bindN, regN, Z0a, ZH, ZE, List.all_cons, List.all_nil, Z0Z, ZaG, Z1V, List.cons_append, Nat.le_refl, Nat.mul_one, Nat.zero_mul, beq_self_eq_true, bne_self_eq_false, Bool.false_eq_true, T_25, T_36, ZO, List.all_cons, List.all_nil, List.getD_cons_zero, List.getD_cons_succ, beq_self_eq_true, Ze7, Z6n, Z6N, Z7F, Z64, Z6d, ZcL, Z7s, Z8v, Z8Y, Z6T, Z8u, Z7e, Z7S, Z75, Z61, Zdt, Z8D, Z5S, Z6A, ZdO, Z6J, Z6j, Z66, Z7I, Zbn, ZdW, Zdv, Zer, ZaA, Z5D, Z6s, Z84, Z81, ZaX, Z7y, Z6K, Z74, Z8g, Z5F, Z7x, ZaS, ZaN, ZaR, Z8x, Z5L, Z7t, ZeD, ZeH, Zgw, ZfD, Zim, ZfB, ZeN, Zfd, Zgv, Zg5, ZjY, ZiI, Zje, Zjh, ZaB, ZaV, ZaF, ZaU, Z01g, ZPp, ZD6, ZQ4, ZNl, Z0bx, Z09z, Z06P, Z0zi, Z0fu, Z0du, Z0dV, Z0fX, Z0il, Z0fw, Z0h5, Z0fn, Z0kT, Z0ju, Z0fI, Z0zj, Z0wT, Z02v, ZaD, ZdR, ZdS, Zdz, Zl9, sa 196, sb 195, hr, hlen, hul, t1, t2, hoc, hal, eq_true g1, hloop]
   rw [hol]
   exact ⟨_, rfl, rfl, rfl, rfl⟩
end Go.AM.YtgfnbmfjbjopkaaDoor
end
noncomputable section
namespace Go.AM.YtgfnbmfjbjopkaaDoor
open Go Go.AM Go.AM.Mule
theorem Z0mt {C : Callee} {site : Nat → Nat} {seen : List Nat} {f : FuncId} {args : List AV} {id id' n n' g g' sz sz' : Nat} {cells cells' : List AV} {k : IntKind} {z : Int} {H' : AHeap} (h : C f args [] 0 = some (.tup [.agg [.ref id 0 n n g sz false, .ref id' 0 n' n' g' sz' false], .nilsl, .int k z], H')) (hg : hget H' id = some ⟨.row, cells⟩) (hg' : hget H' id' = some ⟨.row, cells'⟩) (hne : id' ≠ id) (hs : site 1 ≠ site 0) (e1 : cells.length = g) (e2 : cells'.length = g') :
   aBack site true seen (thaw C f args [] 0) = back2 (site 0) (site 1) seen (fun k0 k1 => .tup [.agg [.ref k0 0 n n g sz false, .ref k1 0 n' n' g' sz' false], .nilsl, .int k z]) ⟨.row, cells⟩ ⟨.row, cells'⟩ := by
 subst e1; subst e2
 have hb : ∀ off, (site 1 + off == site 0 + off) = false := fun off => by rw [beq_eq_false_iff_ne]; omega
 simp only [thaw, h, frzRet, aBack, sitesB, aBackAt, imp, imps, hg, hg', hne, hb, List.length_nil, List.length_cons, List.not_mem_nil, List.mem_cons, or_false, not_false_eq_true, and_true, if_true, List.map_cons, List.map_nil, AM.apart, List.elem_cons, List.elem_nil, Bool.not_false, Bool.and_true, AV.leads, AV.leads.leadsL, Bool.or_false, Bool.true_or, Nat.zero_add, back2]
theorem Z0nX {C : Callee} {site : Nat → Nat} {seen : List Nat} {f : FuncId} {args : List AV} {id id' i2 n n' m g g' g2 sz sz' s2 : Nat} {cells cells' c2 : List AV} {k : IntKind} {z : Int} {H' : AHeap} (h : C f args [] 0 = some (.tup [.agg [.ref id 0 n n g sz false, .ref id' 0 n' n' g' sz' false], .ref i2 0 m m g2 s2 false, .int k z], H')) (hg : hget H' id = some ⟨.froz, cells⟩) (hg' : hget H' id' = some ⟨.froz, cells'⟩) (hg2 : hget H' i2 = some ⟨.row, c2⟩) (e1 : cells.length = g) (e2 : cells'.length = g') (e3 : c2.length = g2) (l1 : n * sz = g) (l2 : n' * sz' = g') :
   aBack site true seen (thaw C f args [] 0) = back1 (site 0) seen (fun k0 => .tup [.agg [.imm cells n false, .imm cells' n' false], .ref k0 0 m m g2 s2 false, .int k z]) ⟨.row, c2⟩ := by
 subst e1; subst e2; subst e3
 simp only [thaw, h, frzRet, aBack, sitesB, aBackAt, imp, imps, hg, hg', hg2, l1, l2, List.drop_zero, List.take_length, Nat.zero_add, Nat.le_refl, and_self, Bool.false_and, List.length_nil, List.not_mem_nil, not_false_eq_true, if_true, List.map_cons, List.map_nil, AM.apart, List.elem_nil, Bool.not_false, Bool.and_true, AV.leads, AV.leads.leadsL, Bool.or_false, Bool.true_or, back1]
structure ArC (C : Callee) (ls : List Ld) (es : List Pr) (o ds : List Int) (a b c e : AV) : Prop where
 bad : chk ls es ≠ 0 → ∀ (site : Nat → Nat) seen, aBack site true seen (thaw C 114 [.agg [a, b], c, e] [] 0) = .pure (.tup [.agg [.nilsl, .nilsl], .nilsl, .int .i64 (toldE ls es o ds)], [])
 mid : chk ls es = 0 → toldE ls es o ds ≠ 0 → ∀ (site : Nat → Nat) seen, site 1 ≠ site 0 → aBack site true seen (thaw C 114 [.agg [a, b], c, e] [] 0) =
   back2 (site 0) (site 1) seen (fun k0 k1 => .tup [.agg [.ref k0 0 ls.length ls.length (ls.length * 5) 5 false, .ref k1 0 ls.length ls.length ls.length 1 false], .nilsl, .int .i64 (toldE ls es o ds)]) ⟨.row, cls lc ls⟩ ⟨.row, ucs (sets ls.length es)⟩
 good : ∀ os : List Nat, toldE ls es o ds = 0 → o = os.map (fun (i : Nat) => (i : Int)) → (∀ i ∈ os, i < os.length) → os.length = ls.length → ∀ (site : Nat → Nat) seen, aBack site true seen (thaw C 114 [.agg [a, b], c, e] [] 0) =
   back1 (site 0) seen (fun k0 => .tup [.agg [.imm (cls lc ls) ls.length false, .imm (ucs (sets ls.length es)) ls.length false], .ref k0 0 ls.length ls.length ls.length 1 false, .int .i64 0]) ⟨.row, ics (arrL ds os)⟩
theorem Zgi {ls : List Ld} {es : List Pr} {o ds : List Int} (ht : toldE ls es o ds = 0) : chk ls es = 0 ∧ ordersE (sets ls.length es) ls.length o = 0 ∧ ds.length = o.length ∧ firstE ds.length (dayE ls ds) = 0 := by
 unfold toldE at ht
 split at ht
 · rename_i h1; exact absurd ht h1
 · rename_i h1
   split at ht
   · simp at ht
   · rename_i h2
     have hv : validE ls es o = 0 := by simpa using h1
     unfold validE at hv
     split at hv
     · rename_i h3; exact absurd hv h3
     · rename_i h3; exact ⟨by simpa using h3, hv, by simpa using h2, ht⟩
theorem arC (d : Nat) {ls : List Ld} {es : List Pr} {a b c e : AV} {o ds : List Int} (ha : SV lc ls a) (hb : SV bc es b) (hc : IV o c) (he : IV ds e) (hm : o.length < 900) (hm2 : ds.length < 900) : ArC (callA E fg 1000 (d + 6)) ls es o ds a b c e := by
 obtain ⟨h1, h2, h3⟩ := Z0sh (d := d) ha hb hc he hm hm2
 refine ⟨fun h site seen => ?_, fun h ht site seen hs => ?_, fun os ht ho hos hol site seen => ?_⟩
 · obtain ⟨H', g⟩ := h1 h
   exact Z1p g rfl (fun _ => rfl) rfl
 · obtain ⟨H', g1, g2, g3⟩ := h2 h ht
   have tr := (Z1x h).1
   exact Z0mt g1 g2 g3 (by omega) hs (Zv ZJ ls) (by rw [Z05, tr.b])
 · obtain ⟨H', g1, g2, g3, g4⟩ := h3 os ht ho hos hol
   have tr := (Z1x (Zgi ht).1).1
   exact Z0nX g1 g2 g3 g4 (Zv ZJ ls) (by rw [Z05, tr.b]) (by rw [ZC, ← hol]; exact Z1e ds os.length os) rfl (by omega)
theorem Z0jl {C : Callee} {ls : List Ld} {es : List Pr} {a b c e : AV} {o ds : List Int} (hC : ArC C ls es o ds a b c e) (ha : SV lc ls a) (hb : SV bc es b) (hc : IV o c) (he : IV ds e) (h : toldE ls es o ds ≠ 0) :
   rsOf (bodyA E C fg 1000 48 [.agg [a, b], c, e] [] 0) = some (.tup [.nilsl, .int .i64 (toldE ls es o ds)]) := by
 have sa := Z10 ha
 have sb := Z10 hb
 have sc := Z55 hc
 have se := Z55 he
 by_cases hk : chk ls es = 0
 · have hr := hC.mid hk h
   have hlen : (cls lc ls).length = ls.length * 5 := Zv ZJ ls
   have hul : (ucs (sets ls.length es)).length = ls.length := by rw [Z05, (Z1x hk).1.b]
   generalize toldE ls es o ds = z at *
   generalize sets ls.length es = B at *
   have hloop := Z0K (f := (execA E C (fg 48) 0 41 [] 1000 Zcf)) (hd := headA []) (fun _ => ([(22, .int .i64 0), (21, .int .i64 0), (10, .int .i64 z), (9, .nilsl), (8, .ptr 8 0 2)], [(8, ⟨.box, [.ref 16 0 ls.length ls.length (ls.length * 5) 5 false, .ref 57 0 ls.length ls.length ls.length 1 false]⟩), (16, ⟨.row, cls lc ls⟩), (57, ⟨.row, ucs B⟩)])) 0 1000 0
     ([(22, .int .i64 0), (21, .int .i64 0), (10, .int .i64 z), (9, .nilsl), (8, .ptr 8 0 2)], [(3, ⟨.box, [a, b]⟩), (8, ⟨.box, [.ref 16 0 ls.length ls.length (ls.length * 5) 5 false, .ref 57 0 ls.length ls.length ls.length 1 false]⟩), (16, ⟨.row, cls lc ls⟩), (57, ⟨.row, ucs B⟩)])
     (by rcases ha with ⟨_, rfl⟩ | ⟨e, rfl⟩ <;> rcases hb with ⟨_, rfl⟩ | ⟨e', rfl⟩ <;> rfl) (by omega) (fun i _ hi => by omega)
     (e := .exit 0) (se := ([(23, .bool false), (22, .int .i64 0), (21, .int .i64 0), (10, .int .i64 z), (9, .nilsl), (8, .ptr 8 0 2)], [(8, ⟨.box, [.ref 16 0 ls.length ls.length (ls.length * 5) 5 false, .ref 57 0 ls.length ls.length ls.length 1 false]⟩), (16, ⟨.row, cls lc ls⟩), (57, ⟨.row, ucs B⟩)]))
     (by simp (disch := omega) only [ZG, Z9, Zc, Za, Z4, Z2, Z3, Z0, Zo, stp, just, Rd.bind, Rd.run, Rd.opt, upds, aBin, aInt, Nat.reduceEqDiff, Nat.reduceLeDiff, ↓reduceIte, decide_false, Z5, List.elem_nil, seqN, bindN, regN, Int.lt_irrefl, Bool.false_eq_true, ZnL, Zj9, Zk3, Zq6, Zq8, ZoT, Zoy, ZBw]) (by simp)
   simp (disch := omega) only [Zz, Zp, Zc, Za, Z4, Z0e, Z2, Z3, Z0, Zk, Zd, Zq, Zi, Zm, Zj, stp, opBox, justO, just, Rd.bind, Rd.run, Rd.opt, upds, acells, zeroCells, tsz, rdCells, aLoad, aStore, opStore, Zx, resA, resL, fresh, aLen, Zf, putC, Nat.reduceAdd, Nat.reduceMul, Nat.reduceBEq, Nat.reduceEqDiff, Nat.reduceLeDiff, ↓reduceIte, reduceCtorEq, Ze, Nat.zero_add, List.nil_append, List.getElem?_toArray, Bool.and_true, decide_true, Z5, Zl, and_true, aCall, snaps, List.append_nil, Option.map_some, List.elem_cons, List.elem_nil, List.length_cons, List.length_nil, List.getElem?_cons_zero, List.getElem?_cons_succ, List.drop_zero, List.take_succ_cons, List.take_nil, List.set_cons_zero, List.set_cons_succ, Zs, seqN, bindN, regN, ZH, ZE, Z1V, Nat.le_refl, Nat.mul_one, Nat.zero_mul, beq_self_eq_true, Bool.false_eq_true, T_25, T_36, ZO, beq_self_eq_true, Z0cX, Zv4, Zv7, ZuC, Zwy, Z0cW, Zv9, ZsX, Zww, Zte, Zv8, Zt5, Zuj, ZsM, ZwC, ZvB, Zty, ZlY, ZlW, Z0d6, Zu4, Zuq, Zva, ZtF, Z0eX, Z0cV, Z0dc, ZNa, ZtY, Zvw, Zwk, ZtA, Zvg, ZFH, ZUn, Z0dF, Z0dv, Z0dW, b_48, sa 196, sb 195, sc 197, se 196, hr, hloop]
 · have hr := hC.bad hk
   generalize toldE ls es o ds = z at *
   have hloop := Z0K (f := (execA E C (fg 48) 0 41 [] 1000 Zcf)) (hd := headA []) (fun _ => ([(22, .int .i64 0), (21, .int .i64 0), (10, .int .i64 z), (9, .nilsl), (8, .ptr 8 0 2)], [(8, ⟨.box, [.nilsl, .nilsl]⟩)])) 0 1000 0
     ([(22, .int .i64 0), (21, .int .i64 0), (10, .int .i64 z), (9, .nilsl), (8, .ptr 8 0 2)], [(3, ⟨.box, [a, b]⟩), (8, ⟨.box, [.nilsl, .nilsl]⟩)])
     (by rcases ha with ⟨_, rfl⟩ | ⟨e, rfl⟩ <;> rcases hb with ⟨_, rfl⟩ | ⟨e', rfl⟩ <;> rfl) (by omega) (fun i _ hi => by omega)
     (e := .exit 0) (se := ([(23, .bool false), (22, .int .i64 0), (21, .int .i64 0), (10, .int .i64 z), (9, .nilsl), (8, .ptr 8 0 2)], [(8, ⟨.box, [.nilsl, .nilsl]⟩)]))
     (by simp (disch := omega) only [ZG, Z9, Zc, Za, Z4, Z2, Z3, Z0, Zo, stp, just, Rd.bind, Rd.run, Rd.opt, upds, aBin, aInt, Nat.reduceEqDiff, Nat.reduceLeDiff, ↓reduceIte, decide_false, Z5, List.elem_nil, seqN, bindN, regN, Int.lt_irrefl, Bool.false_eq_true, ZnL, Zj9, Zk3, Zq6, Zq8, ZoT, Zoy, ZBw]) (by simp)
   simp (disch := omega) only [Zz, Zp, Zc, Za, Z4, Z0e, Z2, Z3, Z0, Zk, Zd, Zq, Zi, Zm, Zj, stp, opBox, justO, just, Rd.bind, Rd.run, Rd.opt, upds, acells, zeroCells, tsz, rdCells, aLoad, aStore, opStore, Zx, resA, resL, fresh, aLen, Zf, putC, Nat.reduceAdd, Nat.reduceBEq, Nat.reduceEqDiff, Nat.reduceLeDiff, ↓reduceIte, reduceCtorEq, Ze, Nat.zero_add, List.nil_append, List.getElem?_toArray, Z5, Zl, and_true, aCall, snaps, List.append_nil, Option.map_some, List.elem_cons, List.elem_nil, List.length_cons, List.length_nil, List.getElem?_cons_zero, List.getElem?_cons_succ, List.drop_zero, List.take_succ_cons, List.take_nil, List.set_cons_zero, List.set_cons_succ, Zs, seqN, bindN, regN, ZU, ZE, Nat.le_refl, List.not_mem_nil, beq_self_eq_true, Bool.false_eq_true, T_25, T_36, ZO, beq_self_eq_true, Z0cX, Zv4, Zv7, ZuC, Zwy, Z0cW, Zv9, ZsX, Zww, Zte, Zv8, Zt5, Zuj, ZsM, ZwC, ZvB, Zty, ZlY, ZlW, Z0d6, Zu4, Zuq, Zva, ZtF, Z0eX, Z0cV, Z0dc, ZNa, ZtY, Zvw, Zwk, ZtA, Zvg, ZFH, ZUn, Z0dF, Z0dv, Z0dW, b_48, sa 196, sb 195, sc 197, se 196, hr, hloop]
def cstL (ls : List Ld) (l : List Int) : List Int := (List.range l.length).map fun i => cF ls i (l.getD i 0)
theorem Z7f (ls l) : (cstL ls l).length = l.length := by simp [cstL]
abbrev csS (ls : List Ld) (B : List Nat) (n : Nat) (l : List Int) (i : Nat) : St :=
 ([(22, .int .i64 i), (21, .int .i64 n), (10, .int .i64 0), (9, .ref 16 0 n n n 1 false), (8, .ptr 8 0 2)], [(8, ⟨.box, [.imm (cls lc ls) n false, .imm (ucs B) n false]⟩), (16, ⟨.row, ics ((cstL ls l).take i ++ l.drop i)⟩)])
theorem Z0Hl {C : Callee} {ls : List Ld} {B : List Nat} {n : Nat} {l : List Int} (h : TrOk ls B n) (hl : l.length = n) (hb : ∀ z ∈ l, 0 ≤ z ∧ z ≤ 1000) (i : Nat) (hi : i < n)
   (hc : ∀ (site : Nat → Nat) seen l day, LdOk l → 0 ≤ day ∧ day ≤ 1000 → aBack site true seen (thaw C 99 [.agg (lc l), .int .i64 day] [] 0) = .pure (.int .i64 (ldC l day), [])) :
   ∃ s', (execA E C (fg 48) 0 41 [] 1000 Zcf) (csS ls B n l i) = some (.normal, s') ∧ headA [] s' = csS ls B n l (i + 1) := by
 obtain ⟨y, y1, y2, y3⟩ := Zkn h hi
 have hk : l[i]? = some l[i] := List.getElem?_eq_getElem (by omega)
 have hz := hb l[i] (List.getElem_mem (by omega))
 have hc1 : ((cstL ls l).take i).length = i := by rw [List.length_take, Z7f]; omega
 have hat : ((cstL ls l).take i ++ l.drop i)[i]? = some l[i] := by
   rw [List.getElem?_append_right (by omega), hc1, Nat.sub_self, List.getElem?_drop, Nat.add_zero, hk]
 have hat2 := Z38 hat
 have hcost := fun site seen => hc site seen y l[i] y2 hz
 have hnew : ((cstL ls l).take i ++ l.drop i).set i (ldC y l[i]) = (cstL ls l).take (i + 1) ++ l.drop (i + 1) := by
   have e1 : (cstL ls l)[i]? = some (ldC y l[i]) := by
     rw [← y3]
     simp [cstL, show i < l.length by omega]
   rw [List.set_append_right _ _ (by omega), hc1, Nat.sub_self, List.take_add_one, e1, Option.toList_some, List.append_assoc]
   congr 1
   rw [List.drop_eq_getElem_cons (by omega), List.set_cons_zero]
   rfl
 have hlen1 : (ics ((cstL ls l).take i ++ l.drop i)).length = n := by rw [ZC, List.length_append, hc1, List.length_drop]; omega
 have hset := ZjS ((cstL ls l).take i ++ l.drop i) i (ldC y l[i])
 rw [hnew] at hset
 have ay := Z1D ZJ y1
 have hlen : (cls lc ls).length = n * 5 := by rw [Zv ZJ, h.l]
 have hle := h.le
 have g1 : (i : Int) < n := by omega
 simp only [csS]
 generalize l[i] = z at *
 generalize (cstL ls l).take (i + 1) ++ l.drop (i + 1) = L2 at *
 generalize (cstL ls l).take i ++ l.drop i = L1 at *
 simp only [lc] at ay hcost
 generalize ldC y z = cz at *
 simp (disch := omega) only [Z9, Zh, Bool.not_true, Bool.not_false, Zc, Za, Z4, Z2, Z3, Z0, Zd, Zi, Zo, Zj, stp, just, Rd.bind, Rd.run, Rd.opt, upds, acells, tsz, rdCells, fieldOf, Zb, aLoad, aStore, opStore, Z6, aNum, aBin, aInt, putC, Nat.reduceAdd, Nat.reduceLT, Nat.reduceBEq, Nat.reduceEqDiff, Nat.reduceLeDiff, ↓reduceIte, Ze, Nat.zero_add, Nat.add_zero, List.nil_append, ZS, ZR, ZX, ZW, ZM, Z02, ZD, ZA, ZP, ZL, stpT, Rd.foot, writing, Zr, Tr.empty, Zu, apartT, disj, List.isEmpty_nil, List.isEmpty_cons, List.map_nil, List.map_cons, Bool.not_false, Bool.not_true, Bool.true_or, Bool.or_true, Bool.or_false, Bool.and_true, Bool.true_and, Bool.and_self, decide_true, Z5, Zl, and_true, true_and, Int.natCast_nonneg, Int.toNat_natCast, aCall, snaps, List.append_nil, List.elem_cons, List.elem_nil, List.length_cons, List.length_nil, List.getElem?_cons_zero, Zs, seqN, bindN, regN, Zw, ZE, List.all_cons, List.all_nil, Nat.le_refl, Nat.mul_one, List.not_mem_nil, beq_self_eq_true, Bool.false_eq_true, T_3, T_36, Z0X, ZO, Z1j, List.all_cons, List.all_nil, List.getD_cons_zero, List.getD_cons_succ, beq_self_eq_true, ZnL, Zj9, Zk3, Zq6, Zq8, ZoT, Z0By, Z0ws, Z0tO, Z0wr, Z0DE, Z0wc, Z0mQ, Z0oA, Z0vW, Z0vb, Z0sd, Z0v3, Z0yt, Z0t5, Z0Av, Z0yk, Z0A5, Z0sj, Z0pL, Z0nU, Z0mX, Z0qH, Z0Cx, Z0Dg, Z0EC, Z0AL, Z0B0, Z0x0, Z0E0, Zoy, ZBw, g1, hat2, hlen1, hset, ay, hlen, hcost, if_pos, ZK (show i < 1000000 by omega)]
 exact ⟨_, rfl, rfl⟩
theorem Z02Q {ds : List Int} {n : Nat} (hb : ∀ i, 0 ≤ ds.getD i 0 ∧ ds.getD i 0 ≤ 9) : ∀ (o : List Nat) (p : Int × List Int) (m : Nat), 0 ≤ p.1 ∧ p.1 ≤ 9 * m → (∀ z ∈ p.2, 0 ≤ z ∧ z ≤ 9 * (m : Int)) → ∀ z ∈ (o.foldl (arrSt ds) p).2, 0 ≤ z ∧ z ≤ 9 * (m + o.length : Nat)
 | [], p, m, _, h2, z, hz => h2 z hz
 | i :: o, p, m, h1, h2, z, hz => by
   have := hb i
   have := Z02Q (n := n) hb o (arrSt ds p i) (m + 1) (by simp only [arrSt]; omega) (fun y hy => by
     simp only [arrSt] at hy
     rcases List.mem_or_eq_of_mem_set hy with h | h
     · have := h2 y h; omega
     · omega) z hz
   rw [List.length_cons]
   omega
theorem Z0qV {ls : List Ld} {B : List Nat} {n : Nat} (h : TrOk ls B n) {ds : List Int} (hl : ds.length = n) (h0 : firstE ds.length (dayE ls ds) = 0) (i : Nat) : 0 ≤ ds.getD i 0 ∧ ds.getD i 0 ≤ 9 := by
 by_cases hi : i < ds.length
 · have := Z11.1 h0 i hi
   have hx := ZkB h (show i < n by omega)
   obtain ⟨x, x1, x2, _⟩ := hx
   unfold dayE at this
   rw [show ls.getD i default = x by simp [List.getD_eq_getElem?_getD, x1]] at this
   have h1 := x2.lo
   have h2 := x2.hi
   by_cases hc : ds.getD i 0 < x.lo ∨ x.hi < ds.getD i 0
   · rw [if_pos hc] at this; simp at this
   · omega
 · have : ds.getD i 0 = 0 := by simp [hi]
   omega
theorem Z0kI {ds : List Int} {os : List Nat} (hb : ∀ i, 0 ≤ ds.getD i 0 ∧ ds.getD i 0 ≤ 9) (h6 : os.length ≤ 6) : ∀ z ∈ arrL ds os, 0 ≤ z ∧ z ≤ 1000 := by
 intro z hz
 have := Z02Q (n := os.length) hb os (0, List.replicate os.length 0) 0 (by simp) (fun y hy => by rw [List.eq_of_mem_replicate hy]; omega) z hz
 omega
theorem Z0d5 {d : Nat} {ls : List Ld} {es : List Pr} {a b c e : AV} {o ds : List Int} (hC : ArC (callA E fg 1000 (d + 1)) ls es o ds a b c e) (ha : SV lc ls a) (hb : SV bc es b) (hc : IV o c) (he : IV ds e) (h : toldE ls es o ds = 0) {os : List Nat} (ho : o = os.map (fun (i : Nat) => (i : Int))) (hos : ∀ i ∈ os, i < os.length) (hol : os.length = ls.length) :
   ∃ H', bodyA E (callA E fg 1000 (d + 1)) fg 1000 48 [.agg [a, b], c, e] [] 0 = some (.tup [.ref 16 0 ls.length ls.length ls.length 1 false, .int .i64 0], H') ∧ hget H' 16 = some ⟨.row, ics (cstL ls (arrL ds os))⟩ := by
 have sa := Z10 ha
 have sb := Z10 hb
 have sc := Z55 hc
 have se := Z55 he
 obtain ⟨k1, k2, k3, k4⟩ := Zgi h
 have tr := (Z1x k1).1
 have hr := hC.good os h ho hos hol
 have hal : (arrL ds os).length = ls.length := by rw [← hol]; exact Z1e ds os.length os
 have hil3 : (ics (arrL ds os)).length = ls.length := by rw [ZC, hal]
 have hil4 : (ics (cstL ls (arrL ds os))).length = ls.length := by rw [ZC, Z7f, hal]
 have hzb := Z0kI (ds := ds) (os := os) (Z0qV tr (by rw [k3, ho]; simpa using hol) k4) (by have := tr.le; omega)
 have hgo := fun i (hi : i < ls.length) => Z0Hl (C := callA E fg 1000 (d + 1)) tr hal hzb i hi (fun site seen l day h1 h2 => Zcn h1 h2)
 have hlen : (cls lc ls).length = ls.length * 5 := Zv ZJ ls
 have hul : (ucs (sets ls.length es)).length = ls.length := by rw [Z05, tr.b]
 have hle := tr.le
 generalize arrL ds os = l at *
 generalize callA E fg 1000 (d + 1) = C at *
 generalize sets ls.length es = B at *
 have hloop := Z0K (f := (execA E C (fg 48) 0 41 [] 1000 Zcf)) (hd := headA []) (csS ls B ls.length l) ls.length 1000 0
   ([(22, .int .i64 0), (21, .int .i64 ls.length), (10, .int .i64 0), (9, .ref 16 0 ls.length ls.length ls.length 1 false), (8, .ptr 8 0 2)], [(3, ⟨.box, [a, b]⟩), (8, ⟨.box, [.imm (cls lc ls) ls.length false, .imm (ucs B) ls.length false]⟩), (16, ⟨.row, ics l⟩)])
   (by rcases ha with ⟨_, rfl⟩ | ⟨e, rfl⟩ <;> rcases hb with ⟨_, rfl⟩ | ⟨e', rfl⟩ <;> rfl) (by omega) (fun i _ hi => hgo i (by omega))
   (e := .exit 0) (se := ([(23, .bool false), (22, .int .i64 ls.length), (21, .int .i64 ls.length), (10, .int .i64 0), (9, .ref 16 0 ls.length ls.length ls.length 1 false), (8, .ptr 8 0 2)], [(8, ⟨.box, [.imm (cls lc ls) ls.length false, .imm (ucs B) ls.length false]⟩), (16, ⟨.row, ics (cstL ls l)⟩)]))
   (by
     rw [Nat.zero_add]
     have e1 : (cstL ls l).take ls.length = cstL ls l := List.take_of_length_le (by rw [Z7f]; omega)
     have e2 : l.drop ls.length = [] := List.drop_of_length_le (by omega)
     simp only [csS, e1, e2, List.append_nil]
     simp (disch := omega) only [ZG, Z9, Zc, Za, Z4, Z2, Z3, Z0, Zo, stp, just, Rd.bind, Rd.run, Rd.opt, upds, aBin, aInt, Nat.reduceEqDiff, Nat.reduceLeDiff, ↓reduceIte, decide_false, Z5, List.elem_nil, seqN, bindN, regN, Int.lt_irrefl, Bool.false_eq_true, ZnL, Zj9, Zk3, Zq6, Zq8, ZoT, Zoy, ZBw]) (by simp)
 simp (disch := omega) only [Zz, Zp, Zc, Za, Z4, Z0e, Z2, Z3, Z0, Zk, Zd, Zq, Zi, Zm, Zj, stp, opBox, justO, just, Rd.bind, Rd.run, Rd.opt, upds, acells, zeroCells, tsz, rdCells, aLoad, aStore, opStore, Zx, resA, resL, fresh, aLen, Zf, putC, Nat.reduceAdd, Nat.reduceBEq, Nat.reduceEqDiff, Nat.reduceLeDiff, ↓reduceIte, reduceCtorEq, Ze, Nat.zero_add, List.nil_append, List.getElem?_toArray, Z5, Zl, and_true, aCall, snaps, List.append_nil, Option.map_some, List.elem_cons, List.elem_nil, List.length_cons, List.length_nil, List.getElem?_cons_zero, List.getElem?_cons_succ, List.drop_zero, List.take_succ_cons, List.take_nil, List.set_cons_zero, List.set_cons_succ, Zs, seqN, bindN, regN, Z0a, ZE, Z0Z, Nat.le_refl, Nat.zero_mul, List.not_mem_nil, beq_self_eq_true, Bool.false_eq_true, T_25, T_36, ZO, beq_self_eq_true, Z0cX, Zv4, Zv7, ZuC, Zwy, Z0cW, Zv9, ZsX, Zww, Zte, Zv8, Zt5, Zuj, ZsM, ZwC, ZvB, Zty, ZlY, ZlW, Z0d6, Zu4, Zuq, Zva, ZtF, Z0eX, Z0cV, Z0dc, ZNa, ZtY, Zvw, Zwk, ZtA, Zvg, ZFH, ZUn, Z0dF, Z0dv, Z0dW, b_48, sa 196, sb 195, sc 197, se 196, hr, hil3, hloop]
 exact ⟨_, rfl, rfl⟩
structure CsC (C : Callee) (ls : List Ld) (es : List Pr) (o ds : List Int) (a b c e : AV) : Prop where
 bad : toldE ls es o ds ≠ 0 → ∀ (site : Nat → Nat) seen, aBack site true seen (thaw C 48 [.agg [a, b], c, e] [] 0) = .pure (.tup [.nilsl, .int .i64 (toldE ls es o ds)], [])
 good : ∀ os : List Nat, toldE ls es o ds = 0 → o = os.map (fun (i : Nat) => (i : Int)) → (∀ i ∈ os, i < os.length) → os.length = ls.length → ∀ (site : Nat → Nat) seen, aBack site true seen (thaw C 48 [.agg [a, b], c, e] [] 0) =
   back1 (site 0) seen (fun k0 => .tup [.ref k0 0 ls.length ls.length ls.length 1 false, .int .i64 0]) ⟨.row, ics (cstL ls (arrL ds os))⟩
theorem csC (d : Nat) {ls : List Ld} {es : List Pr} {a b c e : AV} {o ds : List Int} (ha : SV lc ls a) (hb : SV bc es b) (hc : IV o c) (he : IV ds e) (hm : o.length < 900) (hm2 : ds.length < 900) : CsC (callA E fg 1000 (d + 7)) ls es o ds a b c e := by
 have hC := arC d ha hb hc he hm hm2
 refine ⟨fun h site seen => ?_, fun os h ho hos hol site seen => ?_⟩
 · exact ZKf (Z0O (Z0jl hC ha hb hc he h))
 · obtain ⟨H', g1, g2⟩ := Z0d5 (d := d + 5) hC ha hb hc he h ho hos hol
   have hal : (arrL ds os).length = ls.length := by rw [← hol]; exact Z1e ds os.length os
   have := ZhD (site := site) (seen := seen) (C := callA E fg 1000 (d + 7)) (f := 48) (args := [.agg [a, b], c, e]) (id := 16) (n := ls.length) (sz := 1) (k := .i64) (z := 0) (cells := ics (cstL ls (arrL ds os))) (H' := H') (by rw [ZC, Z7f, hal]; exact g1) g2
   rw [ZC, Z7f, hal] at this
   exact this
theorem Z0j5 {d : Nat} {ls : List Ld} {es : List Pr} {a b c e : AV} {o ds : List Int} (hC : CsC (callA E fg 1000 (d + 1)) ls es o ds a b c e) (ha : SV lc ls a) (hb : SV bc es b) (hc : IV o c) (he : IV ds e) (h : toldE ls es o ds = 0) {os : List Nat} (ho : o = os.map (fun (i : Nat) => (i : Int))) (hos : ∀ i ∈ os, i < os.length) (hol : os.length = ls.length) {x : Int} {l : List Int} (hx : cstL ls (arrL ds os) = x :: l) :
   rsOf (bodyA E (callA E fg 1000 (d + 1)) fg 1000 49 [.agg [a, b], c, e] [] 0) = some (.tup [.int .i64 (mxI x l), .int .i64 0]) := by
 have sa := Z10 ha
 have sb := Z10 hb
 have sc := Z55 hc
 have se := Z55 he
 have hr := hC.good os h ho hos hol
 have hal : (arrL ds os).length = ls.length := by rw [← hol]; exact Z1e ds os.length os
 have hln : (x :: l).length = ls.length := by rw [← hx, Z7f, hal]
 rw [hx] at hr
 have tr := (Z1x (Zgi h).1).1
 have hmx := fun (site : Nat → Nat) seen ex => Z0oi (d := d) (x := x) (l := l) (ex := ex) (site := site) (seen := seen) (by have := tr.le; simp only [List.length_cons] at hln; omega)
 rw [hln] at hmx
 have hil : (ics (x :: l)).length = ls.length := by rw [ZC, hln]
 have t1 : List.take ls.length (ics (x :: l)) = ics (x :: l) := List.take_of_length_le (by omega)
 generalize callA E fg 1000 (d + 1) = C at *
 simp (disch := omega) only [Z9, Zp, Zc, Za, Z4, Z0e, Z2, Z3, Z0, Zk, Zd, Zq, Zi, Zm, Zj, stp, opBox, justO, just, Rd.bind, Rd.run, Rd.opt, upds, acells, rdCells, aLoad, Zx, resA, resL, fresh, aBin, aInt, Nat.reduceAdd, Nat.reduceBEq, Nat.reduceEqDiff, Nat.reduceLeDiff, ↓reduceIte, reduceCtorEq, Ze, Nat.zero_add, List.nil_append, Bool.and_true, decide_true, Z5, aCall, snaps, List.append_nil, Option.map_some, List.elem_cons, List.elem_nil, List.length_cons, List.length_nil, List.getElem?_cons_zero, List.getElem?_cons_succ, List.drop_zero, List.take_succ_cons, List.take_nil, Zs, seqN, bindN, regN, ZH, ZE, Z0Z, Nat.le_refl, Nat.mul_one, Nat.zero_mul, beq_self_eq_true, bne_self_eq_false, Bool.false_eq_true, T_25, beq_self_eq_true, Z0Ic, Z0zv, Z0vF, Z0AP, Z0wW, Z0Gw, Z0to, Z0zD, Z0z5, Z0uV, Z0Ac, Z0uh, Z0sK, Z0yS, Z0zS, Z0sB, Z0Gb, Z0AH, Z0yX, Z0uK, Z0H7, Z0tm, Z0sb, Z0v2, Z0zs, Z0Bi, Z0Fw, Z0Dv, Z0FW, Z0I4, Z0D7, Z0AA, Z0wB, Z0tZ, Z0vP, Z0B4, Z0ES, Z0Du, Z0FR, Z0G3, Z0FO, b_49, sa 196, sb 195, sc 197, se 196, hr, hil, t1, hmx]
end Go.AM.YtgfnbmfjbjopkaaDoor
end
end
