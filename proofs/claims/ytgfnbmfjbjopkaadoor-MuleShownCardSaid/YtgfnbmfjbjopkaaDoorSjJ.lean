/- A part of the proof of muleShown_card: ShJ, ShK. Own work of this project; texts printed by own programs among it. -/
import Derived.KernelRfl
import Derived.Test.YtgfnbmfjbjopkaaDoorSjI
set_option maxRecDepth 1000000
set_option maxHeartbeats 16000000
noncomputable section
noncomputable section
namespace Go.AM.YtgfnbmfjbjopkaaDoor
open Go Go.AM Go.AM.Mule
theorem Zth : ∀ n, repC [.int .u64 0] n = ucs (List.replicate n 0)
 | 0 => rfl
 | n + 1 => by rw [repC, Zth n]; rfl
theorem Z0c7 {C : Callee} {ls : List Ld} {e : Bool} {n : Nat} : iterA (execA E C (fg 88) 0 156 [] 1000 Z13) (headA []) 1000 ([(67, .int .i64 0), (66, .int .i64 0), (65, .nilsl), (5, .ptr 5 0 2), (4, .int .i64 n), (2, .ptr 2 0 2), (1, .ptr 1 0 2)],
     h2H ls (.imm (cls lc ls) n e) .nilsl n (List.replicate n 0)) = some (.exit 4, ([(68, .bool false), (67, .int .i64 0), (66, .int .i64 0), (65, .nilsl), (5, .ptr 5 0 2), (4, .int .i64 n), (2, .ptr 2 0 2), (1, .ptr 1 0 2)],
     h2H ls (.imm (cls lc ls) n e) .nilsl n (List.replicate n 0))) :=
 Zew (f := (execA E C (fg 88) 0 156 [] 1000 Z13)) rfl (by simp (disch := omega) only [ZF, stp, just, Rd.bind, Rd.run, Rd.opt, upds, aBin, aInt, Nat.reduceEqDiff, Nat.reduceLeDiff, ↓reduceIte, F_88]) (by simp)
theorem ZJc {C : Callee} {ls : List Ld} {n : Nat} {B : List Nat} (hB : B.length = n) (hb : ∀ x ∈ B, x < 2 ^ n) (hn : n ≤ 6) {s0 : St} (h0 : headA [] s0 = h4S ls n B 0) :
   iterA (execA E C (fg 88) 0 156 [] 1000 Z5M) (headA []) 1000 s0 = some (.exit 7, ([(111, .bool false), (110, .int .i64 n), (109, .int .i64 n), (5, .ptr 5 0 2), (4, .int .i64 n), (2, .ptr 2 0 2)], h3H ls n (fw n B))) := by
 refine Z19 (fun k => h4S ls n ((List.range k).foldl (fwK n) B) k) n 1000 0 s0 h0 (by omega) (fun k _ hk => ?_) (e := .exit 7) ?_ (by simp)
 · have := Z0ly (C := C) (ls := ls) (B := (List.range k).foldl (fwK n) B) (by rw [Z3E, hB]) (Z6T hb n k) hn (show k < n by omega)
   rw [List.range_succ, List.foldl_append]; exact this
 · rw [Nat.zero_add, show (List.range n).foldl (fwK n) B = fw n B from rfl]
   simp (disch := omega) only [ZF, stp, just, Rd.bind, Rd.run, Rd.opt, upds, aBin, aInt, Nat.reduceEqDiff, Nat.reduceLeDiff, ↓reduceIte, F_88, h4S]
theorem ZJR {C : Callee} (hC : HaC C) {ls : List Ld} {es : List Pr} {a b : AV} (ha : SV lc ls a) (hb : SV bc es b) :
   (chk ls es ≠ 0 → ∃ H', bodyA E C fg 1000 88 [.agg [a, b]] [] 0 = some (.tup [.agg [.nilsl, .nilsl], .int .i64 (chk ls es)], H')) ∧
   (chk ls es = 0 → ∃ H', bodyA E C fg 1000 88 [.agg [a, b]] [] 0 = some (.tup [.agg [.ref 61 0 ls.length ls.length (ls.length * 5) 5 false, .ref 33 0 ls.length ls.length ls.length 1 false], .int .i64 0], H') ∧ hget H' 61 = some ⟨.row, cls lc ls⟩ ∧ hget H' 33 = some ⟨.row, ucs (sets ls.length es)⟩) := by
 rcases ha with ⟨rfl, rfl⟩ | ⟨e, rfl⟩
 · have : chk [] es = 4 := rfl
   rw [this]
   refine ⟨fun _ => ?_, fun h => by simp at h⟩
   simp (disch := omega) only [ZF, ↓gd, Z7, stp, opBox, justO, just, Rd.bind, Rd.run, Rd.opt, upds, acells, zeroCells, tsz, rdCells, fieldOf, Z3, aLoad, aStore, opStore, resA, resL, fresh, aLen, Z4, aBin, aInt, putC, Nat.reduceAdd, Nat.reduceBEq, Nat.reduceEqDiff, Nat.reduceLeDiff, ↓reduceIte, reduceCtorEq, partsOf, fillA, snaps, aBuild, ZT, F_88, if_pos]
   exact ⟨_, rfl⟩
 · by_cases hn0 : ls.length = 0
   · have h4 : chk ls es = 4 := by unfold chk; rw [if_pos hn0]
     rw [h4]
     refine ⟨fun _ => ?_, fun h => by simp at h⟩
     have hlen : (cls lc ls).length = ls.length * 5 := Z9 Zq ls
     simp (disch := omega) only [ZF, ↓gd, Z7, stp, opBox, justO, just, Rd.bind, Rd.run, Rd.opt, upds, acells, zeroCells, tsz, rdCells, fieldOf, Z3, aLoad, aStore, opStore, resA, resL, fresh, aLen, Z4, aBin, aInt, putC, Nat.reduceAdd, Nat.reduceBEq, Nat.reduceEqDiff, Nat.reduceLeDiff, ↓reduceIte, reduceCtorEq, partsOf, fillA, snaps, aBuild, ZT, F_88, hn0, if_pos, Int.natCast_zero]
     exact ⟨_, rfl⟩
   · have g0 : ¬ (ls.length : Int) = 0 := by omega
     have hbl : ∀ φ, ∃ m, (m = es.length) ∧ (just (aLen E.T 23 b)).run φ = some (.int .i64 (m : Int), []) := by
       intro φ
       rcases hb with ⟨rfl, rfl⟩ | ⟨e2, rfl⟩
       · exact ⟨0, rfl, rfl⟩
       · exact ⟨es.length, rfl, rfl⟩
     by_cases h6 : 6 < ls.length ∨ 15 < es.length
     · have h3 : chk ls es = 3 := by unfold chk; rw [if_neg hn0, if_pos h6]
       rw [h3]
       refine ⟨fun _ => ?_, fun h => by simp at h⟩
       by_cases h6a : 6 < ls.length
       · have g1 : (ls.length : Int) > 6 := by omega
         simp (disch := omega) only [ZF, ↓gd, Z7, stp, opPick, opBox, justO, just, Rd.bind, Rd.run, Rd.opt, upds, acells, zeroCells, tsz, rdCells, fieldOf, Z3, aLoad, aStore, opStore, resA, resL, fresh, aLen, Z4, aBin, aInt, putC, Nat.reduceAdd, Nat.reduceBEq, Nat.reduceEqDiff, Nat.reduceLeDiff, ↓reduceIte, reduceCtorEq, partsOf, fillA, snaps, aBuild, ZT, F_88, g0, g1]
         exact ⟨_, rfl⟩
       · have g1 : ¬ (ls.length : Int) > 6 := by omega
         have g2 : (es.length : Int) > 15 := by omega
         rcases hb with ⟨rfl, rfl⟩ | ⟨e2, rfl⟩
         · simp at h6; omega
         · simp (disch := omega) only [ZF, ↓gd, Z7, stp, opPick, opBox, justO, just, Rd.bind, Rd.run, Rd.opt, upds, acells, zeroCells, tsz, rdCells, fieldOf, Z3, aLoad, aStore, opStore, resA, resL, fresh, aLen, Z4, aBin, aInt, putC, Nat.reduceAdd, Nat.reduceBEq, Nat.reduceEqDiff, Nat.reduceLeDiff, ↓reduceIte, reduceCtorEq, partsOf, fillA, snaps, aBuild, ZT, F_88, g0, g1, g2]
           exact ⟨_, rfl⟩
     · have hn : ls.length ≤ 6 := by omega
       have hm : es.length ≤ 15 := by omega
       have g1 : ¬ (ls.length : Int) > 6 := by omega
       have g2 : ¬ (es.length : Int) > 15 := by omega
       have hbs : b = .nilsl ∨ ∃ c m ex, b = .imm c m ex := by
         rcases hb with ⟨rfl, rfl⟩ | ⟨e2, rfl⟩
         · exact .inl rfl
         · exact .inr ⟨_, _, _, rfl⟩
       have hz : (ucs (List.replicate ls.length 0)).length = ls.length := by rw [ZM, List.length_replicate]
       have hrep := Zth ls.length
       have hflat : [AV.int .u64 0].all AV.flat = true := rfl
       have hk : (ls.length : Int) ≤ kHi .i64 := by simp only [kHi]; omega
       have hby : ((8 : Nat) : Int) * (ls.length : Int) ≤ 281474976710656 := by omega
       rcases Z0dj (C := C) hC.rw_ (ls := ls) (e := e) (b := b) (z := ucs (List.replicate ls.length 0)) rfl hz hn (by omega) hbs with ⟨hE, H', hl1, hl2⟩ | ⟨hE, hl1⟩
       · have hc : chk ls es = ldsE ls := by unfold chk; rw [if_neg hn0, if_neg h6, if_pos hE]
         rw [hc]
         refine ⟨fun _ => ?_, fun h => absurd h hE⟩
         simp only [h1S, List.take_zero, Z9f, oV, oH, cl0] at hl1
         rcases hb with ⟨rfl, rfl⟩ | ⟨e2, rfl⟩
         · simp (disch := omega) only [ZF, ↓gd, Z7, stp, opPick, opBox, justO, just, Rd.bind, Rd.run, Rd.opt, upds, acells, zeroCells, tsz, elemT, rdCells, fieldOf, Z3, aLoad, aStore, opStore, resA, resL, fresh, aNum, aLen, Z4, aBin, aInt, putC, evO, Nat.reduceAdd, Nat.reduceLT, Nat.reduceBEq, Nat.reduceEqDiff, Nat.reduceLeDiff, ↓reduceIte, reduceCtorEq, partsOf, fillA, snaps, aBuild, placeF, ZT, F_88, g0, g1, aMake, hrep, hflat, hk, hby, hl1, hl2, if_pos]
           exact ⟨_, rfl⟩
         · simp (disch := omega) only [ZF, ↓gd, Z7, stp, opPick, opBox, justO, just, Rd.bind, Rd.run, Rd.opt, upds, acells, zeroCells, tsz, elemT, rdCells, fieldOf, Z3, aLoad, aStore, opStore, resA, resL, fresh, aNum, aLen, Z4, aBin, aInt, putC, evO, Nat.reduceAdd, Nat.reduceLT, Nat.reduceBEq, Nat.reduceEqDiff, Nat.reduceLeDiff, ↓reduceIte, reduceCtorEq, partsOf, fillA, snaps, aBuild, placeF, ZT, F_88, g0, g1, g2, aMake, hrep, hflat, hk, hby, hl1, hl2, if_pos]
           exact ⟨_, rfl⟩
       · simp only [h1S, List.take_zero, Z9f, oV, oH, cl0] at hl1
         have hlen : (cls lc ls).length = ls.length * 5 := Z9 Zq ls
         rcases hb with ⟨rfl, rfl⟩ | ⟨e2, rfl⟩
         · have hp : prsE ls.length [] = 0 := rfl
           have hl2 := Z0c7 (C := C) (ls := ls) (e := e) (n := ls.length)
           have hb0 : ∀ x ∈ List.replicate ls.length 0, x < 2 ^ ls.length := Zbr (es := []) (by simp)
           have hl4 := ZJc (C := C) (ls := ls) (B := List.replicate ls.length 0) (by simp) hb0 hn (s0 := ([(110, .int .i64 0), (109, .int .i64 ls.length), (5, .ptr 5 0 2), (4, .int .i64 ls.length), (2, .ptr 2 0 2)], h2H ls (.imm (cls lc ls) ls.length e) .nilsl ls.length (List.replicate ls.length 0))) rfl
           have hse : sets ls.length [] = fw ls.length (List.replicate ls.length 0) := rfl
           have hul : (ucs (fw ls.length (List.replicate ls.length 0))).length = ls.length := by rw [ZM]; exact Z3E _ _ _ |>.trans (by simp)
           have hc0 : chk ls [] = if clashB ls.length (sets ls.length []) = true then 13 else 0 := by
             unfold chk; rw [if_neg hn0, if_neg h6, if_neg (by simp [hE]), if_neg (by simp [hp])]
           rw [hc0, hse]
           rcases ZHq (C := C) (ls := ls) (n := ls.length) (B := fw ls.length (List.replicate ls.length 0)) (Z3E _ _ _ |>.trans (by simp)) (Z6T hb0 _ _) hn with ⟨hcl, H', l1, l2⟩ | ⟨hcl, l1⟩
           · rw [hcl]
             refine ⟨fun _ => ?_, fun h => by simp at h⟩
             simp only [h5S, h3H, cl0] at l1
             simp only [h2H, h3H] at hl2 hl4
             generalize fw ls.length (List.replicate ls.length 0) = FB at *
             simp (disch := omega) only [ZF, ↓gd, Z7, stp, opPick, opBox, justO, just, Rd.bind, Rd.run, Rd.opt, upds, acells, zeroCells, tsz, elemT, rdCells, fieldOf, Z3, aLoad, aStore, opStore, resA, resL, fresh, aNum, aLen, Z4, aBin, aInt, putC, evO, Nat.reduceAdd, Nat.reduceLT, Nat.reduceBEq, Nat.reduceEqDiff, Nat.reduceLeDiff, ↓reduceIte, reduceCtorEq, partsOf, fillA, snaps, aBuild, placeF, ZT, F_88, g0, g1, aMake, hrep, hflat, hk, hby, hul, hl1, hl2, hl4, l1, l2, if_pos]
             exact ⟨_, rfl⟩
           · rw [hcl]
             refine ⟨fun h => by simp at h, fun _ => ?_⟩
             simp only [h5S, h3H, cl0] at l1
             simp only [h2H, h3H] at hl2 hl4
             generalize fw ls.length (List.replicate ls.length 0) = FB at *
             simp (disch := omega) only [ZF, ↓gd, Z7, stp, opPick, opBox, justO, just, Rd.bind, Rd.run, Rd.opt, upds, acells, zeroCells, tsz, elemT, rdCells, fieldOf, Z3, aLoad, aStore, opStore, resA, resL, fresh, aNum, aLen, Z4, aBin, aInt, putC, evO, Nat.reduceAdd, Nat.reduceLT, Nat.reduceBEq, Nat.reduceEqDiff, Nat.reduceLeDiff, ↓reduceIte, reduceCtorEq, partsOf, fillA, snaps, aBuild, placeF, ZT, F_88, g0, g1, aMake, hrep, hflat, hk, hby, hul, hl1, hl2, hl4, l1, if_pos]
             exact ⟨_, rfl, rfl, rfl⟩
         · rcases Z0iL hC (ls := ls) (es := es) (e := e) (e2 := e2) rfl hn hm with ⟨hp, H', hl2, hl3⟩ | ⟨hp, hl2⟩
           · have hc : chk ls es = prsE ls.length es := by unfold chk; rw [if_neg hn0, if_neg h6, if_neg (by simp [hE]), if_pos hp]
             rw [hc]
             refine ⟨fun _ => ?_, fun h => absurd h hp⟩
             have hadj : adj ls.length [] = List.replicate ls.length 0 := rfl
             simp only [h2S, h2H, List.take_zero, hadj, cl0] at hl2
             simp (disch := omega) only [ZF, ↓gd, Z7, stp, opPick, opBox, justO, just, Rd.bind, Rd.run, Rd.opt, upds, acells, zeroCells, tsz, elemT, rdCells, fieldOf, Z3, aLoad, aStore, opStore, resA, resL, fresh, aNum, aLen, Z4, aBin, aInt, putC, evO, Nat.reduceAdd, Nat.reduceLT, Nat.reduceBEq, Nat.reduceEqDiff, Nat.reduceLeDiff, ↓reduceIte, reduceCtorEq, partsOf, fillA, snaps, aBuild, placeF, ZT, F_88, g0, g1, g2, aMake, hrep, hflat, hk, hby, hl1, hl2, hl3, if_pos]
             exact ⟨_, rfl⟩
           · have hps := ZeA hp
             have hb0 := Zbr hps
             have hl4 := ZJc (C := C) (ls := ls) (B := adj ls.length es) (Z3L _ _) hb0 hn (s0 := ([(110, .int .i64 0), (109, .int .i64 ls.length), (5, .ptr 5 0 2), (4, .int .i64 ls.length), (2, .ptr 2 0 2)], h2H ls (.imm (cls lc ls) ls.length e) (.imm (cls bc es) es.length e2) ls.length (adj ls.length es))) rfl
             have hse : sets ls.length es = fw ls.length (adj ls.length es) := rfl
             have hul : (ucs (fw ls.length (adj ls.length es))).length = ls.length := by rw [ZM]; exact Z3E _ _ _ |>.trans (Z3L _ _)
             have hul2 : (ucs (adj ls.length es)).length = ls.length := by rw [ZM, Z3L]
             have hc0 : chk ls es = if clashB ls.length (sets ls.length es) = true then 13 else 0 := by
               unfold chk; rw [if_neg hn0, if_neg h6, if_neg (by simp [hE]), if_neg (by simp [hp])]
             rw [hc0, hse]
             have hadj : adj ls.length [] = List.replicate ls.length 0 := rfl
             simp only [h2S, h2H, List.take_zero, hadj, cl0] at hl2
             simp only [h2H, h3H] at hl4
             rcases ZHq (C := C) (ls := ls) (n := ls.length) (B := fw ls.length (adj ls.length es)) (Z3E _ _ _ |>.trans (Z3L _ _)) (Z6T hb0 _ _) hn with ⟨hcl, H', l1, l2⟩ | ⟨hcl, l1⟩
             · rw [hcl]
               refine ⟨fun _ => ?_, fun h => by simp at h⟩
               simp only [h5S, h3H, cl0] at l1
               generalize fw ls.length (adj ls.length es) = FB at *
               simp (disch := omega) only [ZF, ↓gd, Z7, stp, opPick, opBox, justO, just, Rd.bind, Rd.run, Rd.opt, upds, acells, zeroCells, tsz, elemT, rdCells, fieldOf, Z3, aLoad, aStore, opStore, resA, resL, fresh, aNum, aLen, Z4, aBin, aInt, putC, evO, Nat.reduceAdd, Nat.reduceLT, Nat.reduceBEq, Nat.reduceEqDiff, Nat.reduceLeDiff, ↓reduceIte, reduceCtorEq, partsOf, fillA, snaps, aBuild, placeF, ZT, F_88, g0, g1, g2, aMake, hrep, hflat, hk, hby, hul, hl1, hl2, hl4, l1, l2, if_pos]
               exact ⟨_, rfl⟩
             · rw [hcl]
               refine ⟨fun h => by simp at h, fun _ => ?_⟩
               simp only [h5S, h3H, cl0] at l1
               generalize fw ls.length (adj ls.length es) = FB at *
               simp (disch := omega) only [ZF, ↓gd, Z7, stp, opPick, opBox, justO, just, Rd.bind, Rd.run, Rd.opt, upds, acells, zeroCells, tsz, elemT, rdCells, fieldOf, Z3, aLoad, aStore, opStore, resA, resL, fresh, aNum, aLen, Z4, aBin, aInt, putC, evO, Nat.reduceAdd, Nat.reduceLT, Nat.reduceBEq, Nat.reduceEqDiff, Nat.reduceLeDiff, ↓reduceIte, reduceCtorEq, partsOf, fillA, snaps, aBuild, placeF, ZT, F_88, g0, g1, g2, aMake, hrep, hflat, hk, hby, hul, hl1, hl2, hl4, l1, if_pos]
               exact ⟨_, rfl, rfl, rfl⟩
theorem ZiJ {C : Callee} {site : Nat → Nat} {seen : List Nat} {f : FuncId} {args : List AV} {id id' n n' g g' sz sz' : Nat} {cells cells' : List AV} {k : IntKind} {z : Int} {H' : AHeap} (h : C f args [] 0 = some (.tup [.agg [.ref id 0 n n g sz false, .ref id' 0 n' n' g' sz' false], .int k z], H')) (hg : hget H' id = some ⟨.row, cells⟩) (hg' : hget H' id' = some ⟨.row, cells'⟩) (hne : id' ≠ id) (hs : site 1 ≠ site 0) (e1 : cells.length = g) (e2 : cells'.length = g') :
   aBack site true seen (thaw C f args [] 0) = Z2V (site 0) (site 1) seen (fun k0 k1 => .tup [.agg [.ref k0 0 n n g sz false, .ref k1 0 n' n' g' sz' false], .int k z]) ⟨.row, cells⟩ ⟨.row, cells'⟩ := by
 subst e1; subst e2
 have hb : ∀ off, (site 1 + off == site 0 + off) = false := fun off => by rw [beq_eq_false_iff_ne]; omega
 simp only [thaw, h, frzRet, aBack, sitesB, aBackAt, imp, imps, hg, hg', hne, hb, List.length_nil, List.length_cons, List.not_mem_nil, List.mem_cons, or_false, not_false_eq_true, and_true, if_true, List.map_cons, List.map_nil, AM.apart, List.elem_cons, List.elem_nil, Bool.not_false, Bool.and_true, AV.leads, AV.leads.leadsL, Bool.or_false, Bool.true_or, Nat.zero_add, Z2V]
theorem ZLl {d : Nat} {site : Nat → Nat} {seen : List Nat} {ls : List Ld} {es : List Pr} {a b : AV} (ha : SV lc ls a) (hb : SV bc es b) (h : chk ls es ≠ 0) :
   aBack site true seen (thaw (callA E fg 1000 (d + 3)) 88 [.agg [a, b]] [] 0) = .pure (.tup [.agg [.nilsl, .nilsl], .int .i64 (chk ls es)], []) := by
 obtain ⟨H', h1⟩ := (ZJR (haC d) ha hb).1 h
 exact Z0l h1 rfl (fun _ => rfl) rfl
theorem ZEM {d : Nat} {site : Nat → Nat} {seen : List Nat} {ls : List Ld} {es : List Pr} {a b : AV} (ha : SV lc ls a) (hb : SV bc es b) (h : chk ls es = 0) (hs : site 1 ≠ site 0) :
   aBack site true seen (thaw (callA E fg 1000 (d + 3)) 88 [.agg [a, b]] [] 0) =
     Z2V (site 0) (site 1) seen (fun k k' => .tup [.agg [.ref k 0 ls.length ls.length (ls.length * 5) 5 false, .ref k' 0 ls.length ls.length ls.length 1 false], .int .i64 0]) ⟨.row, cls lc ls⟩ ⟨.row, ucs (sets ls.length es)⟩ := by
 obtain ⟨H', h1, h2, h3⟩ := (ZJR (haC d) ha hb).2 h
 have := Z36 h
 exact ZiJ h1 h2 h3 (by omega) hs (Z9 Zq ls) (by rw [ZM, this.1.b])
end Go.AM.YtgfnbmfjbjopkaaDoor
end
noncomputable section
namespace Go.AM.YtgfnbmfjbjopkaaDoor
open Go Go.AM Go.AM.Mule
theorem Z2u {α : Type} {f : α → List AV} {l : List α} {a : AV} (h : SV f l a) (n : Nat) : snap (n + 1) a = .pure (a, []) := by
 rcases h with ⟨_, rfl⟩ | ⟨e, rfl⟩ <;> rfl
end Go.AM.YtgfnbmfjbjopkaaDoor
end
noncomputable section
namespace Go.AM.YtgfnbmfjbjopkaaDoor
open Go Go.AM Go.AM.Mule
def odE (B : List Nat) (n : Nat) (left : Nat) (x : Int) : Int :=
 if x < 0 ∨ (n : Int) ≤ x then 2 else if left.testBit x.toNat = false then 6 else if (lst (left &&& (63 - 1 <<< x.toNat))).any (fun k => bit B k x.toNat) = true then 21 else 0
def odL (left : Nat) (x : Int) : Nat := left &&& (63 - 1 <<< x.toNat)
def odR (n : Nat) (o : List Int) : Nat := o.foldl odL (2 ^ n - 1)
def ordersE (B : List Nat) (n : Nat) (o : List Int) : Int :=
 if o.length ≠ n then 5 else firstE o.length fun i => odE B n (odR n (o.take i)) (o.getD i 0)
theorem Zsg (n : Nat) (o : List Int) (x : Int) : odR n (o ++ [x]) = odL (odR n o) x := by simp [odR, List.foldl_append]
theorem Zff (n : Nat) : ∀ o : List Int, odR n o < 2 ^ n := by
 have key : ∀ (o : List Int) (s : Nat), s < 2 ^ n → o.foldl odL s < 2 ^ n := by
   intro o
   induction o with
   | nil => intro s h; exact h
   | cons x o ih => intro s h; exact ih _ (ZI0 h)
 intro o
 have := Nat.two_pow_pos n
 exact key o _ (by omega)
abbrev oiS (ls : List Ld) (B : List Nat) (n : Nat) (e1 e2 : Bool) (ov : AV) (m i : Nat) (left x : Nat) (l : List Nat) (k : Nat) : St :=
 ([(47, .int .i64 k), (46, .int .i64 l.length), (45, .ref 45 0 l.length l.length l.length 1 false), (20, .int .i64 i), (19, .int .i64 m), (18, ov), (7, .int .i64 (x : Int)), (5, .int .u64 (left : Int)), (2, .ptr 2 0 2)],
   [(2, ⟨.box, trA ls B n e1 e2⟩), (45, ⟨.row, ins l⟩)])
theorem ZZT {C : Callee} {ls : List Ld} {B : List Nat} {n : Nat} {e1 e2 : Bool} {ov : AV} {c : List AV} {mm : Nat} {ex : Bool} (hov : ov = .imm c mm ex) {m i left x : Nat} {l : List Nat} (h : TrOk ls B n) (hx : x < n) (hl : ∀ i ∈ l, i < n) (h6 : l.length ≤ 6) (k : Nat) (hk : k < l.length) (h0 : bit B (l.getD k 0) x = false) :
   ∃ s', (execA E C (fg 105) 0 62 [] 1000 Z1D) (oiS ls B n e1 e2 ov m i left x l k) = some (.normal, s') ∧ headA [] s' = oiS ls B n e1 e2 ov m i left x l (k + 1) := by
 subst hov
 have hat := Z22 (ZU (l := l) hk)
 have hy : l.getD k 0 < n := by
   have : l.getD k 0 = l[k] := by simp [hk]
   rw [this]; exact hl _ (List.getElem_mem hk)
 have hg := Z30 (Z2d h.b hy)
 have hul : (ucs B).length = n := by rw [ZM, h.b]
 have hin := Zk l
 have hb2 : (B.getD (l.getD k 0) 0).testBit x = false := h0
 have hb := b_lt h (i := l.getD k 0)
 have hle := h.le
 have hsh := Z6j (b := B.getD (l.getD k 0) 0) (i := x) (by omega)
 have hlt := Z3Q (b := B.getD (l.getD k 0) 0) (i := x) (by omega)
 have ha := Z2E hlt
 have he := Z5a (B.getD (l.getD k 0) 0) x
 rw [show l.getD k default = l.getD k 0 from rfl] at hat
 generalize l.getD k 0 = y at *
 generalize B.getD y 0 = b at *
 have g1 : (k : Int) < l.length := by omega
 have g2 : (y : Int) < n := by omega
 simp only [oiS]
 simp (disch := omega) only [ZF, stp, just, Rd.bind, Rd.run, Rd.opt, upds, tsz, rdCells, fieldOf, Z3, aLoad, Z2, aNum, aBin, aInt, Nat.reduceAdd, Nat.reduceLT, Nat.reduceBEq, Nat.reduceEqDiff, Nat.reduceLeDiff, ↓reduceIte, ZT, Z17, g1, g2, hat, hg, hul, hin, hsh, ha, he, hb2, Zc (show k < 1000000 by omega)]
 exact ⟨_, rfl, rfl⟩
theorem Z0g2 {C : Callee} {ls : List Ld} {B : List Nat} {n : Nat} {e1 e2 : Bool} {ov : AV} {m i left x : Nat} {l : List Nat} (h : TrOk ls B n) (hx : x < n) (hl : ∀ i ∈ l, i < n) (_ : l.length ≤ 6) (k : Nat) (hk : k < l.length) (h0 : bit B (l.getD k 0) x = true) :
   ∃ H', (execA E C (fg 105) 0 62 [] 1000 Z1D) (oiS ls B n e1 e2 ov m i left x l k) = some (.ret, ([(4, .int .i64 21)], H')) := by
 have hat := Z22 (ZU (l := l) hk)
 have hy : l.getD k 0 < n := by
   have : l.getD k 0 = l[k] := by simp [hk]
   rw [this]; exact hl _ (List.getElem_mem hk)
 have hg := Z30 (Z2d h.b hy)
 have hul : (ucs B).length = n := by rw [ZM, h.b]
 have hin := Zk l
 have hb2 : (B.getD (l.getD k 0) 0).testBit x = true := h0
 have hb := b_lt h (i := l.getD k 0)
 have hle := h.le
 have hsh := Z6j (b := B.getD (l.getD k 0) 0) (i := x) (by omega)
 have hlt := Z3Q (b := B.getD (l.getD k 0) 0) (i := x) (by omega)
 have ha := Z2E hlt
 have he := Z5a (B.getD (l.getD k 0) 0) x
 rw [show l.getD k default = l.getD k 0 from rfl] at hat
 generalize l.getD k 0 = y at *
 generalize B.getD y 0 = b at *
 have g1 : (k : Int) < l.length := by omega
 have g2 : (y : Int) < n := by omega
 simp only [oiS]
 simp (disch := omega) only [ZF, stp, just, Rd.bind, Rd.run, Rd.opt, upds, tsz, rdCells, fieldOf, Z3, aLoad, Z2, aNum, aBin, aInt, Nat.reduceAdd, Nat.reduceLT, Nat.reduceBEq, Nat.reduceEqDiff, Nat.reduceLeDiff, ↓reduceIte, ZT, Z17, g1, g2, hat, hg, hul, hin, hsh, ha, he, hb2]
 exact ⟨_, rfl⟩
def IV (l : List Int) (a : AV) : Prop := (l = [] ∧ a = .nilsl) ∨ ∃ ex, a = .imm (ics l) l.length ex
theorem Z8T {l : List Int} {a : AV} (h : IV l a) (n : Nat) : snap (n + 1) a = .pure (a, []) := by
 rcases h with ⟨_, rfl⟩ | ⟨e, rfl⟩ <;> rfl
theorem Z5C {i : Nat} (h : i < 6) : 1 <<< i < 64 := by
 have : i = 0 ∨ i = 1 ∨ i = 2 ∨ i = 3 ∨ i = 4 ∨ i = 5 := by omega
 rcases this with e | e | e | e | e | e <;> rw [e] <;> decide
theorem ZAT {s i n : Nat} (hn : n ≤ 6) (hs : s < 2 ^ n) : ∀ k ∈ lst (s &&& i), k < n := Z1C hn (ZI0 hs)
abbrev odS (ls : List Ld) (B : List Nat) (n : Nat) (e1 e2 ex : Bool) (o : List Int) (left i : Nat) : St :=
 ([(20, .int .i64 i), (19, .int .i64 o.length), (18, .imm (ics o) o.length ex), (5, .int .u64 (left : Int)), (2, .ptr 2 0 2)], [(2, ⟨.box, trA ls B n e1 e2⟩)])
structure LiC (C : Callee) : Prop where
 nil : ∀ (site : Nat → Nat) seen, aBack site true seen (thaw C 97 [.int .u64 0] [] 0) = .pure (.nilsl, [])
 ref : ∀ (site : Nat → Nat) seen (s : Nat), s < 64 → s ≠ 0 → aBack site true seen (thaw C 97 [.int .u64 (s : Int)] [] 0) = Z0g (site 0) seen (fun k => .ref k 0 (lst s).length (lst s).length (lst s).length 1 false) ⟨.row, ins (lst s)⟩
theorem liC (d : Nat) : LiC (callA E fg 1000 (d + 4)) := ⟨fun site seen => Zxf (d := d) (site := site) (seen := seen), fun site seen s h h0 => Zaj (d := d) (s := s) (site := site) (seen := seen) h h0⟩
theorem Z0oc {C : Callee} (hC : LiC C) {ls : List Ld} {B : List Nat} {n : Nat} {e1 e2 ex : Bool} {o : List Int} {left : Nat} (h : TrOk ls B n) (hl : left < 2 ^ n) (hm : o.length < 900) (i : Nat) (hi : i < o.length) {x : Nat} (hx : o[i]? = some (x : Int)) (hxn : x < n) (hb : left.testBit x = true) (h0 : (lst (left &&& (63 - 1 <<< x))).any (fun k => bit B k x) = false) :
   ∃ s', (execA E C (fg 105) 0 62 [] 1000 Z1A) (odS ls B n e1 e2 ex o left i) = some (.normal, s') ∧ headA [] s' = odS ls B n e1 e2 ex o (left &&& (63 - 1 <<< x)) (i + 1) := by
 have hle := h.le
 have l64 := lt64 hle hl
 have hat := Z1V hx
 have hil := Zj o
 have hsh := Z6j (b := left) (i := x) (by omega)
 have hlt := Z3Q (b := left) (i := x) (by omega)
 have ha := Z2E hlt
 have he := ZE1 left x
 have hshl := Zbt (i := x) (by omega)
 have han := ZhF l64 (Z5C (show x < 6 by omega))
 have hlen : (cls lc ls).length = n * 5 := by rw [Z9 Zq, h.l]
 have g1 : (i : Int) < o.length := by omega
 have g2 : ¬ (x : Int) ≥ n := by omega
 have g3 : (x : Int) < n := by omega
 have l2 : left &&& (63 - 1 <<< x) < 64 := Nat.lt_of_le_of_lt Nat.and_le_left l64
 have hln := ZAT (i := 63 - 1 <<< x) hle hl
 have hl6 := Z1G (left &&& (63 - 1 <<< x))
 simp only [odS]
 by_cases hz : left &&& (63 - 1 <<< x) = 0
 · have hr := hC.nil
   have hloop := Zew (f := (execA E C (fg 105) 0 62 [] 1000 Z1D)) (s0 := ([(47, .int .i64 0), (46, .int .i64 0), (45, .nilsl), (20, .int .i64 i), (19, .int .i64 o.length), (18, .imm (ics o) o.length ex), (7, .int .i64 (x : Int)), (5, .int .u64 0), (2, .ptr 2 0 2)], [(2, ⟨.box, trA ls B n e1 e2⟩)])) rfl
     (e := .exit 3) (se := ([(48, .bool false), (47, .int .i64 0), (46, .int .i64 0), (45, .nilsl), (20, .int .i64 i), (19, .int .i64 o.length), (18, .imm (ics o) o.length ex), (7, .int .i64 (x : Int)), (5, .int .u64 0), (2, .ptr 2 0 2)], [(2, ⟨.box, trA ls B n e1 e2⟩)]))
     (by simp (disch := omega) only [ZF, stp, just, Rd.bind, Rd.run, Rd.opt, upds, aBin, aInt, Nat.reduceEqDiff, Nat.reduceLeDiff, ↓reduceIte, Z17]) (by simp)
   rw [hz] at han ⊢
   simp (disch := omega) only [ZF, ↓gd, stp, opPick, just, Rd.bind, Rd.run, Rd.opt, upds, tsz, rdCells, fieldOf, Z3, aLoad, Z2, aNum, aLen, Z4, aBin, aInt, Nat.reduceAdd, Nat.reduceLT, Nat.reduceBEq, Nat.reduceEqDiff, Nat.reduceLeDiff, ↓reduceIte, reduceCtorEq, aCall, snaps, ZT, Z17, g1, g2, hat, hil, hsh, ha, he, hb, hshl, han, hr, hloop, if_pos, cl0, Zc (show i < 1000000 by omega)]
   exact ⟨_, rfl, rfl⟩
 · have hr := fun site seen => hC.ref site seen _ l2 hz
   have hin := Zk (lst (left &&& (63 - 1 <<< x)))
   have hloop := loopN (f := (execA E C (fg 105) 0 62 [] 1000 Z1D)) (fun k => oiS ls B n e1 e2 (.imm (ics o) o.length ex) o.length i (left &&& (63 - 1 <<< x)) x (lst (left &&& (63 - 1 <<< x))) k) (lst (left &&& (63 - 1 <<< x))).length
     (fun k hk => ZZT rfl h hxn hln hl6 k hk (by
       have := List.any_eq_false.1 h0 ((lst (left &&& (63 - 1 <<< x))).getD k 0) (by
         have : (lst (left &&& (63 - 1 <<< x))).getD k 0 = (lst (left &&& (63 - 1 <<< x)))[k] := by simp [hk]
         rw [this]; exact List.getElem_mem hk)
       simpa using this)) rfl (by omega)
     (e := .exit 3) (se := ([(48, .bool false), (47, .int .i64 (lst (left &&& (63 - 1 <<< x))).length), (46, .int .i64 (lst (left &&& (63 - 1 <<< x))).length), (45, .ref 45 0 (lst (left &&& (63 - 1 <<< x))).length (lst (left &&& (63 - 1 <<< x))).length (lst (left &&& (63 - 1 <<< x))).length 1 false), (20, .int .i64 i), (19, .int .i64 o.length), (18, .imm (ics o) o.length ex), (7, .int .i64 (x : Int)), (5, .int .u64 (left &&& (63 - 1 <<< x) : Nat)), (2, .ptr 2 0 2)],
       [(2, ⟨.box, trA ls B n e1 e2⟩), (45, ⟨.row, ins (lst (left &&& (63 - 1 <<< x)))⟩)]))
     (by
       simp only [oiS]
       generalize lst (left &&& (63 - 1 <<< x)) = l at *
       generalize left &&& (63 - 1 <<< x) = s at *
       simp (disch := omega) only [ZF, stp, just, Rd.bind, Rd.run, Rd.opt, upds, aBin, aInt, Nat.reduceEqDiff, Nat.reduceLeDiff, ↓reduceIte, Z17]) (by simp)
   simp only [oiS, cl0] at hloop
   generalize lst (left &&& (63 - 1 <<< x)) = l at *
   generalize left &&& (63 - 1 <<< x) = s at *
   simp (disch := omega) only [ZF, ↓gd, stp, opPick, just, Rd.bind, Rd.run, Rd.opt, upds, tsz, rdCells, fieldOf, Z3, aLoad, Z2, aNum, aLen, Z4, aBin, aInt, Nat.reduceAdd, Nat.reduceLT, Nat.reduceBEq, Nat.reduceEqDiff, Nat.reduceLeDiff, ↓reduceIte, reduceCtorEq, aCall, snaps, ZT, Z17, g1, g2, hat, hil, hsh, ha, he, hb, hshl, han, hr, hin, hloop, if_pos, Zc (show i < 1000000 by omega)]
   exact ⟨_, rfl, rfl⟩
theorem Z0eT {C : Callee} (hC : LiC C) {ls : List Ld} {B : List Nat} {n : Nat} {e1 e2 ex : Bool} {o : List Int} {left : Nat} (h : TrOk ls B n) (hl : left < 2 ^ n) (_ : o.length < 900) (i : Nat) (hi : i < o.length) {x : Int} (hx : o[i]? = some x) (h0 : odE B n left x ≠ 0) :
   ∃ H', (execA E C (fg 105) 0 62 [] 1000 Z1A) (odS ls B n e1 e2 ex o left i) = some (.ret, ([(4, .int .i64 (odE B n left x))], H')) := by
 have hle := h.le
 have l64 := lt64 hle hl
 have hat := Z1V hx
 have hil := Zj o
 have hlen : (cls lc ls).length = n * 5 := by rw [Z9 Zq, h.l]
 have g1 : (i : Int) < o.length := by omega
 simp only [odS]
 by_cases c1 : x < 0
 · have e : odE B n left x = 2 := by unfold odE; rw [if_pos (.inl c1)]
   rw [e]
   simp (disch := omega) only [ZF, ↓gd, stp, opPick, just, Rd.bind, Rd.run, Rd.opt, upds, tsz, rdCells, aLoad, Z2, aNum, aBin, aInt, Nat.reduceLT, Nat.reduceBEq, Nat.reduceEqDiff, Nat.reduceLeDiff, ↓reduceIte, reduceCtorEq, ZT, Z17, g1, c1, hat, hil]
   exact ⟨_, rfl⟩
 · by_cases c2 : (n : Int) ≤ x
   · have e : odE B n left x = 2 := by unfold odE; rw [if_pos (.inr c2)]
     have c3 : x ≥ n := c2
     rw [e]
     simp (disch := omega) only [ZF, ↓gd, stp, opPick, just, Rd.bind, Rd.run, Rd.opt, upds, tsz, rdCells, fieldOf, Z3, aLoad, Z2, aNum, aLen, Z4, aBin, aInt, Nat.reduceAdd, Nat.reduceLT, Nat.reduceBEq, Nat.reduceEqDiff, Nat.reduceLeDiff, ↓reduceIte, ZT, Z17, g1, c1, c3, hat, hil]
     exact ⟨_, rfl⟩
   · obtain ⟨y, rfl⟩ : ∃ y : Nat, x = y := ⟨x.toNat, by omega⟩
     have c3 : ¬ (y : Int) ≥ n := by omega
     have hyn : y < n := by omega
     have hsh := Z6j (b := left) (i := y) (by omega)
     have hlt := Z3Q (b := left) (i := y) (by omega)
     have ha := Z2E hlt
     have he := ZE1 left y
     by_cases hb : left.testBit y = false
     · have e : odE B n left y = 6 := by unfold odE; rw [if_neg (by omega), if_pos (by simpa using hb)]
       rw [e]
       simp (disch := omega) only [ZF, ↓gd, stp, opPick, just, Rd.bind, Rd.run, Rd.opt, upds, tsz, rdCells, fieldOf, Z3, aLoad, Z2, aNum, aLen, Z4, aBin, aInt, Nat.reduceAdd, Nat.reduceLT, Nat.reduceBEq, Nat.reduceEqDiff, Nat.reduceLeDiff, ↓reduceIte, ZT, Z17, g1, c3, hat, hil, hsh, ha, he, hb, if_pos]
       exact ⟨_, rfl⟩
     · have hany : (lst (left &&& (63 - 1 <<< y))).any (fun k => bit B k y) = true := by
         unfold odE at h0
         rw [if_neg (by omega), if_neg (by simpa using hb)] at h0
         split at h0
         · rename_i h1; simpa using h1
         · simp at h0
       have e : odE B n left y = 21 := by unfold odE; rw [if_neg (by omega), if_neg (by simpa using hb), if_pos (by simpa using hany)]
       have hb' : left.testBit y = true := by simpa using hb
       rw [e]
       have hshl := Zbt (i := y) (by omega)
       have han := ZhF l64 (Z5C (show y < 6 by omega))
       have l2 : left &&& (63 - 1 <<< y) < 64 := Nat.lt_of_le_of_lt Nat.and_le_left l64
       have hln := ZAT (i := 63 - 1 <<< y) hle hl
       have hl6 := Z1G (left &&& (63 - 1 <<< y))
       have hz : left &&& (63 - 1 <<< y) ≠ 0 := by
         intro hz; rw [hz] at hany; simp [show lst 0 = [] from rfl] at hany
       have hr := fun site seen => hC.ref site seen _ l2 hz
       have hin := Zk (lst (left &&& (63 - 1 <<< y)))
       generalize lst (left &&& (63 - 1 <<< y)) = l at *
       generalize left &&& (63 - 1 <<< y) = s at *
       have hk : fst1 l.length (fun k => bit B (l.getD k 0) y) < l.length := by
         obtain ⟨z, hz1, hz2⟩ := List.any_eq_true.1 hany
         obtain ⟨j, hj, rfl⟩ := List.mem_iff_getElem.1 hz1
         have := ZwJ l.length (fun k => bit B (l.getD k 0) y)
         have h3 : (List.range l.length).any (fun k => bit B (l.getD k 0) y) = true := List.any_eq_true.2 ⟨j, List.mem_range.2 hj, by simpa [hj] using hz2⟩
         rw [h3] at this
         exact of_decide_eq_true this.symm
       have hat2 := Z2f (p := fun k => bit B (l.getD k 0) y) hk
       obtain ⟨H', hbad⟩ := Z0g2 (C := C) (e1 := e1) (e2 := e2) (ov := .imm (ics o) o.length ex) (m := o.length) (i := i) (left := s) h hyn hln hl6 _ hk hat2
       have hloop := loopN (f := (execA E C (fg 105) 0 62 [] 1000 Z1D)) (fun k => oiS ls B n e1 e2 (.imm (ics o) o.length ex) o.length i s y l k) (fst1 l.length (fun k => bit B (l.getD k 0) y))
         (fun k hk' => ZZT rfl h hyn hln hl6 k (by omega) (Z2y (p := fun k => bit B (l.getD k 0) y) hk')) rfl (by omega) hbad (by simp)
       simp only [oiS, cl0] at hloop
       simp (disch := omega) only [ZF, ↓gd, stp, opPick, just, Rd.bind, Rd.run, Rd.opt, upds, tsz, rdCells, fieldOf, Z3, aLoad, Z2, aNum, aLen, Z4, aBin, aInt, Nat.reduceAdd, Nat.reduceLT, Nat.reduceBEq, Nat.reduceEqDiff, Nat.reduceLeDiff, ↓reduceIte, reduceCtorEq, aCall, snaps, ZT, Z17, g1, c3, hat, hil, hsh, ha, he, hb', hshl, han, hr, hin, hloop, if_pos]
       exact ⟨_, rfl⟩
end Go.AM.YtgfnbmfjbjopkaaDoor
end
noncomputable section
namespace Go.AM.YtgfnbmfjbjopkaaDoor
open Go Go.AM Go.AM.Mule
theorem Z0gH {B : List Nat} {n left : Nat} {x : Int} (h : odE B n left x = 0) : ∃ y : Nat, x = y ∧ y < n ∧ left.testBit y = true ∧ (lst (left &&& (63 - 1 <<< y))).any (fun k => bit B k y) = false := by
 unfold odE at h
 split at h
 · simp at h
 · rename_i h1
   split at h
   · simp at h
   · rename_i h2
     split at h
     · simp at h
     · rename_i h3
       refine ⟨x.toNat, by omega, by omega, by simpa using h2, by simpa using h3⟩
theorem Z039 {d : Nat} {ls : List Ld} {B : List Nat} {n : Nat} {e1 e2 : Bool} {o : List Int} {a : AV} (h : TrOk ls B n) (ha : IV o a) (hm : o.length < 900) :
   rsOf (bodyA E (callA E fg 1000 (d + 4)) fg 1000 105 [.agg (trA ls B n e1 e2), a] [] 0) = some (.int .i64 (ordersE B n o)) := by
 have hlen : (cls lc ls).length = n * 5 := by rw [Z9 Zq, h.l]
 have hall := fun (site : Nat → Nat) seen => Znh (d := d + 3) (site := site) (seen := seen) (ls := ls) (B := B) (e1 := e1) (e2 := e2) h.le
 have hli := liC d
 generalize callA E fg 1000 (d + 4) = C at *
 rcases ha with ⟨rfl, rfl⟩ | ⟨ex, rfl⟩
 · have e : ordersE B n [] = 5 := by
     have := h.ne
     unfold ordersE; rw [if_pos]; simp; omega
   have g : ¬ (0 : Int) = (n : Int) := by have := h.ne; omega
   rw [e]
   simp (disch := omega) only [ZF, Z7, stp, opBox, just, Rd.bind, Rd.run, Rd.opt, upds, acells, rdCells, fieldOf, Z3, aLoad, resA, resL, fresh, aLen, Z4, aBin, aInt, Nat.reduceAdd, Nat.reduceBEq, Nat.reduceEqDiff, Nat.reduceLeDiff, ↓reduceIte, reduceCtorEq, ZT, Z17, g]
 · have hil := Zj o
   by_cases hn : o.length = n
   · have g : ((o.length : Int) = (n : Int)) := by omega
     have hE : ordersE B n o = firstE o.length fun i => odE B n (odR n (o.take i)) (o.getD i 0) := by unfold ordersE; rw [if_neg (by simpa using hn)]
     rw [hE]
     have hle := Z2B o.length (fun i => odE B n (odR n (o.take i)) (o.getD i 0) != 0)
     have hround : ∀ i, i < fst1 o.length (fun i => odE B n (odR n (o.take i)) (o.getD i 0) != 0) → ∃ s', (execA E C (fg 105) 0 62 [] 1000 Z1A) (odS ls B n e1 e2 ex o (odR n (o.take i)) i) = some (.normal, s') ∧ headA [] s' = odS ls B n e1 e2 ex o (odR n (o.take (i + 1))) (i + 1) := by
       intro i hi
       have h0 := Z2y hi
       have hx : o[i]? = some (o.getD i 0) := ZU (l := o) (by omega)
       obtain ⟨y, hy, h1, h2, h3⟩ := Z0gH (by simpa using h0 : odE B n (odR n (o.take i)) (o.getD i 0) = 0)
       rw [List.take_add_one, hx, Option.toList_some, Zsg, hy]
       rw [hy] at hx
       exact Z0oc hli h (Zff n _) hm i (by omega) hx h1 h2 h3
     unfold firstE
     by_cases hlt : fst1 o.length (fun i => odE B n (odR n (o.take i)) (o.getD i 0) != 0) < o.length
     · rw [if_pos hlt]
       have hat := Z2f hlt
       generalize fst1 o.length (fun i => odE B n (odR n (o.take i)) (o.getD i 0) != 0) = k at *
       obtain ⟨H', hb⟩ := Z0eT hli (e1 := e1) (e2 := e2) (ex := ex) h (Zff n (o.take k)) hm k hlt (ZU (l := o) hlt) (by simpa using hat)
       have hloop := loopN (f := (execA E C (fg 105) 0 62 [] 1000 Z1A)) (fun i => odS ls B n e1 e2 ex o (odR n (o.take i)) i) k hround rfl (by omega) hb (by simp)
       simp only [odS, List.take_zero] at hloop
       rw [show odR n [] = 2 ^ n - 1 from rfl] at hloop
       simp only [cl0] at hloop
       simp (disch := omega) only [ZF, Z7, stp, opBox, just, Rd.bind, Rd.run, Rd.opt, upds, acells, rdCells, fieldOf, Z3, aLoad, resA, resL, fresh, aLen, Z4, aBin, aInt, Nat.reduceAdd, Nat.reduceBEq, Nat.reduceEqDiff, Nat.reduceLeDiff, ↓reduceIte, reduceCtorEq, aCall, snaps, ZT, Z17, eq_true g, hall, hloop]
       rfl
     · rw [if_neg hlt]
       have e : fst1 o.length (fun i => odE B n (odR n (o.take i)) (o.getD i 0) != 0) = o.length := by omega
       rw [e] at hround
       have hloop := loopN (f := (execA E C (fg 105) 0 62 [] 1000 Z1A)) (fun i => odS ls B n e1 e2 ex o (odR n (o.take i)) i) o.length hround rfl (by omega)
         (e := .exit 0) (se := ([(21, .bool false), (20, .int .i64 o.length), (19, .int .i64 o.length), (18, .imm (ics o) o.length ex), (5, .int .u64 (odR n o : Nat)), (2, .ptr 2 0 2)], [(2, ⟨.box, trA ls B n e1 e2⟩)]))
         (by
           simp only [odS, List.take_length]
           simp (disch := omega) only [ZF, stp, just, Rd.bind, Rd.run, Rd.opt, upds, aBin, aInt, Nat.reduceEqDiff, Nat.reduceLeDiff, ↓reduceIte, Z17]) (by simp)
       simp only [odS, List.take_zero] at hloop
       rw [show odR n [] = 2 ^ n - 1 from rfl] at hloop
       simp only [cl0] at hloop
       simp (disch := omega) only [ZF, Z7, stp, opBox, just, Rd.bind, Rd.run, Rd.opt, upds, acells, rdCells, fieldOf, Z3, aLoad, resA, resL, fresh, aLen, Z4, aBin, aInt, Nat.reduceAdd, Nat.reduceBEq, Nat.reduceEqDiff, Nat.reduceLeDiff, ↓reduceIte, reduceCtorEq, aCall, snaps, ZT, Z17, eq_true g, hall, hloop]
   · have e : ordersE B n o = 5 := by unfold ordersE; rw [if_pos (by simpa using hn)]
     have g : ¬ ((o.length : Int) = (n : Int)) := by omega
     rw [e]
     simp (disch := omega) only [ZF, Z7, stp, opBox, just, Rd.bind, Rd.run, Rd.opt, upds, acells, rdCells, fieldOf, Z3, aLoad, resA, resL, fresh, aLen, Z4, aBin, aInt, Nat.reduceAdd, Nat.reduceBEq, Nat.reduceEqDiff, Nat.reduceLeDiff, ↓reduceIte, reduceCtorEq, ZT, Z17, g]
theorem ZLA {d : Nat} {site : Nat → Nat} {seen : List Nat} {ls : List Ld} {B : List Nat} {n : Nat} {e1 e2 : Bool} {o : List Int} {a : AV} (h : TrOk ls B n) (ha : IV o a) (hm : o.length < 900) :
   aBack site true seen (thaw (callA E fg 1000 (d + 5)) 105 [.agg (trA ls B n e1 e2), a] [] 0) = .pure (.int .i64 (ordersE B n o), []) := ZE (ZV (Z039 (d := d) h ha hm))
def validE (ls : List Ld) (es : List Pr) (o : List Int) : Int := if chk ls es ≠ 0 then chk ls es else ordersE (sets ls.length es) ls.length o
theorem ZII {d : Nat} {ls : List Ld} {es : List Pr} {a b c : AV} {o : List Int} (ha : SV lc ls a) (hb : SV bc es b) (hc : IV o c) (hm : o.length < 900) :
   rsOf (bodyA E (callA E fg 1000 (d + 5)) fg 1000 50 [.agg [a, b], c] [] 0) = some (.int .i64 (validE ls es o)) := by
 have sa := Z2u ha
 have sb := Z2u hb
 have sc := Z8T hc
 unfold validE
 by_cases h : chk ls es = 0
 · have hr := fun (site : Nat → Nat) seen hs => ZEM (d := d + 2) (site := site) (seen := seen) ha hb h hs
   obtain ⟨tr, ord, _, _⟩ := Z36 h
   have hlen : (cls lc ls).length = ls.length * 5 := Z9 Zq ls
   have hul : (ucs (sets ls.length es)).length = ls.length := by rw [ZM, tr.b]
   have t1 : List.take (ls.length * 5) (cls lc ls) = cls lc ls := Z6w Zq ls
   have t2 : List.take ls.length (ucs (sets ls.length es)) = ucs (sets ls.length es) := List.take_of_length_le (by omega)
   have ho := fun (site : Nat → Nat) seen => ZLA (d := d) (site := site) (seen := seen) (e1 := false) (e2 := false) tr hc hm
   rw [if_neg (by simpa using h)]
   generalize callA E fg 1000 (d + 5) = C at *
   simp (disch := omega) only [ZF, Z7, stp, opBox, justO, just, Rd.bind, Rd.run, Rd.opt, upds, acells, zeroCells, tsz, rdCells, aLoad, aStore, opStore, ZG, resA, resL, fresh, aBin, aInt, putC, Nat.reduceAdd, Nat.reduceMul, Nat.reduceBEq, Nat.reduceEqDiff, Nat.reduceLeDiff, ↓reduceIte, reduceCtorEq, aCall, snaps, ZT, F_50, sa 196, sb 195, sc 197, hr, hlen, hul, t1, t2, ho]
 · have hr := fun (site : Nat → Nat) seen => ZLl (d := d + 2) (site := site) (seen := seen) ha hb h
   rw [if_pos h]
   generalize callA E fg 1000 (d + 5) = C at *
   generalize chk ls es = z at *
   simp (disch := omega) only [ZF, Z7, stp, opBox, justO, just, Rd.bind, Rd.run, Rd.opt, upds, acells, zeroCells, tsz, rdCells, aLoad, aStore, opStore, ZG, resA, resL, fresh, aBin, aInt, putC, Nat.reduceAdd, Nat.reduceBEq, Nat.reduceEqDiff, Nat.reduceLeDiff, ↓reduceIte, reduceCtorEq, aCall, snaps, ZT, F_50, sa 196, sb 195, hr, h]
theorem ZGU {d : Nat} {site : Nat → Nat} {seen : List Nat} {ls : List Ld} {es : List Pr} {a b c : AV} {o : List Int} (ha : SV lc ls a) (hb : SV bc es b) (hc : IV o c) (hm : o.length < 900) :
   aBack site true seen (thaw (callA E fg 1000 (d + 6)) 50 [.agg [a, b], c] [] 0) = .pure (.int .i64 (validE ls es o), []) := ZE (ZV (ZII (d := d) ha hb hc hm))
end Go.AM.YtgfnbmfjbjopkaaDoor
end
noncomputable section
namespace Go.AM
theorem Zad {f : St → XR} {hd : St → St} {e : Ex} {P : Nat → St → Prop} {Q : St → Prop} (hne : e ≠ .normal) : ∀ (n F k : Nat) (s0 : St), P k (hd s0) → n < F → (∀ i s, k ≤ i → i < k + n → P i s → ∃ s', f s = some (.normal, s') ∧ P (i + 1) (hd s')) → (∀ s, P (k + n) s → ∃ s', f s = some (e, s') ∧ Q s') → ∃ se, iterA f hd F s0 = some (e, se) ∧ Q se
 | 0, F + 1, k, s0, h0, _, _, he => by
   rw [Nat.add_zero] at he
   obtain ⟨s', h1, h2⟩ := he _ h0
   refine ⟨s', ?_, h2⟩
   rw [Z3A, h1]
   cases e with
   | normal => exact absurd rfl hne
   | ret => rfl
   | exit i => rfl
 | n + 1, F + 1, k, s0, h0, hF, h, he => by
   obtain ⟨s', h1, h2⟩ := h k _ (Nat.le_refl _) (by omega) h0
   obtain ⟨se, g1, g2⟩ := Zad (P := P) (Q := Q) hne n F (k + 1) s' h2 (by omega) (fun i s a b => h i s (by omega) (by omega)) (by rw [show k + 1 + n = k + (n + 1) by omega]; exact he)
   refine ⟨se, ?_, g2⟩
   rw [Z3A, h1, Za4]
   exact g1
 | _, 0, _, _, _, hF, _, _ => absurd hF (by omega)
end Go.AM
namespace Go.AM.YtgfnbmfjbjopkaaDoor
open Go Go.AM Go.AM.Mule
end Go.AM.YtgfnbmfjbjopkaaDoor
end
noncomputable section
namespace Go.AM.YtgfnbmfjbjopkaaDoor
open Go Go.AM Go.AM.Mule
structure CoC (C : Callee) (ls : List Ld) (B : List Nat) (n : Nat) (e1 e2 : Bool) : Prop where
 all : ∀ (site : Nat → Nat) seen, aBack site true seen (thaw C 95 [.agg (trA ls B n e1 e2)] [] 0) = .pure (.int .u64 ((2 ^ n - 1 : Nat) : Int), [])
 lasts : ∀ (site : Nat → Nat) seen (s : Nat), s < 2 ^ n → s ≠ 0 → aBack site true seen (thaw C 128 [.agg (trA ls B n e1 e2), .int .u64 (s : Int)] [] 0) = Z0g (site 0) seen (fun k => .ref k 0 (lsL B s).length (lst s).length (lst s).length 1 false) ⟨.row, lsCells B s⟩
 days : ∀ (site : Nat → Nat) seen (s : Nat), s < 2 ^ n → aBack site true seen (thaw C 100 [.agg (trA ls B n e1 e2), .int .u64 (s : Int)] [] 0) = .pure (.int .i64 (daysS ls s), [])
 cost : ∀ (site : Nat → Nat) seen l day, LdOk l → 0 ≤ day ∧ day ≤ 1000 → aBack site true seen (thaw C 99 [.agg (lc l), .int .i64 day] [] 0) = .pure (.int .i64 (ldC l day), [])
theorem coC {ls : List Ld} {B : List Nat} {n : Nat} (h : TrOk ls B n) (d : Nat) (e1 e2 : Bool) : CoC (callA E fg 1000 (d + 5)) ls B n e1 e2 :=
 ⟨fun _ _ => Znh h.le, fun _ _ _ a b => ZHg h a b, fun _ _ _ a => ZKk h a, fun _ _ _ _ a b => ZJp a b⟩
end Go.AM.YtgfnbmfjbjopkaaDoor
end
noncomputable section
namespace Go.AM.YtgfnbmfjbjopkaaDoor
open Go Go.AM Go.AM.Mule
theorem Z0mK {l : List Int} {a : AV} (h : IV l a) (h0 : 0 < l.length) : ∃ ex, a = .imm (ics l) l.length ex := by
 rcases h with ⟨rfl, _⟩ | h
 · simp at h0
 · exact h
end Go.AM.YtgfnbmfjbjopkaaDoor
end
noncomputable section
namespace Go.AM.YtgfnbmfjbjopkaaDoor
open Go Go.AM Go.AM.Mule
def bdL (ls : List Ld) (B : List Nat) (s : Nat) : List Int := (lsL B s).map fun i => cF ls i (daysS ls s)
theorem ZcY (ls B s) : (bdL ls B s).length = (lsL B s).length := by simp [bdL]
abbrev bdC (ls : List Ld) (B : List Nat) (s i : Nat) : List AV := ics ((bdL ls B s).take i) ++ ins ((lsL B s).drop i) ++ ins (List.replicate ((lst s).length - (lsL B s).length) 0)
abbrev bdS (ls : List Ld) (B : List Nat) (n : Nat) (e1 e2 : Bool) (s i : Nat) : St :=
 ([(17, .int .i64 i), (16, .int .i64 (lsL B s).length), (15, .ref 14 0 (lsL B s).length (lst s).length (lst s).length 1 false), (6, .ref 14 0 (lsL B s).length (lst s).length (lst s).length 1 false), (5, .int .i64 (daysS ls s)), (2, .ptr 2 0 2)],
   [(2, ⟨.box, trA ls B n e1 e2⟩), (14, ⟨.row, bdC ls B s i⟩)])
theorem Z0os {C : Callee} {ls : List Ld} {B : List Nat} {n : Nat} {e1 e2 : Bool} (hC : CoC C ls B n e1 e2) (h : TrOk ls B n) {s : Nat} (hs : s < 2 ^ n) (i : Nat) (hi : i < (lsL B s).length) :
   ∃ s', (execA E C (fg 101) 0 35 [] 1000 Z3H) (bdS ls B n e1 e2 s i) = some (.normal, s') ∧ headA [] s' = bdS ls B n e1 e2 s (i + 1) := by
 have hk : (lsL B s)[i]? = some (lsL B s)[i] := List.getElem?_eq_getElem hi
 have hin := Z1C h.le hs _ (Z0ir (List.getElem_mem hi))
 obtain ⟨y, y1, y2, y3⟩ := Z0lw h hin
 have hdb := ZEW h hs
 have hcost := fun site seen => hC.cost site seen y (daysS ls s) y2 (by omega)
 have hle := ZFT B s
 have hl6 := Z1G s
 have hb1 : ((bdL ls B s).take i).length = i := by rw [List.length_take, ZcY]; omega
 have hlen : (bdC ls B s i).length = (lst s).length := by
   simp only [bdC, List.length_append, Zj, Zk, hb1, List.length_drop, List.length_replicate]; omega
 have hlen2 : (bdC ls B s (i + 1)).length = (lst s).length := by
   have hb2 : ((bdL ls B s).take (i + 1)).length = i + 1 := by rw [List.length_take, ZcY]; omega
   simp only [bdC, List.length_append, Zj, Zk, hb2, List.length_drop, List.length_replicate]; omega
 have hat : (bdC ls B s i)[i]? = some (.int .i64 ((lsL B s)[i] : Int)) := by
   have hl1 : (ics ((bdL ls B s).take i) ++ ins ((lsL B s).drop i)).length = (lsL B s).length := by
     rw [List.length_append, Zj, Zk, hb1, List.length_drop]; omega
   simp only [bdC]
   rw [List.getElem?_append_left (by omega), List.getElem?_append_right (by rw [Zj]; omega), Zj, hb1, Nat.sub_self]
   refine Z22 ?_
   rw [List.getElem?_drop, Nat.add_zero, hk]
 have hset : (bdC ls B s i).set i (.int .i64 (ldC y (daysS ls s))) = bdC ls B s (i + 1) := by
   have e1 : (bdL ls B s)[i]? = some (ldC y (daysS ls s)) := by rw [← y3]; simp [bdL, hi]
   have e2 : (lsL B s).drop i = (lsL B s)[i] :: (lsL B s).drop (i + 1) := List.drop_eq_getElem_cons hi
   simp only [bdC]
   rw [e2, List.append_assoc, List.set_append_right _ _ (by rw [Zj]; omega), Zj, hb1, Nat.sub_self, List.take_add_one, e1, Option.toList_some]
   simp only [ics, ins, List.map_cons, List.cons_append, List.set_cons_zero, List.map_append, List.map_nil, List.append_assoc, List.nil_append]
 have ay := Z0T Zq y1
 have hcl : (cls lc ls).length = n * 5 := by rw [Z9 Zq, h.l]
 have g1 : (i : Int) < (lsL B s).length := by omega
 have g2 : ((lsL B s)[i] : Int) < n := by omega
 simp only [bdS]
 generalize bdC ls B s (i + 1) = L2 at *
 generalize bdC ls B s i = L1 at *
 generalize (lsL B s)[i] = k at *
 generalize (lsL B s).length = m at *
 generalize (lst s).length = q at *
 generalize daysS ls s = day at *
 generalize ldC y day = cy at *
 simp only [lc] at ay hcost
 simp (disch := omega) only [ZF, stp, just, Rd.bind, Rd.run, Rd.opt, upds, acells, tsz, rdCells, fieldOf, Z3, aLoad, aStore, opStore, Z2, aNum, aBin, aInt, putC, Nat.reduceAdd, Nat.reduceLT, Nat.reduceBEq, Nat.reduceEqDiff, Nat.reduceLeDiff, ↓reduceIte, aCall, snaps, ZT, ZFZ, g1, g2, hat, hlen, hset, ay, hcl, hcost, if_pos, Zc (show i < 1000000 by omega)]
 exact ⟨_, rfl, rfl⟩
def bndS (ls : List Ld) (B : List Nat) (s : Nat) : Int := match bdL ls B s with
 | [] => 0
 | x :: l => mnI x l
theorem ZKf {d : Nat} {ls : List Ld} {B : List Nat} {n : Nat} {e1 e2 : Bool} (h : TrOk ls B n) (hT : Ord (bit B)) {s : Nat} (hs : s < 2 ^ n) (h0 : s ≠ 0) :
   rsOf (bodyA E (callA E fg 1000 (d + 5)) fg 1000 101 [.agg (trA ls B n e1 e2), .int .u64 (s : Int)] [] 0) = some (.int .i64 (bndS ls B s)) := by
 have h64 := lt64 h.le hs
 have hC := coC h d e1 e2
 have hne := Z0mB hT h64 h0
 have hbl : bdL ls B s ≠ [] := by simpa [bdL] using hne
 obtain ⟨x, l, hx⟩ : ∃ x l, bdL ls B s = x :: l := by
   cases hh : bdL ls B s with
   | nil => exact absurd hh hbl
   | cons x l => exact ⟨x, l, rfl⟩
 have hE : bndS ls B s = mnI x l := by unfold bndS; rw [hx]
 have hxl : (x :: l).length = (lsL B s).length := by rw [← hx, ZcY]
 have hle := ZFT B s
 have hl6 := Z1G s
 have hmin := fun (site : Nat → Nat) seen ex => ZWW (d := d + 4) (x := x) (l := l) (ex := ex) (site := site) (seen := seen) (by simp only [List.length_cons] at hxl; omega)
 rw [hxl] at hmin
 have hdays := fun site seen => hC.days site seen s hs
 have hlasts := fun site seen => hC.lasts site seen s hs h0
 have hgo := fun i hi => Z0os hC h hs i hi
 have hlsl := Z9W B s
 have hc0 : bdC ls B s 0 = lsCells B s := by simp [bdC, lsCells, ics, ins]
 have hcE : bdC ls B s (lsL B s).length = ics (x :: l) ++ ins (List.replicate ((lst s).length - (lsL B s).length) 0) := by
   simp only [bdC]
   rw [List.take_of_length_le (by rw [ZcY]; exact Nat.le_refl _), hx, List.drop_length]
   simp [ins]
 have hlen : (ics (x :: l) ++ ins (List.replicate ((lst s).length - (lsL B s).length) 0)).length = (lst s).length := by
   rw [List.length_append, Zj, Zk, hxl, List.length_replicate]; omega
 have htk : List.take (lsL B s).length (ics (x :: l) ++ ins (List.replicate ((lst s).length - (lsL B s).length) 0)) = ics (x :: l) := by
   rw [List.take_left' (by rw [Zj, hxl])]
 have hall := hC.all
 rw [hE]
 generalize callA E fg 1000 (d + 5) = C at *
 have hloop := loopN (f := (execA E C (fg 101) 0 35 [] 1000 Z3H)) (bdS ls B n e1 e2 s) (lsL B s).length hgo rfl (by omega)
   (e := .exit 0) (se := ([(18, .bool false), (17, .int .i64 (lsL B s).length), (16, .int .i64 (lsL B s).length), (15, .ref 14 0 (lsL B s).length (lst s).length (lst s).length 1 false), (6, .ref 14 0 (lsL B s).length (lst s).length (lst s).length 1 false), (5, .int .i64 (daysS ls s)), (2, .ptr 2 0 2)],
     [(2, ⟨.box, trA ls B n e1 e2⟩), (14, ⟨.row, ics (x :: l) ++ ins (List.replicate ((lst s).length - (lsL B s).length) 0)⟩)]))
   (by
     simp only [bdS, hcE]
     generalize (lsL B s).length = m at *
     generalize (lst s).length = q at *
     simp (disch := omega) only [ZF, stp, just, Rd.bind, Rd.run, Rd.opt, upds, aBin, aInt, Nat.reduceEqDiff, Nat.reduceLeDiff, ↓reduceIte, ZFZ]) (by simp)
 simp only [bdS, hc0, cl0] at hloop
 generalize ics (x :: l) ++ ins (List.replicate ((lst s).length - (lsL B s).length) 0) = L1 at *
 generalize lsCells B s = L0 at *
 generalize (lsL B s).length = m at *
 generalize (lst s).length = q at *
 generalize daysS ls s = day at *
 simp (disch := omega) only [ZF, Z7, stp, opBox, just, Rd.bind, Rd.run, Rd.opt, upds, acells, rdCells, aLoad, resA, resL, fresh, aLen, Z4, Nat.reduceAdd, Nat.reduceBEq, Nat.reduceEqDiff, Nat.reduceLeDiff, ↓reduceIte, reduceCtorEq, aCall, snaps, ZT, ZFZ, hdays, hlasts, hlsl, hlen, htk, hmin, hloop, if_pos]
theorem ZG2 {d : Nat} {site : Nat → Nat} {seen : List Nat} {ls : List Ld} {B : List Nat} {n : Nat} {e1 e2 : Bool} (h : TrOk ls B n) (hT : Ord (bit B)) {s : Nat} (hs : s < 2 ^ n) (h0 : s ≠ 0) :
   aBack site true seen (thaw (callA E fg 1000 (d + 6)) 101 [.agg (trA ls B n e1 e2), .int .u64 (s : Int)] [] 0) = .pure (.int .i64 (bndS ls B s), []) := ZE (ZV (ZKf (d := d) h hT hs h0))
end Go.AM.YtgfnbmfjbjopkaaDoor
end
noncomputable section
namespace Go.AM.YtgfnbmfjbjopkaaDoor
open Go Go.AM Go.AM.Mule
def lastI (l : List Int) (i : Nat) : Int := match i with
 | 0 => -1
 | i + 1 => l.getD i 0
def bdE (n : Nat) (l : List Int) (i : Nat) : Int := if l.getD i 0 < 0 ∨ (n : Int) ≤ l.getD i 0 then 2 else if l.getD i 0 ≤ lastI l i then 7 else 0
def boundsE (ls : List Ld) (es : List Pr) (l : List Int) : Int := if chk ls es ≠ 0 then chk ls es else if l.length = 0 then 4 else firstE l.length (bdE ls.length l)
def nats (l : List Int) : List Nat := l.map Int.toNat
def setP (l : List Int) (i : Nat) : Nat := msk (nats (l.take i))
theorem Zpu {n : Nat} {l : List Int} {i : Nat} (h : bdE n l i = 0) : ∃ x : Nat, l.getD i 0 = x ∧ x < n ∧ lastI l i < x := by
 unfold bdE at h
 split at h
 · simp at h
 · rename_i h1
   split at h
   · simp at h
   · rename_i h2
     exact ⟨(l.getD i 0).toNat, by omega, by omega, by omega⟩
theorem ZLB (l : List Nat) (i : Nat) : msk (l ++ [i]) = msk l ||| 1 <<< i := by simp [msk, List.foldl_append]
abbrev bnS (ls : List Ld) (B : List Nat) (n : Nat) (l : List Int) (x1 : Bool) (i : Nat) : St :=
 ([(27, .int .i64 i), (26, .int .i64 l.length), (25, .imm (ics l) l.length x1), (9, .int .i64 (lastI l i)), (8, .int .u64 (setP l i : Nat)), (6, .ptr 6 0 2)],
   [(6, ⟨.box, [.ref 14 0 n n (n * 5) 5 false, .ref 68 0 n n n 1 false]⟩), (14, ⟨.row, cls lc ls⟩), (68, ⟨.row, ucs B⟩)])
theorem Z0of {C : Callee} {ls : List Ld} {B : List Nat} {n : Nat} {l : List Int} {x1 : Bool} (h : TrOk ls B n) (hl : l.length < 900) (i : Nat) (hi : i < l.length) (h0 : bdE n l i = 0) (hs : setP l i < 64) :
   ∃ s', (execA E C (fg 28) 0 54 [] 1000 Z3e) (bnS ls B n l x1 i) = some (.normal, s') ∧ headA [] s' = bnS ls B n l x1 (i + 1) := by
 obtain ⟨x, hx, hxn, hlast⟩ := Zpu h0
 have hk : l[i]? = some (l.getD i 0) := ZU (l := l) hi
 have e1 : lastI l (i + 1) = x := hx
 have e2 : setP l (i + 1) = setP l i ||| 1 <<< x := by
   unfold setP nats
   rw [List.take_add_one, hk, Option.toList_some, List.map_append, List.map_singleton, ZLB, hx]
   rfl
 have hle := h.le
 rw [hx] at hk
 have hat := Z1V hk
 have hil := Zj l
 have hshl := Zbt (i := x) (by omega)
 have hsl := Z5C (show x < 6 by omega)
 have hor := ZH7 (a := setP l i) (b := 1 <<< x) (by omega) (by omega)
 have hlen : (cls lc ls).length = n * 5 := by rw [Z9 Zq, h.l]
 have g1 : (i : Int) < l.length := by omega
 have g2 : ¬ (x : Int) ≥ n := by omega
 have g3 : ¬ (x : Int) ≤ lastI l i := by omega
 simp only [bnS, e1, e2]
 generalize setP l i = s at *
 generalize lastI l i = la at *
 simp (disch := omega) only [ZF, ↓gd, stp, opPick, just, Rd.bind, Rd.run, Rd.opt, upds, tsz, rdCells, fieldOf, Z3, aLoad, Z2, aNum, aLen, Z4, aBin, aInt, Nat.reduceAdd, Nat.reduceLT, Nat.reduceBEq, Nat.reduceEqDiff, Nat.reduceLeDiff, ↓reduceIte, ZT, F_28, g1, g2, g3, hat, hil, hlen, hshl, hor, if_pos, Zc (show i < 1000000 by omega)]
 exact ⟨_, rfl, rfl⟩
theorem Z0i6 {C : Callee} {ls : List Ld} {B : List Nat} {n : Nat} {l : List Int} {x1 : Bool} (h : TrOk ls B n) (_ : l.length < 900) (i : Nat) (hi : i < l.length) (h0 : bdE n l i ≠ 0) :
   ∃ H', (execA E C (fg 28) 0 54 [] 1000 Z3e) (bnS ls B n l x1 i) = some (.ret, ([(5, .int .i64 (bdE n l i)), (4, .int .i64 0)], H')) := by
 have hk : l[i]? = some (l.getD i 0) := ZU (l := l) hi
 have hat := Z1V hk
 have hil := Zj l
 have hlen : (cls lc ls).length = n * 5 := by rw [Z9 Zq, h.l]
 have g1 : (i : Int) < l.length := by omega
 unfold bdE at h0 ⊢
 simp only [bnS]
 generalize setP l i = s at *
 generalize lastI l i = la at *
 generalize l.getD i 0 = x at *
 by_cases c1 : x < 0
 · rw [if_pos (.inl c1)]
   simp (disch := omega) only [ZF, ↓gd, stp, opPick, just, Rd.bind, Rd.run, Rd.opt, upds, tsz, rdCells, aLoad, Z2, aNum, aBin, aInt, Nat.reduceLT, Nat.reduceBEq, Nat.reduceEqDiff, Nat.reduceLeDiff, ↓reduceIte, reduceCtorEq, ZT, F_28, g1, c1, hat, hil]
   exact ⟨_, rfl⟩
 · by_cases c2 : (n : Int) ≤ x
   · rw [if_pos (.inr c2)]
     have c3 : x ≥ n := c2
     simp (disch := omega) only [ZF, ↓gd, stp, opPick, just, Rd.bind, Rd.run, Rd.opt, upds, tsz, rdCells, fieldOf, Z3, aLoad, Z2, aNum, aLen, Z4, aBin, aInt, Nat.reduceAdd, Nat.reduceLT, Nat.reduceBEq, Nat.reduceEqDiff, Nat.reduceLeDiff, ↓reduceIte, ZT, F_28, g1, c1, c3, hat, hil, hlen]
     exact ⟨_, rfl⟩
   · have c3 : ¬ x ≥ n := c2
     have hor : ¬ (x < 0 ∨ (n : Int) ≤ x) := by omega
     rw [if_neg hor] at h0 ⊢
     have c4 : x ≤ la := by
       refine Classical.byContradiction fun hc => h0 ?_
       rw [if_neg hc]
     rw [if_pos c4]
     simp (disch := omega) only [ZF, ↓gd, stp, opPick, just, Rd.bind, Rd.run, Rd.opt, upds, tsz, rdCells, fieldOf, Z3, aLoad, Z2, aNum, aLen, Z4, aBin, aInt, Nat.reduceAdd, Nat.reduceLT, Nat.reduceBEq, Nat.reduceEqDiff, Nat.reduceLeDiff, ↓reduceIte, ZT, F_28, g1, c1, c3, c4, hat, hil, hlen]
     exact ⟨_, rfl⟩
theorem ZyX {n : Nat} {l : List Int} {k : Nat} (hk : k ≤ l.length) (h : ∀ i, i < k → bdE n l i = 0) : setP l k < 2 ^ n := by
 unfold setP
 refine Z0iC fun i hi => ?_
 unfold nats at hi
 obtain ⟨z, hz, rfl⟩ := List.mem_map.1 hi
 obtain ⟨j, hj, rfl⟩ := List.mem_iff_getElem.1 hz
 rw [List.length_take] at hj
 obtain ⟨x, hx, hxn, _⟩ := Zpu (h j (by omega))
 have : (l.take k)[j]'(by rw [List.length_take]; exact hj) = x := by
   rw [List.getElem_take, ← hx]; simp [show j < l.length by omega]
 rw [this]
 omega
theorem Z00n {n : Nat} {l : List Int} (hl : 0 < l.length) (h : ∀ i, i < l.length → bdE n l i = 0) : setP l l.length ≠ 0 := by
 intro e
 obtain ⟨x, hx, hxn, _⟩ := Zpu (h 0 hl)
 have : (setP l l.length).testBit x = true := by
   unfold setP
   rw [Z4T, List.take_length, List.contains_iff_mem]
   unfold nats
   exact List.mem_map.2 ⟨l.getD 0 0, by simp [List.getD_eq_getElem?_getD, hl], by rw [hx]; rfl⟩
 rw [e] at this
 simp at this
theorem Z0it {d : Nat} {ls : List Ld} {es : List Pr} {a b c : AV} {l : List Int} (ha : SV lc ls a) (hb : SV bc es b) (hc : IV l c) (hm : l.length < 900) :
   rsOf (bodyA E (callA E fg 1000 (d + 6)) fg 1000 28 [.agg [a, b], c] [] 0) = some (.tup [.int .i64 (if boundsE ls es l = 0 then bndS ls (sets ls.length es) (setP l l.length) else 0), .int .i64 (boundsE ls es l)]) := by
 have sa := Z2u ha
 have sb := Z2u hb
 have sc := Z8T hc
 by_cases h : chk ls es = 0
 · have hr := fun (site : Nat → Nat) seen hs => ZEM (d := d + 3) (site := site) (seen := seen) ha hb h hs
   obtain ⟨tr, ord, _, _⟩ := Z36 h
   have hlen : (cls lc ls).length = ls.length * 5 := Z9 Zq ls
   have hul : (ucs (sets ls.length es)).length = ls.length := by rw [ZM, tr.b]
   have t1 : List.take (ls.length * 5) (cls lc ls) = cls lc ls := Z6w Zq ls
   have t2 : List.take ls.length (ucs (sets ls.length es)) = ucs (sets ls.length es) := List.take_of_length_le (by omega)
   by_cases h0 : l.length = 0
   · have hE : boundsE ls es l = 4 := by unfold boundsE; rw [if_neg (by simpa using h), if_pos h0]
     rw [hE, if_neg (by omega)]
     have hl0 : l = [] := List.length_eq_zero_iff.1 h0
     subst hl0
     generalize callA E fg 1000 (d + 6) = C at *
     rcases hc with ⟨_, rfl⟩ | ⟨x1, rfl⟩
     · simp (disch := omega) only [ZF, Z7, stp, opBox, justO, just, Rd.bind, Rd.run, Rd.opt, upds, acells, zeroCells, tsz, rdCells, aLoad, aStore, opStore, ZG, resA, resL, fresh, aLen, Z4, aBin, aInt, putC, Nat.reduceAdd, Nat.reduceMul, Nat.reduceBEq, Nat.reduceEqDiff, Nat.reduceLeDiff, ↓reduceIte, reduceCtorEq, aCall, snaps, ZT, F_28, sa 196, sb 195, hr]
     · simp (disch := omega) only [ZF, Z7, stp, opBox, justO, just, Rd.bind, Rd.run, Rd.opt, upds, acells, zeroCells, tsz, rdCells, aLoad, aStore, opStore, ZG, resA, resL, fresh, aLen, Z4, aBin, aInt, putC, Nat.reduceAdd, Nat.reduceMul, Nat.reduceBEq, Nat.reduceEqDiff, Nat.reduceLeDiff, ↓reduceIte, reduceCtorEq, aCall, snaps, ZT, F_28, sa 196, sb 195, hr, ics, cl0]
   · have hE : boundsE ls es l = firstE l.length (bdE ls.length l) := by unfold boundsE; rw [if_neg (by simpa using h), if_neg h0]
     rw [hE]
     obtain ⟨x1, rfl⟩ := Z0mK hc (by omega)
     have hil := Zj l
     have g0 : ¬ (l.length : Int) = 0 := by omega
     have hle := Z2B l.length (fun i => bdE ls.length l i != 0)
     have hz : ∀ i, i < fst1 l.length (fun i => bdE ls.length l i != 0) → bdE ls.length l i = 0 := fun i hi => by simpa using Z2y (p := fun i => bdE ls.length l i != 0) hi
     have hN : 2 ^ ls.length ≤ 64 := Nat.pow_le_pow_right (by omega) tr.le
     have hgo := fun i (hi : i < fst1 l.length (fun i => bdE ls.length l i != 0)) => Z0of (C := callA E fg 1000 (d + 6)) (x1 := x1) tr hm i (by omega) (hz i hi) (Nat.lt_of_lt_of_le (ZyX (n := ls.length) (by omega) fun j hj => hz j (by omega)) hN)
     by_cases hlt : fst1 l.length (fun i => bdE ls.length l i != 0) < l.length
     · have hat := Z2f hlt
       have hF : firstE l.length (bdE ls.length l) = bdE ls.length l (fst1 l.length fun i => bdE ls.length l i != 0) := by unfold firstE; rw [if_pos hlt]
       have hne : bdE ls.length l (fst1 l.length fun i => bdE ls.length l i != 0) ≠ 0 := by simpa using hat
       rw [hF, if_neg hne]
       obtain ⟨H', hbad⟩ := Z0i6 (C := callA E fg 1000 (d + 6)) (x1 := x1) tr hm (fst1 l.length fun i => bdE ls.length l i != 0) hlt hne
       generalize callA E fg 1000 (d + 6) = C at *
       have hloop := Z19 (f := (execA E C (fg 28) 0 54 [] 1000 Z3e)) (hd := headA []) (bnS ls (sets ls.length es) ls.length l x1) (fst1 l.length fun i => bdE ls.length l i != 0) 1000 0
         ([(27, .int .i64 0), (26, .int .i64 l.length), (25, .imm (ics l) l.length x1), (9, .int .i64 (-1)), (8, .int .u64 0), (6, .ptr 6 0 2)], [(2, ⟨.box, [a, b]⟩), (6, ⟨.box, [.ref 14 0 ls.length ls.length (ls.length * 5) 5 false, .ref 68 0 ls.length ls.length ls.length 1 false]⟩), (14, ⟨.row, cls lc ls⟩), (68, ⟨.row, ucs (sets ls.length es)⟩)])
         (by rcases ha with ⟨_, rfl⟩ | ⟨e, rfl⟩ <;> rcases hb with ⟨_, rfl⟩ | ⟨e', rfl⟩ <;> rfl) (by omega) (fun i _ hi => hgo i (by omega)) (by rw [Nat.zero_add]; exact hbad) (by simp)
       generalize sets ls.length es = B at *
       simp (disch := omega) only [ZF, Z7, stp, opBox, justO, just, Rd.bind, Rd.run, Rd.opt, upds, acells, zeroCells, tsz, rdCells, aLoad, aStore, opStore, ZG, resA, resL, fresh, aLen, Z4, aBin, aInt, putC, Nat.reduceAdd, Nat.reduceMul, Nat.reduceBEq, Nat.reduceEqDiff, Nat.reduceLeDiff, Int.reduceNeg, ↓reduceIte, reduceCtorEq, aCall, snaps, ZT, F_28, sa 196, sb 195, hr, g0, hloop]
     · have hF : firstE l.length (bdE ls.length l) = 0 := by unfold firstE; rw [if_neg hlt]
       have e1 : fst1 l.length (fun i => bdE ls.length l i != 0) = l.length := by omega
       rw [e1] at hgo hz
       rw [hF, if_pos rfl]
       have hs := ZyX (n := ls.length) (Nat.le_refl _) hz
       have hs0 := Z00n (n := ls.length) (by omega) hz
       have hbd := fun (site : Nat → Nat) seen => ZG2 (d := d) (site := site) (seen := seen) (e1 := false) (e2 := false) tr ord hs hs0
       generalize callA E fg 1000 (d + 6) = C at *
       have hloop := Z19 (f := (execA E C (fg 28) 0 54 [] 1000 Z3e)) (hd := headA []) (bnS ls (sets ls.length es) ls.length l x1) l.length 1000 0
         ([(27, .int .i64 0), (26, .int .i64 l.length), (25, .imm (ics l) l.length x1), (9, .int .i64 (-1)), (8, .int .u64 0), (6, .ptr 6 0 2)], [(2, ⟨.box, [a, b]⟩), (6, ⟨.box, [.ref 14 0 ls.length ls.length (ls.length * 5) 5 false, .ref 68 0 ls.length ls.length ls.length 1 false]⟩), (14, ⟨.row, cls lc ls⟩), (68, ⟨.row, ucs (sets ls.length es)⟩)])
         (by rcases ha with ⟨_, rfl⟩ | ⟨e, rfl⟩ <;> rcases hb with ⟨_, rfl⟩ | ⟨e', rfl⟩ <;> rfl) (by omega) (fun i _ hi => hgo i (by omega))
         (e := .exit 1) (se := ([(28, .bool false), (27, .int .i64 l.length), (26, .int .i64 l.length), (25, .imm (ics l) l.length x1), (9, .int .i64 (lastI l l.length)), (8, .int .u64 (setP l l.length : Nat)), (6, .ptr 6 0 2)], [(6, ⟨.box, [.ref 14 0 ls.length ls.length (ls.length * 5) 5 false, .ref 68 0 ls.length ls.length ls.length 1 false]⟩), (14, ⟨.row, cls lc ls⟩), (68, ⟨.row, ucs (sets ls.length es)⟩)]))
         (by
           rw [Nat.zero_add]
           simp only [bnS]
           generalize setP l l.length = s at *
           generalize lastI l l.length = la at *
           simp (disch := omega) only [ZF, stp, just, Rd.bind, Rd.run, Rd.opt, upds, aBin, aInt, Nat.reduceEqDiff, Nat.reduceLeDiff, ↓reduceIte, F_28]) (by simp)
       generalize setP l l.length = s at *
       generalize sets ls.length es = B at *
       simp (disch := omega) only [ZF, Z7, stp, opBox, justO, just, Rd.bind, Rd.run, Rd.opt, upds, acells, zeroCells, tsz, rdCells, aLoad, aStore, opStore, ZG, resA, resL, fresh, aLen, Z4, aBin, aInt, putC, Nat.reduceAdd, Nat.reduceMul, Nat.reduceBEq, Nat.reduceEqDiff, Nat.reduceLeDiff, Int.reduceNeg, ↓reduceIte, reduceCtorEq, aCall, snaps, ZT, F_28, sa 196, sb 195, hr, hlen, hul, g0, t1, t2, hbd, hloop]
 · have hr := fun (site : Nat → Nat) seen => ZLl (d := d + 3) (site := site) (seen := seen) ha hb h
   have hE : boundsE ls es l = chk ls es := by unfold boundsE; rw [if_pos h]
   rw [hE, if_neg h]
   generalize callA E fg 1000 (d + 6) = C at *
   generalize chk ls es = z at *
   simp (disch := omega) only [ZF, Z7, stp, opBox, justO, just, Rd.bind, Rd.run, Rd.opt, upds, acells, zeroCells, tsz, rdCells, aLoad, aStore, opStore, ZG, resA, resL, fresh, aLen, Z4, aBin, aInt, putC, Nat.reduceAdd, Nat.reduceBEq, Nat.reduceEqDiff, Nat.reduceLeDiff, ↓reduceIte, reduceCtorEq, aCall, snaps, ZT, F_28, sa 196, sb 195, hr, h]
def boundV (ls : List Ld) (es : List Pr) (l : List Int) : Int := if boundsE ls es l = 0 then bndS ls (sets ls.length es) (setP l l.length) else 0
theorem ZNy {d : Nat} {site : Nat → Nat} {seen : List Nat} {ls : List Ld} {es : List Pr} {a b c : AV} {l : List Int} (ha : SV lc ls a) (hb : SV bc es b) (hc : IV l c) (hm : l.length < 900) :
   aBack site true seen (thaw (callA E fg 1000 (d + 7)) 28 [.agg [a, b], c] [] 0) = .pure (.tup [.int .i64 (boundV ls es l), .int .i64 (boundsE ls es l)], []) := ZGt (ZV (Z0it (d := d) ha hb hc hm))
def provE (ls : List Ld) (es : List Pr) (cost : Int) (l : List Int) : Int := if boundsE ls es l ≠ 0 then boundsE ls es l else if boundV ls es l < cost then 14 else 0
theorem ZGL {d : Nat} {ls : List Ld} {es : List Pr} {a b c : AV} {l : List Int} {cost : Int} (ha : SV lc ls a) (hb : SV bc es b) (hc : IV l c) (hm : l.length < 900) :
   rsOf (bodyA E (callA E fg 1000 (d + 7)) fg 1000 32 [.agg [a, b], .int .i64 cost, c] [] 0) = some (.int .i64 (provE ls es cost l)) := by
 have sa := Z2u ha
 have sb := Z2u hb
 have sc := Z8T hc
 have hr := fun (site : Nat → Nat) seen => ZNy (d := d) (site := site) (seen := seen) ha hb hc hm
 unfold provE
 generalize callA E fg 1000 (d + 7) = C at *
 generalize boundsE ls es l = z at *
 generalize boundV ls es l = v at *
 by_cases h : z = 0
 · rw [if_neg (by simpa using h)]
   subst h
   by_cases h2 : v < cost
   · rw [if_pos h2]
     simp (disch := omega) only [ZF, Z7, stp, opBox, justO, just, Rd.bind, Rd.run, Rd.opt, upds, acells, rdCells, aLoad, ZG, resA, resL, fresh, aBin, aInt, Nat.reduceAdd, Nat.reduceBEq, Nat.reduceEqDiff, Nat.reduceLeDiff, ↓reduceIte, reduceCtorEq, aCall, snaps, ZT, F_32, sa 196, sb 195, sc 197, hr, h2]
   · rw [if_neg h2]
     simp (disch := omega) only [ZF, Z7, stp, opBox, justO, just, Rd.bind, Rd.run, Rd.opt, upds, acells, rdCells, aLoad, ZG, resA, resL, fresh, aBin, aInt, Nat.reduceAdd, Nat.reduceBEq, Nat.reduceEqDiff, Nat.reduceLeDiff, ↓reduceIte, reduceCtorEq, aCall, snaps, ZT, F_32, sa 196, sb 195, sc 197, hr, h2]
 · rw [if_pos h]
   simp (disch := omega) only [ZF, Z7, stp, opBox, justO, just, Rd.bind, Rd.run, Rd.opt, upds, acells, rdCells, aLoad, ZG, resA, resL, fresh, aBin, aInt, Nat.reduceAdd, Nat.reduceBEq, Nat.reduceEqDiff, Nat.reduceLeDiff, ↓reduceIte, reduceCtorEq, aCall, snaps, ZT, F_32, sa 196, sb 195, sc 197, hr, h]
theorem ZyF {d : Nat} {site : Nat → Nat} {seen : List Nat} {ls : List Ld} {es : List Pr} {a b c : AV} {l : List Int} {cost : Int} (ha : SV lc ls a) (hb : SV bc es b) (hc : IV l c) (hm : l.length < 900) :
   aBack site true seen (thaw (callA E fg 1000 (d + 8)) 32 [.agg [a, b], .int .i64 cost, c] [] 0) = .pure (.int .i64 (provE ls es cost l), []) := ZE (ZV (ZGL (d := d) ha hb hc hm))
end Go.AM.YtgfnbmfjbjopkaaDoor
end
end
noncomputable section
noncomputable section
namespace Go.AM.YtgfnbmfjbjopkaaDoor
open Go Go.AM
variable {C : Callee} {B N : Nat} {E0 : AHeap} (φ : AFr) (H : AHeap) (s : St)
def ZdN := kBody Proofs.Tryd.f40
def ZH6 := kL ZdN
def Z9U := kO ZH6
def ZzG := opN Z9U 0
def ZDN := opN Z9U 1
theorem Z0m5 : XG 40 109 ZH6 Z9U [0] := Z1 (by rfl) (by rfl) _
theorem Z09b : Z9U.toList = [ZzG, ZDN] := nf
theorem Z09f : stepA E C B 109 Z9U ZzG (φ, H) = stp (some 2) φ H (opBox (B + 2) (acells (fget φ 0))) := nf
theorem Z01t : stepA E C B 109 Z9U ZDN (φ, H) = stp (some 4) φ H (opBox (B + 4) (zeroCells E.T 25)) := nf
def Zj0 := kR ZdN
def ZHd := kL Zj0
def Zja := kO ZHd
def Zz9 := opN Zja 0
theorem Z0n5 : XG 40 109 ZHd Zja [] := Z1 (by rfl) (by rfl) _
theorem Z01s : Zja.toList = [Zz9] := nf
theorem Z05d : stepA E C B 109 Zja Zz9 (φ, H) = stp (some 5) φ H (opBox (B + 5) (zeroCells E.T 25)) := nf
def Zk1 := kR Zj0
def Zjs := kL Zk1
def ZFV := kL Zjs
def Z0h := kO ZFV
def ZzJ := opN Z0h 0
def Zzd := opN Z0h 1
def ZzE := opN Z0h 2
def ZAP := opN Z0h 3
def ZDA := opN Z0h 4
def ZFh := opN Z0h 5
def ZEV := opN Z0h 6
def ZEu := opN Z0h 7
def ZB6 := opN Z0h 8
def Zzf := opN Z0h 9
theorem Z0ky : XG 40 109 ZFV Z0h [1, 14, 15, 16, 17, 18, 19, 20] := Z1 (by rfl) (by rfl) _
theorem Z08t : Z0h.toList = [ZzJ, Zzd, ZzE, ZAP, ZDA, ZFh, ZEV, ZEu, ZB6, Zzf] := nf
theorem Z063 : stepA E C B 109 Z0h ZzJ (φ, H) = stp (some 14) φ H (just (Z3 E.T 58 (fget φ 2) 1)) := nf
theorem Z0b7 : stepA E C B 109 Z0h Zzd (φ, H) = stp (some 15) φ H (just (Z3 E.T 58 (fget φ 2) 0)) := nf
theorem Z01X : stepA E C B 109 Z0h ZzE (φ, H) = stp (some 16) φ H (just (aLoad E.T 5 (fget φ 15))) := nf
theorem Z0aX : stepA E C B 109 Z0h ZAP (φ, H) = stp (some 17) φ H (justO (aConv E.T 5 3 (fget φ 16))) := nf
theorem Z03W : stepA E C B 109 Z0h ZDA (φ, H) = some (fput φ 18 (fget φ 1), H) := nf
theorem Z0aK : stepA E C B 109 Z0h ZFh (φ, H) = stp (some 19) φ H (just (aBin E.T .rem 3 (fget φ 17) (fget φ 18))) := nf
theorem Z0b6 : stepA E C B 109 Z0h ZEV (φ, H) = stp (some 20) φ H (just (aBin E.T .add 3 (.int .i64 1) (fget φ 19))) := nf
theorem Z03z : stepA E C B 109 Z0h ZEu (φ, H) = stp (some 21) φ H (just (aSlice E.T 54 (fget φ 14) none (some (fget φ 20)) none)) := nf
theorem Z01N : stepA E C B 109 Z0h ZB6 (φ, H) = stp (some 22) φ H (Z4 E.T (B + 22) .len #[135] [(fget φ 21)]) := nf
theorem Z08P : stepA E C B 109 Z0h Zzf (φ, H) = some (fput φ 23 (.int .i64 0), H) := nf
def ZGv := kR Zjs
def ZGF := kB ZGv
def Z98 := kB ZGF
def Zql := kL Z98
def ZjU := kO Zql
def ZC2 := opN ZjU 0
theorem Z0cH : XG 40 109 Zql ZjU [] := Z1 (by rfl) (by rfl) _
theorem Z0ae : ZjU.toList = [ZC2] := nf
theorem Z060 : stepA E C B 109 ZjU ZC2 (φ, H) = stp (some 24) φ H (just (aBin E.T .lss 3 (fget φ 23) (fget φ 22))) := nf
def Zd3 := kR Z98
def ZcJ := kL Zd3
def ZIl := kT ZcJ
theorem Z0cU : execA E C (fg 40) B 109 E0 N ZIl s = some (.normal, s) := Zh (by rfl) s
def ZHC := kE ZcJ
theorem Z0ei : execA E C (fg 40) B 109 E0 N ZHC s = some (.exit 0, s) := ZO (by rfl) s
theorem Z0hm : XC 40 109 ZcJ 24 ZIl ZHC := Zb (by rfl) _
def ZaT := kR Zd3
def Zlm := kL ZaT
def Zd9 := kB Zlm
def ZnU := kL Zd9
def Z2Q := kO ZnU
def ZAX := opN Z2Q 0
def ZCf := opN Z2Q 1
def ZFc := opN Z2Q 2
def ZES := opN Z2Q 3
theorem Z0dO : XG 40 109 ZnU Z2Q [24, 25, 26] := Z1 (by rfl) (by rfl) _
theorem Z082 : Z2Q.toList = [ZAX, ZCf, ZFc, ZES] := nf
theorem Z0aE : stepA E C B 109 Z2Q ZAX (φ, H) = stp (some 25) φ H (just (Z2 E.T 135 (fget φ 21) (fget φ 23))) := nf
theorem Z0bj : stepA E C B 109 Z2Q ZCf (φ, H) = stp (some 26) φ H (just (aLoad E.T 53 (fget φ 25))) := nf
theorem Z09W : stepA E C B 109 Z2Q ZFc (φ, H) = stp (some 7) φ H (opBox (B + 7) (zeroCells E.T 53)) := nf
theorem Z02z : stepA E C B 109 Z2Q ZES (φ, H) = stp none φ H (opStore E.T 53 (fget φ 7) (fget φ 26)) := nf
def Zbw := kR Zd9
def ZoF := kL Zbw
def Zr := kO ZoF
def ZAQ := opN Zr 0
def Zzb := opN Zr 1
def ZzK := opN Zr 2
def ZCq := opN Zr 3
def ZAN := opN Zr 4
def ZER := opN Zr 5
def ZAI := opN Zr 6
def ZEG := opN Zr 7
def ZDe := opN Zr 8
def ZDr := opN Zr 9
def ZmF := opN Zr 10
def Zn2 := opN Zr 11
def ZrL := opN Zr 12
def Zpv := opN Zr 13
def Zxh := opN Zr 14
def ZrK := opN Zr 15
def Ztv := opN Zr 16
def Ztb := opN Zr 17
def Zx6 := opN Zr 18
def Zkm := opN Zr 19
theorem Z0ck : XG 40 109 ZoF Zr [27, 28, 29, 30, 31, 32, 33, 34, 35, 36, 37, 38, 39, 40, 41, 42, 43, 44] := Z1 (by rfl) (by rfl) _
theorem Z01a : Zr.toList = [ZAQ, Zzb, ZzK, ZCq, ZAN, ZER, ZAI, ZEG, ZDe, ZDr, ZmF, Zn2, ZrL, Zpv, Zxh, ZrK, Ztv, Ztb, Zx6, Zkm] := nf
theorem Z01H : stepA E C B 109 Zr ZAQ (φ, H) = stp (some 27) φ H (just (Z2 E.T 53 (fget φ 7) (.int .i64 0))) := nf
theorem Z07N : stepA E C B 109 Zr Zzb (φ, H) = stp (some 28) φ H (just (aLoad E.T 5 (fget φ 27))) := nf
theorem Z0aD : stepA E C B 109 Zr ZzK (φ, H) = stp (some 29) φ H (justO (aConv E.T 5 3 (fget φ 28))) := nf
theorem Z04A : stepA E C B 109 Zr ZCq (φ, H) = stp (some 30) φ H (just (aBin E.T .rem 3 (fget φ 29) (.int .i64 9))) := nf
theorem Z06i : stepA E C B 109 Zr ZAN (φ, H) = stp (some 31) φ H (just (aBin E.T .add 3 (.int .i64 1) (fget φ 30))) := nf
theorem Z08k : stepA E C B 109 Zr ZER (φ, H) = stp (some 32) φ H (just (Z2 E.T 53 (fget φ 7) (.int .i64 2))) := nf
theorem Z04T : stepA E C B 109 Zr ZAI (φ, H) = stp (some 33) φ H (just (aLoad E.T 5 (fget φ 32))) := nf
theorem Z0aC : stepA E C B 109 Zr ZEG (φ, H) = stp (some 34) φ H (justO (aConv E.T 5 3 (fget φ 33))) := nf
theorem Z0a6 : stepA E C B 109 Zr ZDe (φ, H) = stp (some 35) φ H (just (aBin E.T .rem 3 (fget φ 34) (.int .i64 30))) := nf
theorem Z033 : stepA E C B 109 Zr ZDr (φ, H) = stp (some 36) φ H (just (Z2 E.T 53 (fget φ 7) (.int .i64 3))) := nf
theorem ZSj : stepA E C B 109 Zr ZmF (φ, H) = stp (some 37) φ H (just (aLoad E.T 5 (fget φ 36))) := nf
theorem ZPA : stepA E C B 109 Zr Zn2 (φ, H) = stp (some 38) φ H (justO (aConv E.T 5 3 (fget φ 37))) := nf
theorem ZS8 : stepA E C B 109 Zr ZrL (φ, H) = stp (some 39) φ H (just (aBin E.T .rem 3 (fget φ 38) (.int .i64 6))) := nf
theorem ZXD : stepA E C B 109 Zr Zpv (φ, H) = stp (some 40) φ H (just (Z2 E.T 53 (fget φ 7) (.int .i64 4))) := nf
theorem ZUW : stepA E C B 109 Zr Zxh (φ, H) = stp (some 41) φ H (just (aLoad E.T 5 (fget φ 40))) := nf
theorem ZU5 : stepA E C B 109 Zr ZrK (φ, H) = stp (some 42) φ H (justO (aConv E.T 5 3 (fget φ 41))) := nf
theorem ZWD : stepA E C B 109 Zr Ztv (φ, H) = stp (some 43) φ H (just (aBin E.T .rem 3 (fget φ 42) (.int .i64 8))) := nf
theorem ZQD : stepA E C B 109 Zr Ztb (φ, H) = stp (some 44) φ H (justO (aBuild E.T 62 (evO E φ) [(0, Operand.tmp 31), (2, Operand.tmp 35), (3, Operand.tmp 39), (4, Operand.tmp 43)])) := nf
theorem ZZf : stepA E C B 109 Zr Zx6 (φ, H) = stp (some 8) φ H (opBox (B + 8) (zeroCells E.T 62)) := nf
theorem ZQC : stepA E C B 109 Zr Zkm (φ, H) = stp none φ H (opStore E.T 62 (fget φ 8) (fget φ 44)) := nf
def Zf9 := kR Zbw
def ZnQ := kL Zf9
def ZJ := kO ZnQ
def ZAL := opN ZJ 0
def ZEI := opN ZJ 1
def ZBr := opN ZJ 2
def ZBv := opN ZJ 3
def ZAq := opN ZJ 4
def ZE9 := opN ZJ 5
def ZEF := opN ZJ 6
def Zz2 := opN ZJ 7
def ZCV := opN ZJ 8
def Zzx := opN ZJ 9
def Zvf := opN ZJ 10
def Zlq := opN ZJ 11
theorem Z0bU : XD 40 109 ZnQ ZJ [7, 45, 46, 47, 48, 49, 50, 51, 52, 53, 54, 55] := Z1c (by rfl) (by rfl) _
theorem Z09x : ZJ.toList = [ZAL, ZEI, ZBr, ZBv, ZAq, ZE9, ZEF, Zz2, ZCV, Zzx, Zvf, Zlq] := nf
theorem ZRs : statOk ZJ = true := by kernel_rfl
theorem ZWe : drawA E C B 109 ZJ s = if neat 109 s = true then drX ZJ (runT E C B 109 ZJ ZJ.toList 0 s) else none := Z0G ZRs s
theorem ZWr (l : List (Nat × Tr)) : dynOk ZJ l = (!writing l || Zg [[], [0], [], [2], [2, 3], [], [5], [5, 6], [2, 3, 4, 5, 6, 7], [0, 1, 2, 3, 4, 5, 6, 7, 8], [0, 1, 2, 3, 4, 5, 6, 7, 8, 9], [0, 1, 2, 3, 4, 5, 6, 7, 8, 9, 10]] (Ze l)) := Z0r (by kernel_rfl) l
theorem Z01L : stepT E C B 109 ZJ ZAL (φ, H) = stpT (some 45) φ H (just (Z3 E.T 62 (fget φ 8) 0)) := Z5 rfl (Z8 rfl rfl)
theorem Z09c : stepT E C B 109 ZJ ZEI (φ, H) = stpT (some 46) φ H (just (aLoad E.T 3 (fget φ 45))) := Z5 rfl (Z8 rfl rfl)
theorem Z02C : stepT E C B 109 ZJ ZBr (φ, H) = stpT (some 47) φ H (just (Z2 E.T 53 (fget φ 7) (.int .i64 1))) := Z5 rfl (Z8 rfl rfl)
theorem Z003 : stepT E C B 109 ZJ ZBv (φ, H) = stpT (some 48) φ H (just (aLoad E.T 5 (fget φ 47))) := Z5 rfl (Z8 rfl rfl)
theorem Z05D : stepT E C B 109 ZJ ZAq (φ, H) = stpT (some 49) φ H (justO (aConv E.T 5 3 (fget φ 48))) := Z5 rfl (Z8 rfl rfl)
theorem Z01b : stepT E C B 109 ZJ ZE9 (φ, H) = stpT (some 50) φ H (just (Z3 E.T 62 (fget φ 8) 0)) := Z5 rfl (Z8 rfl rfl)
theorem Z05W : stepT E C B 109 ZJ ZEF (φ, H) = stpT (some 51) φ H (just (aLoad E.T 3 (fget φ 50))) := Z5 rfl (Z8 rfl rfl)
theorem ZZX : stepT E C B 109 ZJ Zz2 (φ, H) = stpT (some 52) φ H (just (aBin E.T .sub 3 (.int .i64 10) (fget φ 51))) := Z5 rfl (Z8 rfl rfl)
theorem Z02o : stepT E C B 109 ZJ ZCV (φ, H) = stpT (some 53) φ H (just (aBin E.T .rem 3 (fget φ 49) (fget φ 52))) := Z5 rfl (Z8 rfl rfl)
theorem Z00G : stepT E C B 109 ZJ Zzx (φ, H) = stpT (some 54) φ H (just (aBin E.T .add 3 (fget φ 46) (fget φ 53))) := Z5 rfl (Z8 rfl rfl)
theorem ZQf : stepT E C B 109 ZJ Zvf (φ, H) = stpT (some 55) φ H (just (Z3 E.T 62 (fget φ 8) 1)) := Z5 rfl (Z8 rfl rfl)
theorem ZWC : stepT E C B 109 ZJ Zlq (φ, H) = stpT none φ H (opStore E.T 3 (fget φ 55) (fget φ 54)) := Z5 rfl (Z8 rfl rfl)
def ZpZ := kR Zf9
def Z11 := kO ZpZ
def Zz3 := opN Z11 0
def ZDd := opN Z11 1
def ZFA := opN Z11 2
def ZzR := opN Z11 3
def ZDT := opN Z11 4
def Zzr := opN Z11 5
def ZE5 := opN Z11 6
theorem Z0gK : XG 40 109 ZpZ Z11 [8, 56, 57, 58, 59, 60, 61] := Z1 (by rfl) (by rfl) _
theorem Z07D : Z11.toList = [Zz3, ZDd, ZFA, ZzR, ZDT, Zzr, ZE5] := nf
theorem Z06L : stepA E C B 109 Z11 Zz3 (φ, H) = stp (some 56) φ H (just (Z3 E.T 25 (fget φ 5) 0)) := nf
theorem Z08l : stepA E C B 109 Z11 ZDd (φ, H) = stp (some 57) φ H (just (aLoad E.T 22 (fget φ 56))) := nf
theorem Z05M : stepA E C B 109 Z11 ZFA (φ, H) = stp (some 58) φ H (just (aLoad E.T 62 (fget φ 8))) := nf
theorem Z04Z : stepA E C B 109 Z11 ZzR (φ, H) = stp (some 59) φ H (Zd E.T (B + 59) 22 1 (evO E φ) [(0, Operand.tmp 58)]) := nf
theorem Z00k : stepA E C B 109 Z11 ZDT (φ, H) = stp (some 60) φ H (Z4 E.T (B + 60) .append #[22, 22] [(fget φ 57), (fget φ 59)]) := nf
theorem Z08S : stepA E C B 109 Z11 Zzr (φ, H) = stp (some 61) φ H (just (Z3 E.T 25 (fget φ 5) 0)) := nf
theorem Z09Y : stepA E C B 109 Z11 ZE5 (φ, H) = stp none φ H (opStore E.T 22 (fget φ 61) (fget φ 60)) := nf
theorem Z0iW : XQ 40 109 Zf9 ZnQ ZpZ := Z0 (by rfl) _
theorem Z0he : XQ 40 109 Zbw ZoF Zf9 := Z0 (by rfl) _
theorem Z0eY : XQ 40 109 Zd9 ZnU Zbw := Z0 (by rfl) _
theorem Z0jU : execA E C (fg 40) B 109 E0 N Zlm s = blockX 1 (fun s => (forget s.1 [], s.2)) (execA E C (fg 40) B 109 E0 N Zd9 s) := Za (by rfl) (by rfl) s
def Zoh := kR ZaT
def Z9y := kO Zoh
def ZDm := opN Z9y 0
def ZBi := opN Z9y 1
theorem Z0hY : XG 40 109 Zoh Z9y [62] := Z1 (by rfl) (by rfl) _
theorem Z076 : Z9y.toList = [ZDm, ZBi] := nf
theorem Z08O : stepA E C B 109 Z9y ZDm (φ, H) = stp (some 62) φ H (just (aBin E.T .add 3 (fget φ 23) (.int .i64 1))) := nf
theorem Z009 : stepA E C B 109 Z9y ZBi (φ, H) = some (fput φ 23 (fget φ 62), H) := nf
theorem Z0k8 : XQ 40 109 ZaT Zlm Zoh := Z0 (by rfl) _
theorem Z0hP : XQ 40 109 Zd3 ZcJ ZaT := Z0 (by rfl) _
theorem Z0nN : XQ 40 109 Z98 Zql Zd3 := Z0 (by rfl) _
theorem Z0nO : execA E C (fg 40) B 109 E0 N ZGF s = iterA (execA E C (fg 40) B 109 E0 N Z98) (headA E0) N s := ZN (by rfl) s
theorem Z0lK : execA E C (fg 40) B 109 E0 N ZGv s = blockX 0 (fun s => (forget s.1 [21, 22, 23, 24], s.2)) (execA E C (fg 40) B 109 E0 N ZGF s) := Za (by rfl) (by rfl) s
theorem Z0ow : XQ 40 109 Zjs ZFV ZGv := Z0 (by rfl) _
def ZbF := kR Zk1
def Zma := kL ZbF
def Z2I := kO Zma
def Zzh := opN Z2I 0
def ZCE := opN Z2I 1
def ZAU := opN Z2I 2
def ZEg := opN Z2I 3
theorem Z0fL : XG 40 109 Zma Z2I [63, 64, 65] := Z1 (by rfl) (by rfl) _
theorem Z04x : Z2I.toList = [Zzh, ZCE, ZAU, ZEg] := nf
theorem Z08C : stepA E C B 109 Z2I Zzh (φ, H) = stp (some 63) φ H (just (Z3 E.T 25 (fget φ 5) 0)) := nf
theorem Z01Q : stepA E C B 109 Z2I ZCE (φ, H) = stp (some 64) φ H (just (aLoad E.T 22 (fget φ 63))) := nf
theorem Z01h : stepA E C B 109 Z2I ZAU (φ, H) = stp (some 65) φ H (Z4 E.T (B + 65) .len #[22] [(fget φ 64)]) := nf
theorem Z0az : stepA E C B 109 Z2I ZEg (φ, H) = some (fput φ 9 (fget φ 65), H) := nf
def Zcx := kR ZbF
def Zrz := kL Zcx
def Z67 := kO Zrz
def Zxa := opN Z67 0
def Zya := opN Z67 1
theorem Z0dT : XG 40 109 Zrz Z67 [66] := Z1 (by rfl) (by rfl) _
theorem ZXi : Z67.toList = [Zxa, Zya] := nf
theorem ZNU : stepA E C B 109 Z67 Zxa (φ, H) = stp (some 66) φ H (.pure (.clo 111 [(fget φ 2)], [])) := nf
theorem ZTM : stepA E C B 109 Z67 Zya (φ, H) = some (fput φ 10 (fget φ 66), H) := nf
def Ze6 := kR Zcx
def ZpR := kL Ze6
def ZbI := kO ZpR
def ZvA := opN ZbI 0
theorem Z0bO : XG 40 109 ZpR ZbI [] := Z1 (by rfl) (by rfl) _
theorem ZZ9 : ZbI.toList = [ZvA] := nf
theorem ZQz : stepA E C B 109 ZbI ZvA (φ, H) = some (fput φ 11 (.int .i64 0), H) := nf
def Zbd := kR Ze6
def Zdc := kL Zbd
def ZwP := kL Zdc
def Z55 := kO ZwP
def Zum := opN Z55 0
def Zli := opN Z55 1
theorem Z0e4 : XG 40 109 ZwP Z55 [9] := Z1 (by rfl) (by rfl) _
theorem ZPR : Z55.toList = [Zum, Zli] := nf
theorem ZN7 : stepA E C B 109 Z55 Zum (φ, H) = some (fput φ 67 (fget φ 9), H) := nf
theorem ZNV : stepA E C B 109 Z55 Zli (φ, H) = some (fput φ 68 (.int .i64 0), H) := nf
def ZkV := kR Zdc
def Zyi := kB ZkV
def Z4n := kB Zyi
def Zsv := kL Z4n
def Zch := kO Zsv
def Zo9 := opN Zch 0
theorem Z0hA : XG 40 109 Zsv Zch [] := Z1 (by rfl) (by rfl) _
theorem ZTH : Zch.toList = [Zo9] := nf
theorem ZTS : stepA E C B 109 Zch Zo9 (φ, H) = stp (some 69) φ H (just (aBin E.T .lss 3 (fget φ 68) (fget φ 67))) := nf
def Zdi := kR Z4n
def Zf8 := kL Zdi
def ZL6 := kT Zf8
theorem Z0bt : execA E C (fg 40) B 109 E0 N ZL6 s = some (.normal, s) := Zh (by rfl) s
def ZHU := kE Zf8
theorem Z0ep : execA E C (fg 40) B 109 E0 N ZHU s = some (.exit 2, s) := ZO (by rfl) s
theorem Z0gj : XC 40 109 Zf8 69 ZL6 ZHU := Zb (by rfl) _
def ZeM := kR Zdi
def ZwL := kL ZeM
def Zfc := kB ZwL
def Zsl := kL Zfc
def Z5s := kO Zsl
def ZnW := opN Z5s 0
def Zn6 := opN Z5s 1
theorem Z0hc : XG 40 109 Zsl Z5s [69, 70] := Z1 (by rfl) (by rfl) _
theorem ZPI : Z5s.toList = [ZnW, Zn6] := nf
theorem ZRa : stepA E C B 109 Z5s ZnW (φ, H) = some (fput φ 70 (fget φ 68), H) := nf
theorem ZRK : stepA E C B 109 Z5s Zn6 (φ, H) = some (fput φ 12 (fget φ 70), H) := nf
def Zbv := kR Zfc
def Ztu := kL Zbv
def Z6d := kO Ztu
def Zpa := opN Z6d 0
def ZsT := opN Z6d 1
theorem Z0dZ : XG 40 109 Ztu Z6d [] := Z1 (by rfl) (by rfl) _
theorem ZMk : Z6d.toList = [Zpa, ZsT] := nf
theorem ZWG : stepA E C B 109 Z6d Zpa (φ, H) = some (fput φ 71 (fget φ 12), H) := nf
theorem ZMe : stepA E C B 109 Z6d ZsT (φ, H) = some (fput φ 72 (.int .i64 0), H) := nf
def Zyj := kR Zbv
def ZyA := kB Zyj
def Z3V := kB ZyA
def Zqe := kL Z3V
def ZbD := kO Zqe
def Zv0 := opN ZbD 0
theorem Z0ci : XG 40 109 Zqe ZbD [] := Z1 (by rfl) (by rfl) _
theorem ZQE : ZbD.toList = [Zv0] := nf
theorem ZTo : stepA E C B 109 ZbD Zv0 (φ, H) = stp (some 73) φ H (just (aBin E.T .lss 3 (fget φ 72) (fget φ 71))) := nf
def Zbf := kR Z3V
def ZaL := kL Zbf
def ZI8 := kT ZaL
theorem Z0gZ : execA E C (fg 40) B 109 E0 N ZI8 s = some (.normal, s) := Zh (by rfl) s
def ZJk := kE ZaL
theorem Z0jz : execA E C (fg 40) B 109 E0 N ZJk s = some (.exit 4, s) := ZO (by rfl) s
theorem Z0iM : XC 40 109 ZaL 73 ZI8 ZJk := Zb (by rfl) _
def Zbl := kR Zbf
def Zui := kL Zbl
def Zdl := kB Zui
def ZrN := kL Zdl
def Z59 := kO ZrN
def Znz := opN Z59 0
def Zps := opN Z59 1
theorem Z0dG : XG 40 109 ZrN Z59 [73, 74] := Z1 (by rfl) (by rfl) _
theorem ZRR : Z59.toList = [Znz, Zps] := nf
theorem ZPD : stepA E C B 109 Z59 Znz (φ, H) = some (fput φ 74 (fget φ 72), H) := nf
theorem ZMr : stepA E C B 109 Z59 Zps (φ, H) = some (fput φ 13 (fget φ 74), H) := nf
def ZbK := kR Zdl
def Zet := kL ZbK
def ZoR := kL Zet
def Z0I := kO ZoR
def ZlG := opN Z0I 0
def Zyf := opN Z0I 1
def Ztz := opN Z0I 2
def Zmu := opN Z0I 3
def Zrb := opN Z0I 4
def Znt := opN Z0I 5
theorem Z0iE : XG 40 109 ZoR Z0I [75, 76, 77, 78, 79] := Z1 (by rfl) (by rfl) _
theorem ZYq : Z0I.toList = [ZlG, Zyf, Ztz, Zmu, Zrb, Znt] := nf
theorem ZZe : stepA E C B 109 Z0I ZlG (φ, H) = stp (some 75) φ H (just (Z3 E.T 58 (fget φ 2) 2)) := nf
theorem ZTa : stepA E C B 109 Z0I Zyf (φ, H) = stp (some 76) φ H (just (aLoad E.T 55 (fget φ 75))) := nf
theorem ZVR : stepA E C B 109 Z0I Ztz (φ, H) = some (fput φ 77 (fget φ 11), H) := nf
theorem ZW4 : stepA E C B 109 Z0I Zmu (φ, H) = stp (some 78) φ H (just (aBin E.T .shr 55 (fget φ 76) (fget φ 77))) := nf
theorem ZOm : stepA E C B 109 Z0I Zrb (φ, H) = stp (some 79) φ H (just (aBin E.T .and 55 (fget φ 78) (.int .u16 1))) := nf
theorem ZUS : stepA E C B 109 Z0I Znt (φ, H) = stp (some 80) φ H (just (aBin E.T .eql 55 (fget φ 79) (.int .u16 1))) := nf
def Zbe := kR Zet
def ZbM := kT Zbe
def ZuH := kL ZbM
def Z0w := kO ZuH
def Zvy := opN Z0w 0
def Zkp := opN Z0w 1
def ZvN := opN Z0w 2
def Zqs := opN Z0w 3
def Zv9 := opN Z0w 4
def ZpE := opN Z0w 5
def Znw := opN Z0w 6
theorem Z0jb : XG 40 109 ZuH Z0w [80, 81, 82, 83, 84, 85, 86] := Z1 (by rfl) (by rfl) _
theorem ZNB : Z0w.toList = [Zvy, Zkp, ZvN, Zqs, Zv9, ZpE, Znw] := nf
theorem ZYD : stepA E C B 109 Z0w Zvy (φ, H) = some (fput φ 81 (fget φ 10), H) := nf
theorem ZSy : stepA E C B 109 Z0w Zkp (φ, H) = some (fput φ 82 (fget φ 13), H) := nf
theorem ZYE : stepA E C B 109 Z0w ZvN (φ, H) = callV E C (B + 109 * 8) (some 83) (fun j => B + j * 109 + 83) φ H (fget φ 81) [(fget φ 82)] true := nf
theorem ZNA : stepA E C B 109 Z0w Zqs (φ, H) = some (fput φ 84 (fget φ 10), H) := nf
theorem ZWR : stepA E C B 109 Z0w Zv9 (φ, H) = some (fput φ 85 (fget φ 12), H) := nf
theorem ZX4 : stepA E C B 109 Z0w ZpE (φ, H) = callV E C (B + 109 * 8) (some 86) (fun j => B + j * 109 + 86) φ H (fget φ 84) [(fget φ 85)] true := nf
theorem ZVw : stepA E C B 109 Z0w Znw (φ, H) = stp (some 87) φ H (just (aBin E.T .lss 3 (fget φ 83) (fget φ 86))) := nf
def Zfe := kR ZbM
def ZsN := kT Zfe
def Z08 := kO ZsN
def Znl := opN Z08 0
def ZtR := opN Z08 1
def Zmk := opN Z08 2
def ZsL := opN Z08 3
def Zvq := opN Z08 4
def ZtJ := opN Z08 5
def ZoI := opN Z08 6
def ZoE := opN Z08 7
def ZmB := opN Z08 8
theorem Z0hq : XG 40 109 ZsN Z08 [13, 87, 88, 89, 90, 91, 92, 93, 94, 95] := Z1 (by rfl) (by rfl) _
theorem ZTd : Z08.toList = [Znl, ZtR, Zmk, ZsL, Zvq, ZtJ, ZoI, ZoE, ZmB] := nf
theorem ZUZ : stepA E C B 109 Z08 Znl (φ, H) = stp (some 88) φ H (just (Z3 E.T 25 (fget φ 5) 1)) := nf
theorem ZXb : stepA E C B 109 Z08 ZtR (φ, H) = stp (some 89) φ H (just (aLoad E.T 23 (fget φ 88))) := nf
theorem ZXU : stepA E C B 109 Z08 Zmk (φ, H) = some (fput φ 90 (fget φ 13), H) := nf
theorem ZTn : stepA E C B 109 Z08 ZsL (φ, H) = some (fput φ 91 (fget φ 12), H) := nf
theorem ZVc : stepA E C B 109 Z08 Zvq (φ, H) = stp (some 92) φ H (justO (aBuild E.T 64 (evO E φ) [(0, Operand.tmp 90), (1, Operand.tmp 91)])) := nf
theorem ZWQ : stepA E C B 109 Z08 ZtJ (φ, H) = stp (some 93) φ H (Zd E.T (B + 93) 23 1 (evO E φ) [(0, Operand.tmp 92)]) := nf
theorem ZXG : stepA E C B 109 Z08 ZoI (φ, H) = stp (some 94) φ H (Z4 E.T (B + 94) .append #[23, 23] [(fget φ 89), (fget φ 93)]) := nf
theorem ZT4 : stepA E C B 109 Z08 ZoE (φ, H) = stp (some 95) φ H (just (Z3 E.T 25 (fget φ 5) 1)) := nf
theorem ZQp : stepA E C B 109 Z08 ZmB (φ, H) = stp none φ H (opStore E.T 23 (fget φ 95) (fget φ 94)) := nf
def ZrH := kE Zfe
def Z07 := kO ZrH
def Zwc := opN Z07 0
def ZlB := opN Z07 1
def Zob := opN Z07 2
def Ztq := opN Z07 3
def ZlO := opN Z07 4
def ZkE := opN Z07 5
def ZoW := opN Z07 6
def Zor := opN Z07 7
def Zu6 := opN Z07 8
theorem Z0eO : XG 40 109 ZrH Z07 [13, 87, 96, 97, 98, 99, 100, 101, 102, 103] := Z1 (by rfl) (by rfl) _
theorem ZRD : Z07.toList = [Zwc, ZlB, Zob, Ztq, ZlO, ZkE, ZoW, Zor, Zu6] := nf
theorem ZYG : stepA E C B 109 Z07 Zwc (φ, H) = stp (some 96) φ H (just (Z3 E.T 25 (fget φ 5) 1)) := nf
theorem ZQT : stepA E C B 109 Z07 ZlB (φ, H) = stp (some 97) φ H (just (aLoad E.T 23 (fget φ 96))) := nf
theorem ZRM : stepA E C B 109 Z07 Zob (φ, H) = some (fput φ 98 (fget φ 12), H) := nf
theorem ZNI : stepA E C B 109 Z07 Ztq (φ, H) = some (fput φ 99 (fget φ 13), H) := nf
theorem ZYp : stepA E C B 109 Z07 ZlO (φ, H) = stp (some 100) φ H (justO (aBuild E.T 64 (evO E φ) [(0, Operand.tmp 98), (1, Operand.tmp 99)])) := nf
theorem ZWK : stepA E C B 109 Z07 ZkE (φ, H) = stp (some 101) φ H (Zd E.T (B + 101) 23 1 (evO E φ) [(0, Operand.tmp 100)]) := nf
theorem ZTD : stepA E C B 109 Z07 ZoW (φ, H) = stp (some 102) φ H (Z4 E.T (B + 102) .append #[23, 23] [(fget φ 97), (fget φ 101)]) := nf
theorem ZSn : stepA E C B 109 Z07 Zor (φ, H) = stp (some 103) φ H (just (Z3 E.T 25 (fget φ 5) 1)) := nf
theorem ZXa : stepA E C B 109 Z07 Zu6 (φ, H) = stp none φ H (opStore E.T 23 (fget φ 103) (fget φ 102)) := nf
theorem Z0jP : XC 40 109 Zfe 87 ZsN ZrH := Zb (by rfl) _
theorem Z0gX : XQ 40 109 ZbM ZuH Zfe := Z0 (by rfl) _
def ZKz := kE Zbe
theorem Z0ih : execA E C (fg 40) B 109 E0 N ZKz s = some (.normal, s) := Zh (by rfl) s
theorem Z0c3 : XC 40 109 Zbe 80 ZbM ZKz := Zb (by rfl) _
theorem Z0i7 : XQ 40 109 Zet ZoR Zbe := Z0 (by rfl) _
def Zox := kR ZbK
def Z3u := kO Zox
def Zwf := opN Z3u 0
def ZmZ := opN Z3u 1
def Zu8 := opN Z3u 2
theorem Z0hI : XG 40 109 Zox Z3u [13, 80, 104, 105] := Z1 (by rfl) (by rfl) _
theorem ZLG : Z3u.toList = [Zwf, ZmZ, Zu8] := nf
theorem ZMB : stepA E C B 109 Z3u Zwf (φ, H) = some (fput φ 104 (fget φ 11), H) := nf
theorem ZNP : stepA E C B 109 Z3u ZmZ (φ, H) = stp (some 105) φ H (just (aBin E.T .add 3 (fget φ 104) (.int .i64 1))) := nf
theorem ZWi : stepA E C B 109 Z3u Zu8 (φ, H) = some (fput φ 11 (fget φ 105), H) := nf
theorem Z0cW : XQ 40 109 ZbK Zet Zox := Z0 (by rfl) _
theorem Z0dA : XQ 40 109 Zdl ZrN ZbK := Z0 (by rfl) _
theorem Z0jj : execA E C (fg 40) B 109 E0 N Zui s = blockX 5 (fun s => (forget s.1 [], s.2)) (execA E C (fg 40) B 109 E0 N Zdl s) := Za (by rfl) (by rfl) s
def Zl6 := kR Zbl
def Z5B := kO Zl6
def Zxl := opN Z5B 0
def ZlX := opN Z5B 1
theorem Z0bw : XG 40 109 Zl6 Z5B [106] := Z1 (by rfl) (by rfl) _
theorem ZN0 : Z5B.toList = [Zxl, ZlX] := nf
theorem ZYT : stepA E C B 109 Z5B Zxl (φ, H) = stp (some 106) φ H (just (aBin E.T .add 3 (fget φ 72) (.int .i64 1))) := nf
theorem ZX8 : stepA E C B 109 Z5B ZlX (φ, H) = some (fput φ 72 (fget φ 106), H) := nf
theorem Z0iR : XQ 40 109 Zbl Zui Zl6 := Z0 (by rfl) _
theorem Z0ea : XQ 40 109 Zbf ZaL Zbl := Z0 (by rfl) _
theorem Z0da : XQ 40 109 Z3V Zqe Zbf := Z0 (by rfl) _
theorem Z0k5 : execA E C (fg 40) B 109 E0 N ZyA s = iterA (execA E C (fg 40) B 109 E0 N Z3V) (headA E0) N s := ZN (by rfl) s
theorem Z0g5 : execA E C (fg 40) B 109 E0 N Zyj s = blockX 4 (fun s => (forget s.1 [12, 71, 72, 73], s.2)) (execA E C (fg 40) B 109 E0 N ZyA s) := Za (by rfl) (by rfl) s
theorem Z0eZ : XQ 40 109 Zbv Ztu Zyj := Z0 (by rfl) _
theorem Z0dN : XQ 40 109 Zfc Zsl Zbv := Z0 (by rfl) _
theorem Z0jq : execA E C (fg 40) B 109 E0 N ZwL s = blockX 3 (fun s => (forget s.1 [], s.2)) (execA E C (fg 40) B 109 E0 N Zfc s) := Za (by rfl) (by rfl) s
def Zm7 := kR ZeM
def Z5v := kO Zm7
def Zvi := opN Z5v 0
def ZsZ := opN Z5v 1
theorem Z0cb : XG 40 109 Zm7 Z5v [107] := Z1 (by rfl) (by rfl) _
theorem ZQj : Z5v.toList = [Zvi, ZsZ] := nf
theorem ZR8 : stepA E C B 109 Z5v Zvi (φ, H) = stp (some 107) φ H (just (aBin E.T .add 3 (fget φ 68) (.int .i64 1))) := nf
theorem ZRc : stepA E C B 109 Z5v ZsZ (φ, H) = some (fput φ 68 (fget φ 107), H) := nf
theorem Z0jv : XQ 40 109 ZeM ZwL Zm7 := Z0 (by rfl) _
theorem Z0gW : XQ 40 109 Zdi Zf8 ZeM := Z0 (by rfl) _
theorem Z0iT : XQ 40 109 Z4n Zsv Zdi := Z0 (by rfl) _
theorem Z0eQ : execA E C (fg 40) B 109 E0 N Zyi s = iterA (execA E C (fg 40) B 109 E0 N Z4n) (headA E0) N s := ZN (by rfl) s
theorem Z0hM : execA E C (fg 40) B 109 E0 N ZkV s = blockX 2 (fun s => (forget s.1 [2, 10, 11, 67, 68, 69], s.2)) (execA E C (fg 40) B 109 E0 N Zyi s) := Za (by rfl) (by rfl) s
theorem Z0hL : XQ 40 109 Zdc ZwP ZkV := Z0 (by rfl) _
def ZeP := kR Zbd
def Zs7 := kL ZeP
def Z5Z := kO Zs7
def ZuV := opN Z5Z 0
def Zt5 := opN Z5Z 1
theorem Z0gh : XG 40 109 Zs7 Z5Z [5, 108] := Z1 (by rfl) (by rfl) _
theorem ZVQ : Z5Z.toList = [ZuV, Zt5] := nf
theorem ZPl : stepA E C B 109 Z5Z ZuV (φ, H) = stp (some 108) φ H (just (aLoad E.T 25 (fget φ 5))) := nf
theorem ZXd : stepA E C B 109 Z5Z Zt5 (φ, H) = stp none φ H (opStore E.T 25 (fget φ 4) (fget φ 108)) := nf
def ZHK := kR ZeP
theorem Z0iP : execA E C (fg 40) B 109 E0 N ZHK s = some (.ret, s) := Zl (by rfl) s
theorem Z0hb : XQ 40 109 ZeP Zs7 ZHK := Z0 (by rfl) _
theorem Z0cG : XQ 40 109 Zbd Zdc ZeP := Z0 (by rfl) _
theorem Z0ke : XQ 40 109 Ze6 ZpR Zbd := Z0 (by rfl) _
theorem Z0id : XQ 40 109 Zcx Zrz Ze6 := Z0 (by rfl) _
theorem Z0ka : XQ 40 109 ZbF Zma Zcx := Z0 (by rfl) _
theorem Z0kz : XQ 40 109 Zk1 Zjs ZbF := Z0 (by rfl) _
theorem Z0nX : XQ 40 109 Zj0 ZHd Zk1 := Z0 (by rfl) _
theorem Z0nT : XQ 40 109 ZdN ZH6 Zj0 := Z0 (by rfl) _
theorem Z0og : fInfo E 40 = some ⟨109, #[.cell 4 25], ZdN⟩ := nf
theorem b_40 (args : List AV) : bodyA E C fg N 40 args H B = bodyX E [.cell 4 25] (execA E C (fg 40) B 109 H N ZdN (Z7 args 0 [], H)) := Zn Z0og args H
abbrev F_40 := And.intro (And.intro (And.intro (And.intro (And.intro (And.intro (And.intro @Z0m5 (And.intro @Z09b @Z09f)) (And.intro @Z01t (And.intro @Z0n5 @Z01s))) (And.intro (And.intro @Z05d (And.intro @Z0ky @Z08t)) (And.intro (And.intro @Z063 @Z0b7) (And.intro @Z01X @Z0aX)))) (And.intro (And.intro (And.intro @Z03W (And.intro @Z0aK @Z0b6)) (And.intro (And.intro @Z03z @Z01N) (And.intro @Z08P @Z0cH))) (And.intro (And.intro @Z0ae (And.intro @Z060 @Z0cU)) (And.intro (And.intro @Z0ei @Z0hm) (And.intro @Z0dO @Z082))))) (And.intro (And.intro (And.intro (And.intro @Z0aE (And.intro @Z0bj @Z09W)) (And.intro (And.intro @Z02z @Z0ck) (And.intro @Z01a @Z01H))) (And.intro (And.intro @Z07N (And.intro @Z0aD @Z04A)) (And.intro (And.intro @Z06i @Z08k) (And.intro @Z04T @Z0aC)))) (And.intro (And.intro (And.intro @Z0a6 (And.intro @Z033 @ZSj)) (And.intro (And.intro @ZPA @ZS8) (And.intro @ZXD @ZUW))) (And.intro (And.intro @ZU5 (And.intro @ZWD @ZQD)) (And.intro (And.intro @ZZf @ZQC) (And.intro @Z0bU @Z09x)))))) (And.intro (And.intro (And.intro (And.intro (And.intro @ZWe (And.intro @ZWr @Z01L)) (And.intro @Z09c (And.intro @Z02C @Z003))) (And.intro (And.intro @Z05D (And.intro @Z01b @Z05W)) (And.intro (And.intro @ZZX @Z02o) (And.intro @Z00G @ZQf)))) (And.intro (And.intro (And.intro @ZWC (And.intro @Z0gK @Z07D)) (And.intro (And.intro @Z06L @Z08l) (And.intro @Z05M @Z04Z))) (And.intro (And.intro @Z00k (And.intro @Z08S @Z09Y)) (And.intro (And.intro @Z0iW @Z0he) (And.intro @Z0eY @Z0jU))))) (And.intro (And.intro (And.intro (And.intro @Z0hY (And.intro @Z076 @Z08O)) (And.intro (And.intro @Z009 @Z0k8) (And.intro @Z0hP @Z0nN))) (And.intro (And.intro @Z0nO (And.intro @Z0lK @Z0ow)) (And.intro (And.intro @Z0fL @Z04x) (And.intro @Z08C @Z01Q)))) (And.intro (And.intro (And.intro @Z01h (And.intro @Z0az @Z0dT)) (And.intro (And.intro @ZXi @ZNU) (And.intro @ZTM @Z0bO))) (And.intro (And.intro @ZZ9 (And.intro @ZQz @Z0e4)) (And.intro (And.intro @ZPR @ZN7) (And.intro @ZNV @Z0hA))))))) (And.intro (And.intro (And.intro (And.intro (And.intro (And.intro @ZTH (And.intro @ZTS @Z0bt)) (And.intro @Z0ep (And.intro @Z0gj @Z0hc))) (And.intro (And.intro @ZPI (And.intro @ZRa @ZRK)) (And.intro (And.intro @Z0dZ @ZMk) (And.intro @ZWG @ZMe)))) (And.intro (And.intro (And.intro @Z0ci (And.intro @ZQE @ZTo)) (And.intro (And.intro @Z0gZ @Z0jz) (And.intro @Z0iM @Z0dG))) (And.intro (And.intro @ZRR (And.intro @ZPD @ZMr)) (And.intro (And.intro @Z0iE @ZYq) (And.intro @ZZe @ZTa))))) (And.intro (And.intro (And.intro (And.intro @ZVR (And.intro @ZW4 @ZOm)) (And.intro (And.intro @ZUS @Z0jb) (And.intro @ZNB @ZYD))) (And.intro (And.intro @ZSy (And.intro @ZYE @ZNA)) (And.intro (And.intro @ZWR @ZX4) (And.intro @ZVw @Z0hq)))) (And.intro (And.intro (And.intro @ZTd (And.intro @ZUZ @ZXb)) (And.intro (And.intro @ZXU @ZTn) (And.intro @ZVc @ZWQ))) (And.intro (And.intro @ZXG (And.intro @ZT4 @ZQp)) (And.intro (And.intro @Z0eO @ZRD) (And.intro @ZYG @ZQT)))))) (And.intro (And.intro (And.intro (And.intro (And.intro @ZRM (And.intro @ZNI @ZYp)) (And.intro (And.intro @ZWK @ZTD) (And.intro @ZSn @ZXa))) (And.intro (And.intro @Z0jP (And.intro @Z0gX @Z0ih)) (And.intro (And.intro @Z0c3 @Z0i7) (And.intro @Z0hI @ZLG)))) (And.intro (And.intro (And.intro @ZMB (And.intro @ZNP @ZWi)) (And.intro (And.intro @Z0cW @Z0dA) (And.intro @Z0jj @Z0bw))) (And.intro (And.intro @ZN0 (And.intro @ZYT @ZX8)) (And.intro (And.intro @Z0iR @Z0ea) (And.intro @Z0da @Z0k5))))) (And.intro (And.intro (And.intro (And.intro @Z0g5 (And.intro @Z0eZ @Z0dN)) (And.intro (And.intro @Z0jq @Z0cb) (And.intro @ZQj @ZR8))) (And.intro (And.intro @ZRc (And.intro @Z0jv @Z0gW)) (And.intro (And.intro @Z0iT @Z0eQ) (And.intro @Z0hM @Z0hL)))) (And.intro (And.intro (And.intro @Z0gh (And.intro @ZVQ @ZPl)) (And.intro (And.intro @ZXd @Z0iP) (And.intro @Z0hb @Z0cG))) (And.intro (And.intro @Z0ke (And.intro @Z0id @Z0ka)) (And.intro (And.intro @Z0kz @Z0nX) (And.intro @Z0nT @b_40)))))))
def Z74 := kBody Proofs.Tryd.f111
def Zsd := kL Z74
def Zek := kO Zsd
def ZlZ := opN Zek 0
theorem Z0c0 : XG 111 12 Zsd Zek [3] := Z1 (by rfl) (by rfl) _
theorem ZUP : Zek.toList = [ZlZ] := nf
theorem ZTQ : stepA E C B 12 Zek ZlZ (φ, H) = some (fput φ 3 (.int .i64 0), H) := nf
def ZaA := kR Z74
def Zqf := kL ZaA
def Z0a := kO Zqf
def Zo8 := opN Z0a 0
def ZuU := opN Z0a 1
def Zq2 := opN Z0a 2
def ZnK := opN Z0a 3
def ZwA := opN Z0a 4
def ZuL := opN Z0a 5
def ZkS := opN Z0a 6
def Zm0 := opN Z0a 7
def Zn0 := opN Z0a 8
theorem Z0d7 : XG 111 12 Zqf Z0a [0, 1, 4, 5, 6, 7, 8, 9, 10, 11] := Z1 (by rfl) (by rfl) _
theorem ZO0 : Z0a.toList = [Zo8, ZuU, Zq2, ZnK, ZwA, ZuL, ZkS, Zm0, Zn0] := nf
theorem ZWN : stepA E C B 12 Z0a Zo8 (φ, H) = some (fput φ 4 (fget φ 0), H) := nf
theorem ZRO : stepA E C B 12 Z0a ZuU (φ, H) = stp (some 5) φ H (just (Z3 E.T 58 (fget φ 1) 3)) := nf
theorem ZLD : stepA E C B 12 Z0a Zq2 (φ, H) = stp (some 6) φ H (just (Z2 E.T 56 (fget φ 5) (fget φ 4))) := nf
theorem ZOi : stepA E C B 12 Z0a ZnK (φ, H) = stp (some 7) φ H (just (aLoad E.T 5 (fget φ 6))) := nf
theorem ZRv : stepA E C B 12 Z0a ZwA (φ, H) = stp (some 8) φ H (justO (aConv E.T 5 3 (fget φ 7))) := nf
theorem ZPB : stepA E C B 12 Z0a ZuL (φ, H) = stp (some 9) φ H (just (aBin E.T .mul 3 (fget φ 8) (.int .i64 8))) := nf
theorem ZWJ : stepA E C B 12 Z0a ZkS (φ, H) = some (fput φ 10 (fget φ 0), H) := nf
theorem ZVu : stepA E C B 12 Z0a Zm0 (φ, H) = stp (some 11) φ H (just (aBin E.T .add 3 (fget φ 9) (fget φ 10))) := nf
theorem ZSX : stepA E C B 12 Z0a Zn0 (φ, H) = some (fput φ 3 (fget φ 11), H) := nf
def ZIh := kR ZaA
theorem Z0fd : execA E C (fg 111) B 12 E0 N ZIh s = some (.ret, s) := Zl (by rfl) s
theorem Z0eS : XQ 111 12 ZaA Zqf ZIh := Z0 (by rfl) _
theorem Z0hG : XQ 111 12 Z74 Zsd ZaA := Z0 (by rfl) _
theorem Z43 : fInfo E 111 = some ⟨12, #[.tmp 3], Z74⟩ := nf
theorem Z0n2 (args : List AV) : bodyA E C fg N 111 args H B = bodyX E [.tmp 3] (execA E C (fg 111) B 12 H N Z74 (Z7 args 0 [], H)) := Zn Z43 args H
abbrev Z0nn := And.intro (And.intro (And.intro (And.intro @Z0c0 @ZUP) (And.intro @ZTQ @Z0d7)) (And.intro (And.intro @ZO0 @ZWN) (And.intro @ZRO (And.intro @ZLD @ZOi)))) (And.intro (And.intro (And.intro @ZRv @ZPB) (And.intro @ZWJ @ZVu)) (And.intro (And.intro @ZSX @Z0fd) (And.intro @Z0eS (And.intro @Z0hG @Z0n2))))
def Zcb := kBody Proofs.Tryd.f44
def ZGI := kL Zcb
def Z8v := kO ZGI
def ZAB := opN Z8v 0
def ZCz := opN Z8v 1
theorem Z0mC : XG 44 21 ZGI Z8v [0, 4] := Z1 (by rfl) (by rfl) _
theorem Z09l : Z8v.toList = [ZAB, ZCz] := nf
theorem Z075 : stepA E C B 21 Z8v ZAB (φ, H) = stp (some 2) φ H (opBox (B + 2) (acells (fget φ 0))) := nf
theorem Z09H : stepA E C B 21 Z8v ZCz (φ, H) = some (fput φ 4 (.int .i64 0), H) := nf
def ZjL := kR Zcb
def Zj9 := kL ZjL
def ZGG := kL Zj9
def Z2M := kO ZGG
def ZAG := opN Z2M 0
def ZDE := opN Z2M 1
def ZD7 := opN Z2M 2
def ZA4 := opN Z2M 3
theorem Z0lX : XG 44 21 ZGG Z2M [5, 6, 7] := Z1 (by rfl) (by rfl) _
theorem Z09d : Z2M.toList = [ZAG, ZDE, ZD7, ZA4] := nf
theorem Z04o : stepA E C B 21 Z2M ZAG (φ, H) = some (fput φ 5 (fget φ 1), H) := nf
theorem Z04k : stepA E C B 21 Z2M ZDE (φ, H) = stp (some 6) φ H (just (Z3 E.T 62 (fget φ 2) 2)) := nf
theorem Z0ag : stepA E C B 21 Z2M ZD7 (φ, H) = stp (some 7) φ H (just (aLoad E.T 3 (fget φ 6))) := nf
theorem Z08x : stepA E C B 21 Z2M ZA4 (φ, H) = stp (some 8) φ H (just (aBin E.T .leq 3 (fget φ 5) (fget φ 7))) := nf
def Zj7 := kR Zj9
def ZiV := kT Zj7
def ZG1 := kL ZiV
def Z4M := kO ZG1
def ZAx := opN Z4M 0
def ZEr := opN Z4M 1
def ZAt := opN Z4M 2
theorem Z0lN : XG 44 21 ZG1 Z4M [1, 2, 8, 9, 10] := Z1 (by rfl) (by rfl) _
theorem Z04K : Z4M.toList = [ZAx, ZEr, ZAt] := nf
theorem Z00c : stepA E C B 21 Z4M ZAx (φ, H) = stp (some 9) φ H (just (Z3 E.T 62 (fget φ 2) 4)) := nf
theorem Z08r : stepA E C B 21 Z4M ZEr (φ, H) = stp (some 10) φ H (just (aLoad E.T 3 (fget φ 9))) := nf
theorem Z04O : stepA E C B 21 Z4M ZAt (φ, H) = some (fput φ 4 (fget φ 10), H) := nf
def ZZM := kR ZiV
theorem Z0kN : execA E C (fg 44) B 21 E0 N ZZM s = some (.ret, s) := Zl (by rfl) s
theorem Z0lv : XQ 44 21 ZiV ZG1 ZZM := Z0 (by rfl) _
def ZZN := kE Zj7
theorem Z0lL : execA E C (fg 44) B 21 E0 N ZZN s = some (.normal, s) := Zh (by rfl) s
theorem Z0lm : XC 44 21 Zj7 8 ZiV ZZN := Zb (by rfl) _
theorem Z0nY : XQ 44 21 Zj9 ZGG Zj7 := Z0 (by rfl) _
def Zcv := kR ZjL
def Zkc := kL Zcv
def Z0f := kO Zkc
def ZAd := opN Z0f 0
def ZBJ := opN Z0f 1
def ZEH := opN Z0f 2
def ZCu := opN Z0f 3
def ZBe := opN Z0f 4
def ZAJ := opN Z0f 5
def ZAV := opN Z0f 6
def ZBA := opN Z0f 7
def ZBS := opN Z0f 8
def ZBO := opN Z0f 9
def ZoV := opN Z0f 10
theorem Z0fO : XG 44 21 Zkc Z0f [1, 2, 8, 11, 12, 13, 14, 15, 16, 17, 18, 19, 20] := Z1 (by rfl) (by rfl) _
theorem Z07w : Z0f.toList = [ZAd, ZBJ, ZEH, ZCu, ZBe, ZAJ, ZAV, ZBA, ZBS, ZBO, ZoV] := nf
theorem Z0a8 : stepA E C B 21 Z0f ZAd (φ, H) = stp (some 11) φ H (just (Z3 E.T 62 (fget φ 2) 4)) := nf
theorem Z05w : stepA E C B 21 Z0f ZBJ (φ, H) = stp (some 12) φ H (just (aLoad E.T 3 (fget φ 11))) := nf
theorem Z05a : stepA E C B 21 Z0f ZEH (φ, H) = stp (some 13) φ H (just (Z3 E.T 62 (fget φ 2) 3)) := nf
theorem Z07l : stepA E C B 21 Z0f ZCu (φ, H) = stp (some 14) φ H (just (aLoad E.T 3 (fget φ 13))) := nf
theorem Z02M : stepA E C B 21 Z0f ZBe (φ, H) = some (fput φ 15 (fget φ 1), H) := nf
theorem Z09g : stepA E C B 21 Z0f ZAJ (φ, H) = stp (some 16) φ H (just (Z3 E.T 62 (fget φ 2) 2)) := nf
theorem Z0a2 : stepA E C B 21 Z0f ZAV (φ, H) = stp (some 17) φ H (just (aLoad E.T 3 (fget φ 16))) := nf
theorem Z08s : stepA E C B 21 Z0f ZBA (φ, H) = stp (some 18) φ H (just (aBin E.T .sub 3 (fget φ 15) (fget φ 17))) := nf
theorem Z01m : stepA E C B 21 Z0f ZBS (φ, H) = stp (some 19) φ H (just (aBin E.T .mul 3 (fget φ 14) (fget φ 18))) := nf
theorem Z00E : stepA E C B 21 Z0f ZBO (φ, H) = stp (some 20) φ H (just (aBin E.T .add 3 (fget φ 12) (fget φ 19))) := nf
theorem ZNW : stepA E C B 21 Z0f ZoV (φ, H) = some (fput φ 4 (fget φ 20), H) := nf
def ZKW := kR Zcv
theorem Z0jC : execA E C (fg 44) B 21 E0 N ZKW s = some (.ret, s) := Zl (by rfl) s
theorem Z0j5 : XQ 44 21 Zcv Zkc ZKW := Z0 (by rfl) _
theorem Z0l9 : XQ 44 21 ZjL Zj9 Zcv := Z0 (by rfl) _
theorem Z0ov : XQ 44 21 Zcb ZGI ZjL := Z0 (by rfl) _
theorem Z0nr : fInfo E 44 = some ⟨21, #[.tmp 4], Zcb⟩ := nf
theorem b_44 (args : List AV) : bodyA E C fg N 44 args H B = bodyX E [.tmp 4] (execA E C (fg 44) B 21 H N Zcb (Z7 args 0 [], H)) := Zn Z0nr args H
abbrev F_44 := And.intro (And.intro (And.intro (And.intro (And.intro @Z0mC @Z09l) (And.intro @Z075 @Z09H)) (And.intro (And.intro @Z0lX @Z09d) (And.intro @Z04o (And.intro @Z04k @Z0ag)))) (And.intro (And.intro (And.intro @Z08x @Z0lN) (And.intro @Z04K (And.intro @Z00c @Z08r))) (And.intro (And.intro @Z04O @Z0kN) (And.intro @Z0lv (And.intro @Z0lL @Z0lm))))) (And.intro (And.intro (And.intro (And.intro @Z0nY @Z0fO) (And.intro @Z07w @Z0a8)) (And.intro (And.intro @Z05w @Z05a) (And.intro @Z07l (And.intro @Z02M @Z09g)))) (And.intro (And.intro (And.intro @Z0a2 @Z08s) (And.intro @Z01m (And.intro @Z00E @ZNW))) (And.intro (And.intro @Z0jC @Z0j5) (And.intro @Z0l9 (And.intro @Z0ov @b_44)))))
def ZdS := kBody Proofs.Tryd.f73
def ZH4 := kL ZdS
def Z7Y := kO ZH4
def ZEi := opN Z7Y 0
def ZC0 := opN Z7Y 1
theorem Z0kI : XG 73 90 ZH4 Z7Y [0, 4] := Z1 (by rfl) (by rfl) _
theorem Z04i : Z7Y.toList = [ZEi, ZC0] := nf
theorem Z09O : stepA E C B 90 Z7Y ZEi (φ, H) = stp (some 2) φ H (opBox (B + 2) (acells (fget φ 0))) := nf
theorem Z038 : stepA E C B 90 Z7Y ZC0 (φ, H) = some (fput φ 4 (.int .i64 0), H) := nf
def ZjM := kR ZdS
def ZHh := kL ZjM
def Zj2 := kO ZHh
def Zz0 := opN Zj2 0
theorem Z0m4 : XG 73 90 ZHh Zj2 [] := Z1 (by rfl) (by rfl) _
theorem Z090 : Zj2.toList = [Zz0] := nf
theorem Z092 : stepA E C B 90 Zj2 Zz0 (φ, H) = some (fput φ 5 (.int .i64 0), H) := nf
def Zjl := kR ZjM
def Zjb := kL Zjl
def ZGi := kL Zjb
def Z2S := kO ZGi
def ZBh := opN Z2S 0
def ZA7 := opN Z2S 1
def Zz8 := opN Z2S 2
def ZDM := opN Z2S 3
theorem Z0o0 : XG 73 90 ZGi Z2S [15] := Z1 (by rfl) (by rfl) _
theorem Z0ai : Z2S.toList = [ZBh, ZA7, Zz8, ZDM] := nf
theorem Z08f : stepA E C B 90 Z2S ZBh (φ, H) = some (fput φ 15 (fget φ 1), H) := nf
theorem Z05m : stepA E C B 90 Z2S ZA7 (φ, H) = stp (some 16) φ H (aCall C (fun j => B + j * 90 + 16) true 41 [(fget φ 15)]) := nf
theorem Z069 : stepA E C B 90 Z2S Zz8 (φ, H) = stp (some 17) φ H (Z4 E.T (B + 17) .len #[36] [(fget φ 16)]) := nf
theorem Z08L : stepA E C B 90 Z2S ZDM (φ, H) = some (fput φ 18 (.int .i64 0), H) := nf
def ZFQ := kR Zjb
def ZG0 := kB ZFQ
def Z9A := kB ZG0
def Zkh := kL Z9A
def Zjc := kO Zkh
def ZFp := opN Zjc 0
theorem Z0bB : XG 73 90 Zkh Zjc [] := Z1 (by rfl) (by rfl) _
theorem Z0b9 : Zjc.toList = [ZFp] := nf
theorem Z08c : stepA E C B 90 Zjc ZFp (φ, H) = stp (some 19) φ H (just (aBin E.T .lss 3 (fget φ 18) (fget φ 17))) := nf
def ZbL := kR Z9A
def ZdG := kL ZbL
def ZKl := kT ZdG
theorem Z0j7 : execA E C (fg 73) B 90 E0 N ZKl s = some (.normal, s) := Zh (by rfl) s
def ZKY := kE ZdG
theorem Z0iX : execA E C (fg 73) B 90 E0 N ZKY s = some (.exit 0, s) := ZO (by rfl) s
theorem Z0hz : XC 73 90 ZdG 19 ZKl ZKY := Zb (by rfl) _
def ZcL := kR ZbL
def ZlU := kL ZcL
def Zb1 := kB ZlU
def ZsM := kL Zb1
def Z4F := kO ZsM
def ZB5 := opN Z4F 0
def ZA1 := opN Z4F 1
def ZAK := opN Z4F 2
theorem Z0dl : XG 73 90 ZsM Z4F [19, 20, 21] := Z1 (by rfl) (by rfl) _
theorem Z06r : Z4F.toList = [ZB5, ZA1, ZAK] := nf
theorem Z00L : stepA E C B 90 Z4F ZB5 (φ, H) = stp (some 20) φ H (just (Z2 E.T 36 (fget φ 16) (fget φ 18))) := nf
theorem Z07q : stepA E C B 90 Z4F ZA1 (φ, H) = stp (some 21) φ H (just (aLoad E.T 3 (fget φ 20))) := nf
theorem Z05n : stepA E C B 90 Z4F ZAK (φ, H) = some (fput φ 7 (fget φ 21), H) := nf
def Zr3 := kR Zb1
def Z0o := kO Zr3
def ZBD := opN Z0o 0
def ZEl := opN Z0o 1
def ZzF := opN Z0o 2
def ZFs := opN Z0o 3
def ZF2 := opN Z0o 4
def ZBB := opN Z0o 5
def ZCr := opN Z0o 6
def ZBy := opN Z0o 7
def ZAp := opN Z0o 8
theorem Z0gx : XG 73 90 Zr3 Z0o [7, 22, 23, 24, 25, 26, 27, 28, 29] := Z1 (by rfl) (by rfl) _
theorem Z007 : Z0o.toList = [ZBD, ZEl, ZzF, ZFs, ZF2, ZBB, ZCr, ZBy, ZAp] := nf
theorem Z01u : stepA E C B 90 Z0o ZBD (φ, H) = some (fput φ 22 (fget φ 5), H) := nf
theorem Z0aq : stepA E C B 90 Z0o ZEl (φ, H) = stp (some 23) φ H (just (Z3 E.T 25 (fget φ 2) 0)) := nf
theorem Z05b : stepA E C B 90 Z0o ZzF (φ, H) = stp (some 24) φ H (just (aLoad E.T 22 (fget φ 23))) := nf
theorem Z017 : stepA E C B 90 Z0o ZFs (φ, H) = some (fput φ 25 (fget φ 7), H) := nf
theorem Z095 : stepA E C B 90 Z0o ZF2 (φ, H) = stp (some 26) φ H (just (Z2 E.T 22 (fget φ 24) (fget φ 25))) := nf
theorem Z03d : stepA E C B 90 Z0o ZBB (φ, H) = stp (some 27) φ H (just (Z3 E.T 62 (fget φ 26) 1)) := nf
theorem Z00i : stepA E C B 90 Z0o ZCr (φ, H) = stp (some 28) φ H (just (aLoad E.T 3 (fget φ 27))) := nf
theorem Z06U : stepA E C B 90 Z0o ZBy (φ, H) = stp (some 29) φ H (just (aBin E.T .add 3 (fget φ 22) (fget φ 28))) := nf
theorem Z02p : stepA E C B 90 Z0o ZAp (φ, H) = some (fput φ 5 (fget φ 29), H) := nf
theorem Z0cQ : XQ 73 90 Zb1 ZsM Zr3 := Z0 (by rfl) _
theorem Z0dP : execA E C (fg 73) B 90 E0 N ZlU s = blockX 1 (fun s => (forget s.1 [], s.2)) (execA E C (fg 73) B 90 E0 N Zb1 s) := Za (by rfl) (by rfl) s
def Ztn := kR ZcL
def Z7I := kO Ztn
def ZAa := opN Z7I 0
def ZE8 := opN Z7I 1
theorem Z0hS : XG 73 90 Ztn Z7I [30] := Z1 (by rfl) (by rfl) _
theorem Z08g : Z7I.toList = [ZAa, ZE8] := nf
theorem Z03S : stepA E C B 90 Z7I ZAa (φ, H) = stp (some 30) φ H (just (aBin E.T .add 3 (fget φ 18) (.int .i64 1))) := nf
theorem Z08A : stepA E C B 90 Z7I ZE8 (φ, H) = some (fput φ 18 (fget φ 30), H) := nf
theorem Z0gC : XQ 73 90 ZcL ZlU Ztn := Z0 (by rfl) _
theorem Z0et : XQ 73 90 ZbL ZdG ZcL := Z0 (by rfl) _
theorem Z0mI : XQ 73 90 Z9A Zkh ZbL := Z0 (by rfl) _
theorem Z0lH : execA E C (fg 73) B 90 E0 N ZG0 s = iterA (execA E C (fg 73) B 90 E0 N Z9A) (headA E0) N s := ZN (by rfl) s
theorem Z0nA : execA E C (fg 73) B 90 E0 N ZFQ s = blockX 0 (fun s => (forget s.1 [16, 17, 18, 19], s.2)) (execA E C (fg 73) B 90 E0 N ZG0 s) := Za (by rfl) (by rfl) s
theorem Z0kZ : XQ 73 90 Zjb ZGi ZFQ := Z0 (by rfl) _
def Zda := kR Zjl
def ZrW := kL Zda
def Zjh := kO ZrW
def Zz5 := opN Zjh 0
theorem Z0dv : XG 73 90 ZrW Zjh [] := Z1 (by rfl) (by rfl) _
theorem Z00t : Zjh.toList = [Zz5] := nf
theorem Z08Y : stepA E C B 90 Zjh Zz5 (φ, H) = some (fput φ 8 (.int .i64 (-1)), H) := nf
def ZeY := kR Zda
def Zci := kL ZeY
def Zs9 := kL Zci
def Z2U := kO Zs9
def ZFd := opN Z2U 0
def ZD1 := opN Z2U 1
def ZBl := opN Z2U 2
def ZEC := opN Z2U 3
theorem Z0fK : XG 73 90 Zs9 Z2U [31] := Z1 (by rfl) (by rfl) _
theorem Z029 : Z2U.toList = [ZFd, ZD1, ZBl, ZEC] := nf
theorem Z08u : stepA E C B 90 Z2U ZFd (φ, H) = some (fput φ 31 (fget φ 1), H) := nf
theorem Z02E : stepA E C B 90 Z2U ZD1 (φ, H) = stp (some 32) φ H (aCall C (fun j => B + j * 90 + 32) true 41 [(fget φ 31)]) := nf
theorem Z03G : stepA E C B 90 Z2U ZBl (φ, H) = stp (some 33) φ H (Z4 E.T (B + 33) .len #[36] [(fget φ 32)]) := nf
theorem Z072 : stepA E C B 90 Z2U ZEC (φ, H) = some (fput φ 34 (.int .i64 0), H) := nf
def Zu9 := kR Zci
def ZkP := kB Zu9
def Z5c := kB ZkP
def Zyd := kL Z5c
def ZjT := kO Zyd
def ZBb := opN ZjT 0
theorem Z0eL : XG 73 90 Zyd ZjT [] := Z1 (by rfl) (by rfl) _
theorem Z047 : ZjT.toList = [ZBb] := nf
theorem Z02s : stepA E C B 90 ZjT ZBb (φ, H) = stp (some 35) φ H (just (aBin E.T .lss 3 (fget φ 34) (fget φ 33))) := nf
def Zbi := kR Z5c
def ZbT := kL Zbi
def ZK0 := kT ZbT
theorem Z0cw : execA E C (fg 73) B 90 E0 N ZK0 s = some (.normal, s) := Zh (by rfl) s
def ZKm := kE ZbT
theorem Z0hX : execA E C (fg 73) B 90 E0 N ZKm s = some (.exit 2, s) := ZO (by rfl) s
theorem Z0fJ : XC 73 90 ZbT 35 ZK0 ZKm := Zb (by rfl) _
def Zes := kR Zbi
def Ztf := kL Zes
def Zdo := kB Ztf
def ZnN := kL Zdo
def Z3l := kO ZnN
def ZvU := opN Z3l 0
def ZvW := opN Z3l 1
def Zyx := opN Z3l 2
theorem Z0gS : XG 73 90 ZnN Z3l [35, 36, 37] := Z1 (by rfl) (by rfl) _
theorem ZW5 : Z3l.toList = [ZvU, ZvW, Zyx] := nf
theorem ZT5 : stepA E C B 90 Z3l ZvU (φ, H) = stp (some 36) φ H (just (Z2 E.T 36 (fget φ 32) (fget φ 34))) := nf
theorem ZNK : stepA E C B 90 Z3l ZvW (φ, H) = stp (some 37) φ H (just (aLoad E.T 3 (fget φ 36))) := nf
theorem ZXs : stepA E C B 90 Z3l Zyx (φ, H) = some (fput φ 10 (fget φ 37), H) := nf
def ZbJ := kR Zdo
def Zol := kL ZbJ
def Z31 := kO Zol
def ZuS := opN Z31 0
def ZsQ := opN Z31 1
def ZoQ := opN Z31 2
theorem Z0hk : XG 73 90 Zol Z31 [38, 39] := Z1 (by rfl) (by rfl) _
theorem ZQb : Z31.toList = [ZuS, ZsQ, ZoQ] := nf
theorem ZTl : stepA E C B 90 Z31 ZuS (φ, H) = some (fput φ 38 (fget φ 10), H) := nf
theorem ZSP : stepA E C B 90 Z31 ZsQ (φ, H) = stp (some 39) φ H (just (aBin E.T .shl 3 (.int .i64 1) (fget φ 38))) := nf
theorem ZWf : stepA E C B 90 Z31 ZoQ (φ, H) = some (fput φ 11 (fget φ 39), H) := nf
def ZdL := kR ZbJ
def Zbk := kL ZdL
def Zo3 := kL Zbk
def Z1Z := kO Zo3
def Zy6 := opN Z1Z 0
def Zy0 := opN Z1Z 1
def Zpc := opN Z1Z 2
def Zs5 := opN Z1Z 3
theorem Z0ee : XG 73 90 Zo3 Z1Z [40, 41] := Z1 (by rfl) (by rfl) _
theorem ZQr : Z1Z.toList = [Zy6, Zy0, Zpc, Zs5] := nf
theorem ZQ5 : stepA E C B 90 Z1Z Zy6 (φ, H) = stp (some 40) φ H (just (Z3 E.T 25 (fget φ 2) 0)) := nf
theorem ZOp : stepA E C B 90 Z1Z Zy0 (φ, H) = stp (some 41) φ H (just (aLoad E.T 22 (fget φ 40))) := nf
theorem ZYc : stepA E C B 90 Z1Z Zpc (φ, H) = stp (some 42) φ H (Z4 E.T (B + 42) .len #[22] [(fget φ 41)]) := nf
theorem ZRE : stepA E C B 90 Z1Z Zs5 (φ, H) = some (fput φ 43 (.int .i64 0), H) := nf
def ZxP := kR Zbk
def Zmx := kB ZxP
def Z5u := kB Zmx
def Zt2 := kL Z5u
def ZdQ := kO Zt2
def ZrY := opN ZdQ 0
theorem Z0f4 : XG 73 90 Zt2 ZdQ [] := Z1 (by rfl) (by rfl) _
theorem ZXI : ZdQ.toList = [ZrY] := nf
theorem ZPc : stepA E C B 90 ZdQ ZrY (φ, H) = stp (some 44) φ H (just (aBin E.T .lss 3 (fget φ 43) (fget φ 42))) := nf
def ZcB := kR Z5u
def ZaN := kL ZcB
def ZKS := kT ZaN
theorem Z0hl : execA E C (fg 73) B 90 E0 N ZKS s = some (.normal, s) := Zh (by rfl) s
def ZIL := kE ZaN
theorem Z0cB : execA E C (fg 73) B 90 E0 N ZIL s = some (.exit 4, s) := ZO (by rfl) s
theorem Z0de : XC 73 90 ZaN 44 ZKS ZIL := Zb (by rfl) _
def ZcQ := kR ZcB
def ZrT := kL ZcQ
def Zbb := kB ZrT
def ZwU := kL Zbb
def Z21 := kO ZwU
def Zwe := opN Z21 0
def ZpX := opN Z21 1
def Zlc := opN Z21 2
def ZoM := opN Z21 3
theorem Z0jZ : XG 73 90 ZwU Z21 [44, 45] := Z1 (by rfl) (by rfl) _
theorem ZOZ : Z21.toList = [Zwe, ZpX, Zlc, ZoM] := nf
theorem ZU1 : stepA E C B 90 Z21 Zwe (φ, H) = stp (some 45) φ H (just (Z3 E.T 25 (fget φ 2) 1)) := nf
theorem ZZz : stepA E C B 90 Z21 ZpX (φ, H) = stp (some 46) φ H (just (aLoad E.T 23 (fget φ 45))) := nf
theorem ZUs : stepA E C B 90 Z21 Zlc (φ, H) = stp (some 47) φ H (Z4 E.T (B + 47) .len #[23] [(fget φ 46)]) := nf
theorem ZUA : stepA E C B 90 Z21 ZoM (φ, H) = some (fput φ 48 (.int .i64 0), H) := nf
def Zqy := kR Zbb
def ZkH := kB Zqy
def Z4X := kB ZkH
def ZuO := kL Z4X
def Zcq := kO ZuO
def ZsH := opN Zcq 0
theorem Z0jy : XG 73 90 ZuO Zcq [] := Z1 (by rfl) (by rfl) _
theorem ZW9 : Zcq.toList = [ZsH] := nf
theorem ZUe : stepA E C B 90 Zcq ZsH (φ, H) = stp (some 49) φ H (just (aBin E.T .lss 3 (fget φ 48) (fget φ 47))) := nf
def ZdX := kR Z4X
def Zea := kL ZdX
def ZIg := kT Zea
theorem Z0eV : execA E C (fg 73) B 90 E0 N ZIg s = some (.normal, s) := Zh (by rfl) s
def ZIH := kE Zea
theorem Z0eb : execA E C (fg 73) B 90 E0 N ZIH s = some (.exit 6, s) := ZO (by rfl) s
theorem Z0cV : XC 73 90 Zea 49 ZIg ZIH := Zb (by rfl) _
def Zf1 := kR ZdX
def Zq3 := kL Zf1
def ZdB := kB Zq3
def Zos := kL ZdB
def Z1X := kO Zos
def ZsF := opN Z1X 0
def Zuw := opN Z1X 1
def ZrD := opN Z1X 2
def Zxv := opN Z1X 3
theorem Z0ff : XG 73 90 Zos Z1X [49, 50, 51] := Z1 (by rfl) (by rfl) _
theorem ZUu : Z1X.toList = [ZsF, Zuw, ZrD, Zxv] := nf
theorem ZU7 : stepA E C B 90 Z1X ZsF (φ, H) = stp (some 50) φ H (just (Z2 E.T 23 (fget φ 46) (fget φ 48))) := nf
theorem ZNT : stepA E C B 90 Z1X Zuw (φ, H) = stp (some 51) φ H (just (aLoad E.T 64 (fget φ 50))) := nf
theorem ZXz : stepA E C B 90 Z1X ZrD (φ, H) = stp (some 13) φ H (opBox (B + 13) (zeroCells E.T 64)) := nf
theorem ZPu : stepA E C B 90 Z1X Zxv (φ, H) = stp none φ H (opStore E.T 64 (fget φ 13) (fget φ 51)) := nf
def ZbX := kR ZdB
def ZnF := kL ZbX
def Z0K := kO ZnF
def Zvb := opN Z0K 0
def Zqn := opN Z0K 1
def ZxH := opN Z0K 2
def Zmy := opN Z0K 3
def ZwM := opN Z0K 4
def Zwg := opN Z0K 5
theorem Z0eW : XG 73 90 ZnF Z0K [52, 53, 54, 55, 56] := Z1 (by rfl) (by rfl) _
theorem ZNF : Z0K.toList = [Zvb, Zqn, ZxH, Zmy, ZwM, Zwg] := nf
theorem ZNm : stepA E C B 90 Z0K Zvb (φ, H) = some (fput φ 52 (fget φ 11), H) := nf
theorem ZY2 : stepA E C B 90 Z0K Zqn (φ, H) = stp (some 53) φ H (just (Z2 E.T 64 (fget φ 13) (.int .i64 0))) := nf
theorem ZSl : stepA E C B 90 Z0K ZxH (φ, H) = stp (some 54) φ H (just (aLoad E.T 3 (fget φ 53))) := nf
theorem ZR9 : stepA E C B 90 Z0K Zmy (φ, H) = stp (some 55) φ H (just (aBin E.T .shr 3 (fget φ 52) (fget φ 54))) := nf
theorem ZT8 : stepA E C B 90 Z0K ZwM (φ, H) = stp (some 56) φ H (just (aBin E.T .and 3 (fget φ 55) (.int .i64 1))) := nf
theorem ZV7 : stepA E C B 90 Z0K Zwg (φ, H) = stp (some 57) φ H (just (aBin E.T .eql 3 (fget φ 56) (.int .i64 1))) := nf
def ZbU := kR ZbX
def Zwv := kT ZbU
def Z0L := kO Zwv
def ZlT := opN Z0L 0
def Zln := opN Z0L 1
def ZxU := opN Z0L 2
def Zuc := opN Z0L 3
def ZuM := opN Z0L 4
def ZrJ := opN Z0L 5
theorem Z0cI : XG 73 90 Zwv Z0L [13, 57, 58, 59, 60, 61, 62] := Z1 (by rfl) (by rfl) _
theorem ZOX : Z0L.toList = [ZlT, Zln, ZxU, Zuc, ZuM, ZrJ] := nf
theorem ZVD : stepA E C B 90 Z0L ZlT (φ, H) = some (fput φ 58 (fget φ 11), H) := nf
theorem ZVP : stepA E C B 90 Z0L Zln (φ, H) = stp (some 59) φ H (just (Z2 E.T 64 (fget φ 13) (.int .i64 1))) := nf
theorem ZNM : stepA E C B 90 Z0L ZxU (φ, H) = stp (some 60) φ H (just (aLoad E.T 3 (fget φ 59))) := nf
theorem ZNs : stepA E C B 90 Z0L Zuc (φ, H) = stp (some 61) φ H (just (aBin E.T .shl 3 (.int .i64 1) (fget φ 60))) := nf
theorem ZM1 : stepA E C B 90 Z0L ZuM (φ, H) = stp (some 62) φ H (just (aBin E.T .or 3 (fget φ 58) (fget φ 61))) := nf
theorem ZQ2 : stepA E C B 90 Z0L ZrJ (φ, H) = some (fput φ 11 (fget φ 62), H) := nf
def ZLf := kE ZbU
theorem Z0bZ : execA E C (fg 73) B 90 E0 N ZLf s = some (.normal, s) := Zh (by rfl) s
theorem Z0dc : XC 73 90 ZbU 57 Zwv ZLf := Zb (by rfl) _
theorem Z0fz : XQ 73 90 ZbX ZnF ZbU := Z0 (by rfl) _
theorem Z0bP : XQ 73 90 ZdB Zos ZbX := Z0 (by rfl) _
theorem Z0iH : execA E C (fg 73) B 90 E0 N Zq3 s = blockX 7 (fun s => (forget s.1 [13, 57], s.2)) (execA E C (fg 73) B 90 E0 N ZdB s) := Za (by rfl) (by rfl) s
def ZwV := kR Zf1
def Z5A := kO ZwV
def Zt7 := opN Z5A 0
def Zrc := opN Z5A 1
theorem Z0eA : XG 73 90 ZwV Z5A [63] := Z1 (by rfl) (by rfl) _
theorem ZTk : Z5A.toList = [Zt7, Zrc] := nf
theorem ZM9 : stepA E C B 90 Z5A Zt7 (φ, H) = stp (some 63) φ H (just (aBin E.T .add 3 (fget φ 48) (.int .i64 1))) := nf
theorem ZTT : stepA E C B 90 Z5A Zrc (φ, H) = some (fput φ 48 (fget φ 63), H) := nf
theorem Z0hp : XQ 73 90 Zf1 Zq3 ZwV := Z0 (by rfl) _
theorem Z0hU : XQ 73 90 ZdX Zea Zf1 := Z0 (by rfl) _
theorem Z0jR : XQ 73 90 Z4X ZuO ZdX := Z0 (by rfl) _
theorem Z0eH : execA E C (fg 73) B 90 E0 N ZkH s = iterA (execA E C (fg 73) B 90 E0 N Z4X) (headA E0) N s := ZN (by rfl) s
theorem Z0fG : execA E C (fg 73) B 90 E0 N Zqy s = blockX 6 (fun s => (forget s.1 [46, 47, 48, 49], s.2)) (execA E C (fg 73) B 90 E0 N ZkH s) := Za (by rfl) (by rfl) s
theorem Z0jI : XQ 73 90 Zbb ZwU Zqy := Z0 (by rfl) _
theorem Z0dB : execA E C (fg 73) B 90 E0 N ZrT s = blockX 5 (fun s => (forget s.1 [], s.2)) (execA E C (fg 73) B 90 E0 N Zbb s) := Za (by rfl) (by rfl) s
def Zvu := kR ZcQ
def Z5U := kO Zvu
def ZxB := opN Z5U 0
def ZxE := opN Z5U 1
theorem Z0fj : XG 73 90 Zvu Z5U [64] := Z1 (by rfl) (by rfl) _
theorem ZLE : Z5U.toList = [ZxB, ZxE] := nf
theorem ZRT : stepA E C B 90 Z5U ZxB (φ, H) = stp (some 64) φ H (just (aBin E.T .add 3 (fget φ 43) (.int .i64 1))) := nf
theorem ZO4 : stepA E C B 90 Z5U ZxE (φ, H) = some (fput φ 43 (fget φ 64), H) := nf
theorem Z0hi : XQ 73 90 ZcQ ZrT Zvu := Z0 (by rfl) _
theorem Z0fu : XQ 73 90 ZcB ZaN ZcQ := Z0 (by rfl) _
theorem Z0in : XQ 73 90 Z5u Zt2 ZcB := Z0 (by rfl) _
theorem Z0e5 : execA E C (fg 73) B 90 E0 N Zmx s = iterA (execA E C (fg 73) B 90 E0 N Z5u) (headA E0) N s := ZN (by rfl) s
theorem Z0k4 : execA E C (fg 73) B 90 E0 N ZxP s = blockX 4 (fun s => (forget s.1 [42, 43, 44], s.2)) (execA E C (fg 73) B 90 E0 N Zmx s) := Za (by rfl) (by rfl) s
theorem Z0jD : XQ 73 90 Zbk Zo3 ZxP := Z0 (by rfl) _
def Zf0 := kR ZdL
def ZxG := kL Zf0
def Z0i := kO ZxG
def Zua := opN Z0i 0
def Zl2 := opN Z0i 1
def ZmN := opN Z0i 2
def Zlo := opN Z0i 3
def Zsr := opN Z0i 4
def Zqq := opN Z0i 5
def ZnB := opN Z0i 6
def ZrQ := opN Z0i 7
theorem Z0j4 : XG 73 90 ZxG Z0i [65, 66, 67, 68, 69, 70, 71] := Z1 (by rfl) (by rfl) _
theorem ZNt : Z0i.toList = [Zua, Zl2, ZmN, Zlo, Zsr, Zqq, ZnB, ZrQ] := nf
theorem ZRL : stepA E C B 90 Z0i Zua (φ, H) = stp (some 65) φ H (just (Z3 E.T 25 (fget φ 2) 0)) := nf
theorem ZTm : stepA E C B 90 Z0i Zl2 (φ, H) = stp (some 66) φ H (just (aLoad E.T 22 (fget φ 65))) := nf
theorem ZXv : stepA E C B 90 Z0i ZmN (φ, H) = some (fput φ 67 (fget φ 10), H) := nf
theorem ZS2 : stepA E C B 90 Z0i Zlo (φ, H) = stp (some 68) φ H (just (Z2 E.T 22 (fget φ 66) (fget φ 67))) := nf
theorem ZOk : stepA E C B 90 Z0i Zsr (φ, H) = stp (some 69) φ H (just (aLoad E.T 62 (fget φ 68))) := nf
theorem ZNC : stepA E C B 90 Z0i Zqq (φ, H) = some (fput φ 70 (fget φ 5), H) := nf
theorem ZOr : stepA E C B 90 Z0i ZnB (φ, H) = stp (some 71) φ H (aCall C (fun j => B + j * 90 + 71) true 44 [(fget φ 69), (fget φ 70)]) := nf
theorem ZQe : stepA E C B 90 Z0i ZrQ (φ, H) = some (fput φ 14 (fget φ 71), H) := nf
def ZbO := kR Zf0
def Zwb := kL ZbO
def Zv := kO Zwb
def Zrj := opN Zv 0
def Zqc := opN Zv 1
def ZqB := opN Zv 2
def Zsj := opN Zv 3
def Zrq := opN Zv 4
def Zow := opN Zv 5
def Z2A := opN Zv 6
def ZxT := opN Zv 7
def Zv5 := opN Zv 8
def Z3S := opN Zv 9
def Zhv := opN Zv 10
def ZhW := opN Zv 11
def ZhX := opN Zv 12
def ZiE := opN Zv 13
def Zil := opN Zv 14
theorem Z0ek : XG 73 90 Zwb Zv [10, 11, 72, 73, 74, 75, 76, 77, 78, 79, 80, 81, 82, 83, 84, 85] := Z1 (by rfl) (by rfl) _
theorem ZVv : Zv.toList = [Zrj, Zqc, ZqB, Zsj, Zrq, Zow, Z2A, ZxT, Zv5, Z3S, Zhv, ZhW, ZhX, ZiE, Zil] := nf
theorem ZUG : stepA E C B 90 Zv Zrj (φ, H) = some (fput φ 72 (fget φ 11), H) := nf
theorem ZVd : stepA E C B 90 Zv Zqc (φ, H) = some (fput φ 73 (fget φ 1), H) := nf
theorem ZZw : stepA E C B 90 Zv ZqB (φ, H) = stp (some 74) φ H (just (aBin E.T .and 3 (fget φ 72) (fget φ 73))) := nf
theorem ZUc : stepA E C B 90 Zv Zsj (φ, H) = some (fput φ 75 (fget φ 10), H) := nf
theorem ZNd : stepA E C B 90 Zv Zrq (φ, H) = stp (some 76) φ H (just (aBin E.T .shl 3 (.int .i64 1) (fget φ 75))) := nf
theorem ZQI : stepA E C B 90 Zv Zow (φ, H) = stp (some 77) φ H (just (aBin E.T .eql 3 (fget φ 74) (fget φ 76))) := nf
theorem ZWL : stepA E C B 90 Zv Z2A (φ, H) = some (fput φ 78 (fget φ 77), H) := nf
theorem ZP3 : stepA E C B 90 Zv ZxT (φ, H) = gd φ 78 true (fun φ => some (fput φ 79 (.tup []), H)) (fun φ => some (fput φ 79 (fget φ 8), H)) := s_gd (j := 6) (oj := Z2A) rfl rfl rfl (fun _ => rfl) (fun _ => rfl)
theorem ZNw : stepA E C B 90 Zv Zv5 (φ, H) = gd φ 78 true (fun φ => some (fput φ 80 (.tup []), H)) (fun φ => stp (some 80) φ H (just (aBin E.T .lss 3 (fget φ 79) (.int .i64 0)))) := s_gd (j := 6) (oj := Z2A) rfl rfl rfl (fun _ => rfl) (fun _ => rfl)
theorem ZSs : stepA E C B 90 Zv Z3S (φ, H) = gd φ 78 true (fun φ => some (fput φ 81 (.tup []), H)) (fun φ => some (fput φ 81 (fget φ 80), H)) := s_gd (j := 6) (oj := Z2A) rfl rfl rfl (fun _ => rfl) (fun _ => rfl)
theorem ZIW : stepA E C B 90 Zv Zhv (φ, H) = gd φ 81 false (fun φ => some (fput φ 82 (.tup []), H)) (fun φ => some (fput φ 82 (fget φ 14), H)) := s_gd (j := 9) (oj := Z3S) rfl rfl rfl (fun _ => rfl) (fun _ => rfl)
theorem ZL9 : stepA E C B 90 Zv ZhW (φ, H) = gd φ 81 false (fun φ => some (fput φ 83 (.tup []), H)) (fun φ => some (fput φ 83 (fget φ 8), H)) := s_gd (j := 9) (oj := Z3S) rfl rfl rfl (fun _ => rfl) (fun _ => rfl)
theorem ZHt : stepA E C B 90 Zv ZhX (φ, H) = gd φ 81 false (fun φ => some (fput φ 84 (.tup []), H)) (fun φ => stp (some 84) φ H (just (aBin E.T .lss 3 (fget φ 82) (fget φ 83)))) := s_gd (j := 9) (oj := Z3S) rfl rfl rfl (fun _ => rfl) (fun _ => rfl)
theorem ZJt : stepA E C B 90 Zv ZiE (φ, H) = gd φ 78 true (fun φ => some (fput φ 85 (.tup []), H)) (fun φ => stp (some 85) φ H (opPick (fget φ 81) (.bool true) (fget φ 84))) := s_gd (j := 6) (oj := Z2A) rfl rfl rfl (fun _ => rfl) (fun _ => rfl)
theorem ZHJ : stepA E C B 90 Zv Zil (φ, H) = stp (some 86) φ H (opPick (fget φ 78) (fget φ 85) (.bool false)) := nf
def Zeb := kR ZbO
def ZsK := kT Zeb
def Z5R := kO ZsK
def ZwG := opN Z5R 0
def ZoK := opN Z5R 1
theorem Z0bs : XG 73 90 ZsK Z5R [14, 86, 87] := Z1 (by rfl) (by rfl) _
theorem ZSY : Z5R.toList = [ZwG, ZoK] := nf
theorem ZXf : stepA E C B 90 Z5R ZwG (φ, H) = some (fput φ 87 (fget φ 14), H) := nf
theorem ZWg : stepA E C B 90 Z5R ZoK (φ, H) = some (fput φ 8 (fget φ 87), H) := nf
def ZIj := kE Zeb
theorem Z0jK : execA E C (fg 73) B 90 E0 N ZIj s = some (.normal, s) := Zh (by rfl) s
theorem Z0bW : XC 73 90 Zeb 86 ZsK ZIj := Zb (by rfl) _
theorem Z0is : XQ 73 90 ZbO Zwb Zeb := Z0 (by rfl) _
theorem Z0jF : XQ 73 90 Zf0 ZxG ZbO := Z0 (by rfl) _
theorem Z0f6 : XQ 73 90 ZdL Zbk Zf0 := Z0 (by rfl) _
theorem Z0cP : XQ 73 90 ZbJ Zol ZdL := Z0 (by rfl) _
theorem Z0gl : XQ 73 90 Zdo ZnN ZbJ := Z0 (by rfl) _
theorem Z0fM : execA E C (fg 73) B 90 E0 N Ztf s = blockX 3 (fun s => (forget s.1 [14, 86], s.2)) (execA E C (fg 73) B 90 E0 N Zdo s) := Za (by rfl) (by rfl) s
def Znc := kR Zes
def Z5k := kO Znc
def Zxs := opN Z5k 0
def Zpf := opN Z5k 1
theorem Z0iG : XG 73 90 Znc Z5k [88] := Z1 (by rfl) (by rfl) _
theorem ZUo : Z5k.toList = [Zxs, Zpf] := nf
theorem ZTI : stepA E C B 90 Z5k Zxs (φ, H) = stp (some 88) φ H (just (aBin E.T .add 3 (fget φ 34) (.int .i64 1))) := nf
theorem ZOY : stepA E C B 90 Z5k Zpf (φ, H) = some (fput φ 34 (fget φ 88), H) := nf
theorem Z0cp : XQ 73 90 Zes Ztf Znc := Z0 (by rfl) _
theorem Z0fR : XQ 73 90 Zbi ZbT Zes := Z0 (by rfl) _
theorem Z0bY : XQ 73 90 Z5c Zyd Zbi := Z0 (by rfl) _
theorem Z0hy : execA E C (fg 73) B 90 E0 N ZkP s = iterA (execA E C (fg 73) B 90 E0 N Z5c) (headA E0) N s := ZN (by rfl) s
theorem Z0d4 : execA E C (fg 73) B 90 E0 N Zu9 s = blockX 2 (fun s => (forget s.1 [1, 2, 5, 32, 33, 34, 35], s.2)) (execA E C (fg 73) B 90 E0 N ZkP s) := Za (by rfl) (by rfl) s
theorem Z0hH : XQ 73 90 Zci Zs9 Zu9 := Z0 (by rfl) _
def ZdY := kR ZeY
def ZpM := kL ZdY
def Z69 := kO ZpM
def ZtY := opN Z69 0
def Zs2 := opN Z69 1
theorem Z0k9 : XG 73 90 ZpM Z69 [8, 89] := Z1 (by rfl) (by rfl) _
theorem ZQO : Z69.toList = [ZtY, Zs2] := nf
theorem ZTP : stepA E C B 90 Z69 ZtY (φ, H) = some (fput φ 89 (fget φ 8), H) := nf
theorem ZTs : stepA E C B 90 Z69 Zs2 (φ, H) = some (fput φ 4 (fget φ 89), H) := nf
def ZIU := kR ZdY
theorem Z0dp : execA E C (fg 73) B 90 E0 N ZIU s = some (.ret, s) := Zl (by rfl) s
theorem Z0cM : XQ 73 90 ZdY ZpM ZIU := Z0 (by rfl) _
theorem Z0gf : XQ 73 90 ZeY Zci ZdY := Z0 (by rfl) _
theorem Z0dx : XQ 73 90 Zda ZrW ZeY := Z0 (by rfl) _
theorem Z0ma : XQ 73 90 Zjl Zjb Zda := Z0 (by rfl) _
theorem Z0lG : XQ 73 90 ZjM ZHh Zjl := Z0 (by rfl) _
theorem Z0ni : XQ 73 90 ZdS ZH4 ZjM := Z0 (by rfl) _
theorem Z0lU : fInfo E 73 = some ⟨90, #[.tmp 4], ZdS⟩ := nf
theorem b_73 (args : List AV) : bodyA E C fg N 73 args H B = bodyX E [.tmp 4] (execA E C (fg 73) B 90 H N ZdS (Z7 args 0 [], H)) := Zn Z0lU args H
abbrev F_73 := And.intro (And.intro (And.intro (And.intro (And.intro (And.intro (And.intro @Z0kI (And.intro @Z04i @Z09O)) (And.intro @Z038 (And.intro @Z0m4 @Z090))) (And.intro (And.intro @Z092 (And.intro @Z0o0 @Z0ai)) (And.intro @Z08f (And.intro @Z05m @Z069)))) (And.intro (And.intro (And.intro @Z08L (And.intro @Z0bB @Z0b9)) (And.intro @Z08c (And.intro @Z0j7 @Z0iX))) (And.intro (And.intro @Z0hz (And.intro @Z0dl @Z06r)) (And.intro (And.intro @Z00L @Z07q) (And.intro @Z05n @Z0gx))))) (And.intro (And.intro (And.intro (And.intro @Z007 (And.intro @Z01u @Z0aq)) (And.intro @Z05b (And.intro @Z017 @Z095))) (And.intro (And.intro @Z03d (And.intro @Z00i @Z06U)) (And.intro (And.intro @Z02p @Z0cQ) (And.intro @Z0dP @Z0hS)))) (And.intro (And.intro (And.intro @Z08g (And.intro @Z03S @Z08A)) (And.intro @Z0gC (And.intro @Z0et @Z0mI))) (And.intro (And.intro @Z0lH (And.intro @Z0nA @Z0kZ)) (And.intro (And.intro @Z0dv @Z00t) (And.intro @Z08Y @Z0fK)))))) (And.intro (And.intro (And.intro (And.intro (And.intro @Z029 (And.intro @Z08u @Z02E)) (And.intro @Z03G (And.intro @Z072 @Z0eL))) (And.intro (And.intro @Z047 (And.intro @Z02s @Z0cw)) (And.intro @Z0hX (And.intro @Z0fJ @Z0gS)))) (And.intro (And.intro (And.intro @ZW5 (And.intro @ZT5 @ZNK)) (And.intro @ZXs (And.intro @Z0hk @ZQb))) (And.intro (And.intro @ZTl (And.intro @ZSP @ZWf)) (And.intro (And.intro @Z0ee @ZQr) (And.intro @ZQ5 @ZOp))))) (And.intro (And.intro (And.intro (And.intro @ZYc (And.intro @ZRE @Z0f4)) (And.intro @ZXI (And.intro @ZPc @Z0hl))) (And.intro (And.intro @Z0cB (And.intro @Z0de @Z0jZ)) (And.intro (And.intro @ZOZ @ZU1) (And.intro @ZZz @ZUs)))) (And.intro (And.intro (And.intro @ZUA (And.intro @Z0jy @ZW9)) (And.intro @ZUe (And.intro @Z0eV @Z0eb))) (And.intro (And.intro @Z0cV (And.intro @Z0ff @ZUu)) (And.intro (And.intro @ZU7 @ZNT) (And.intro @ZXz @ZPu))))))) (And.intro (And.intro (And.intro (And.intro (And.intro (And.intro @Z0eW (And.intro @ZNF @ZNm)) (And.intro @ZY2 (And.intro @ZSl @ZR9))) (And.intro (And.intro @ZT8 (And.intro @ZV7 @Z0cI)) (And.intro @ZOX (And.intro @ZVD @ZVP)))) (And.intro (And.intro (And.intro @ZNM (And.intro @ZNs @ZM1)) (And.intro @ZQ2 (And.intro @Z0bZ @Z0dc))) (And.intro (And.intro @Z0fz (And.intro @Z0bP @Z0iH)) (And.intro (And.intro @Z0eA @ZTk) (And.intro @ZM9 @ZTT))))) (And.intro (And.intro (And.intro (And.intro @Z0hp (And.intro @Z0hU @Z0jR)) (And.intro @Z0eH (And.intro @Z0fG @Z0jI))) (And.intro (And.intro @Z0dB (And.intro @Z0fj @ZLE)) (And.intro (And.intro @ZRT @ZO4) (And.intro @Z0hi @Z0fu)))) (And.intro (And.intro (And.intro @Z0in (And.intro @Z0e5 @Z0k4)) (And.intro @Z0jD (And.intro @Z0j4 @ZNt))) (And.intro (And.intro @ZRL (And.intro @ZTm @ZXv)) (And.intro (And.intro @ZS2 @ZOk) (And.intro @ZNC @ZOr)))))) (And.intro (And.intro (And.intro (And.intro (And.intro @ZQe (And.intro @Z0ek @ZVv)) (And.intro @ZUG (And.intro @ZVd @ZZw))) (And.intro (And.intro @ZUc (And.intro @ZNd @ZQI)) (And.intro (And.intro @ZWL @ZP3) (And.intro @ZNw @ZSs)))) (And.intro (And.intro (And.intro @ZIW (And.intro @ZL9 @ZHt)) (And.intro @ZJt (And.intro @ZHJ @Z0bs))) (And.intro (And.intro @ZSY (And.intro @ZXf @ZWg)) (And.intro (And.intro @Z0jK @Z0bW) (And.intro @Z0is @Z0jF))))) (And.intro (And.intro (And.intro (And.intro @Z0f6 (And.intro @Z0cP @Z0gl)) (And.intro @Z0fM (And.intro @Z0iG @ZUo))) (And.intro (And.intro @ZTI (And.intro @ZOY @Z0cp)) (And.intro (And.intro @Z0fR @Z0bY) (And.intro @Z0hy @Z0d4)))) (And.intro (And.intro (And.intro @Z0hH (And.intro @Z0k9 @ZQO)) (And.intro @ZTP (And.intro @ZTs @Z0dp))) (And.intro (And.intro @Z0cM (And.intro @Z0gf @Z0dx)) (And.intro (And.intro @Z0ma @Z0lG) (And.intro @Z0ni @b_73)))))))
def ZdA := kBody Proofs.Tryd.f42
def ZGQ := kL ZdA
def Zjd := kO ZGQ
def ZFB := opN Zjd 0
theorem Z0lY : XG 42 9 ZGQ Zjd [4] := Z1 (by rfl) (by rfl) _
theorem Z09s : Zjd.toList = [ZFB] := nf
theorem Z04X : stepA E C B 9 Zjd ZFB (φ, H) = some (fput φ 4 (.bool false), H) := nf
def ZiU := kR ZdA
def ZGE := kL ZiU
def Z24 := kO ZGE
def Zz1 := opN Z24 0
def ZBW := opN Z24 1
def ZCl := opN Z24 2
def Zzg := opN Z24 3
def ZEk := opN Z24 4
theorem Z0mw : XG 42 9 ZGE Z24 [0, 1, 5, 6, 7, 8] := Z1 (by rfl) (by rfl) _
theorem Z07x : Z24.toList = [Zz1, ZBW, ZCl, Zzg, ZEk] := nf
theorem Z09X : stepA E C B 9 Z24 Zz1 (φ, H) = some (fput φ 5 (fget φ 0), H) := nf
theorem Z06B : stepA E C B 9 Z24 ZBW (φ, H) = some (fput φ 6 (fget φ 1), H) := nf
theorem Z06t : stepA E C B 9 Z24 ZCl (φ, H) = stp (some 7) φ H (aCall C (fun j => B + j * 9 + 7) true 112 [(fget φ 5), (fget φ 6)]) := nf
theorem Z02K : stepA E C B 9 Z24 Zzg (φ, H) = stp (some 8) φ H (just (aBin E.T .geq 3 (fget φ 7) (.int .i64 0))) := nf
theorem Z0b8 : stepA E C B 9 Z24 ZEk (φ, H) = some (fput φ 4 (fget φ 8), H) := nf
def ZZU := kR ZiU
theorem Z0kf : execA E C (fg 42) B 9 E0 N ZZU s = some (.ret, s) := Zl (by rfl) s
theorem Z0na : XQ 42 9 ZiU ZGE ZZU := Z0 (by rfl) _
theorem Z0kC : XQ 42 9 ZdA ZGQ ZiU := Z0 (by rfl) _
theorem Z0mV : fInfo E 42 = some ⟨9, #[.tmp 4], ZdA⟩ := nf
theorem b_42 (args : List AV) : bodyA E C fg N 42 args H B = bodyX E [.tmp 4] (execA E C (fg 42) B 9 H N ZdA (Z7 args 0 [], H)) := Zn Z0mV args H
abbrev F_42 := And.intro (And.intro (And.intro @Z0lY (And.intro @Z09s @Z04X)) (And.intro (And.intro @Z0mw @Z07x) (And.intro @Z09X @Z06B))) (And.intro (And.intro @Z06t (And.intro @Z02K @Z0b8)) (And.intro (And.intro @Z0kf @Z0na) (And.intro @Z0kC @b_42)))
def Z78 := kBody Proofs.Tryd.f112
def Zr8 := kL Z78
def ZbP := kO Zr8
def Zrk := opN ZbP 0
theorem Z0jw : XG 112 19 Zr8 ZbP [4] := Z1 (by rfl) (by rfl) _
theorem ZSU : ZbP.toList = [Zrk] := nf
theorem ZQS : stepA E C B 19 ZbP Zrk (φ, H) = some (fput φ 4 (.int .i64 0), H) := nf
def Zcw := kR Z78
def Zc6 := kL Zcw
def ZwF := kL Zc6
def Z3q := kO ZwF
def ZvH := opN Z3q 0
def Zts := opN Z3q 1
def Zoq := opN Z3q 2
theorem Z0hs : XG 112 19 ZwF Z3q [6] := Z1 (by rfl) (by rfl) _
theorem ZYU : Z3q.toList = [ZvH, Zts, Zoq] := nf
theorem ZRB : stepA E C B 19 Z3q ZvH (φ, H) = some (fput φ 6 (fget φ 0), H) := nf
theorem ZSd : stepA E C B 19 Z3q Zts (φ, H) = stp (some 7) φ H (Z4 E.T (B + 7) .len #[23] [(fget φ 6)]) := nf
theorem ZVo : stepA E C B 19 Z3q Zoq (φ, H) = some (fput φ 8 (.int .i64 0), H) := nf
def Zw2 := kR Zc6
def ZqS := kB Zw2
def Z34 := kB ZqS
def ZtC := kL Z34
def Zc8 := kO ZtC
def Zsz := opN Zc8 0
theorem Z0k7 : XG 112 19 ZtC Zc8 [] := Z1 (by rfl) (by rfl) _
theorem ZUF : Zc8.toList = [Zsz] := nf
theorem ZYf : stepA E C B 19 Zc8 Zsz (φ, H) = stp (some 9) φ H (just (aBin E.T .lss 3 (fget φ 8) (fget φ 7))) := nf
def Zbh := kR Z34
def Z7W := kL Zbh
def ZEN := kT Z7W
theorem Z07U : execA E C (fg 112) B 19 E0 N ZEN s = some (.normal, s) := Zh (by rfl) s
def ZDn := kE Z7W
theorem Z052 : execA E C (fg 112) B 19 E0 N ZDn s = some (.exit 0, s) := ZO (by rfl) s
theorem Z09D : XC 112 19 Z7W 9 ZEN ZDn := Zb (by rfl) _
def Z9n := kR Zbh
def ZfS := kL Z9n
def Z95 := kB ZfS
def Zg3 := kL Z95
def Z50 := kO Zg3
def ZnM := opN Z50 0
def Zw5 := opN Z50 1
theorem Z04h : XG 112 19 Zg3 Z50 [9, 10] := Z1 (by rfl) (by rfl) _
theorem ZWt : Z50.toList = [ZnM, Zw5] := nf
theorem ZT6 : stepA E C B 19 Z50 ZnM (φ, H) = some (fput φ 10 (fget φ 8), H) := nf
theorem ZXl : stepA E C B 19 Z50 Zw5 (φ, H) = some (fput φ 5 (fget φ 10), H) := nf
def Z9r := kR Z95
def Zgi := kL Z9r
def Z0V := kO Zgi
def ZqO := opN Z0V 0
def Znk := opN Z0V 1
def Znp := opN Z0V 2
def ZnH := opN Z0V 3
def Zl1 := opN Z0V 4
def Zot := opN Z0V 5
theorem Z04u : XG 112 19 Zgi Z0V [11, 12, 13, 14, 15] := Z1 (by rfl) (by rfl) _
theorem ZPt : Z0V.toList = [ZqO, Znk, Znp, ZnH, Zl1, Zot] := nf
theorem ZTj : stepA E C B 19 Z0V ZqO (φ, H) = some (fput φ 11 (fget φ 1), H) := nf
theorem ZPO : stepA E C B 19 Z0V Znk (φ, H) = some (fput φ 12 (fget φ 0), H) := nf
theorem ZSg : stepA E C B 19 Z0V Znp (φ, H) = some (fput φ 13 (fget φ 5), H) := nf
theorem ZRH : stepA E C B 19 Z0V ZnH (φ, H) = stp (some 14) φ H (just (Z2 E.T 23 (fget φ 12) (fget φ 13))) := nf
theorem ZSx : stepA E C B 19 Z0V Zl1 (φ, H) = stp (some 15) φ H (just (aLoad E.T 64 (fget φ 14))) := nf
theorem ZLU : stepA E C B 19 Z0V Zot (φ, H) = callV E C (B + 19 * 8) (some 16) (fun j => B + j * 19 + 16) φ H (fget φ 11) [(fget φ 15)] true := nf
def Z8x := kR Z9r
def Z9S := kT Z8x
def Zg1 := kL Z9S
def Z5O := kO Zg1
def Zmd := opN Z5O 0
def Ztj := opN Z5O 1
theorem Z05g : XG 112 19 Zg1 Z5O [0, 1, 5, 7, 8, 16, 17] := Z1 (by rfl) (by rfl) _
theorem ZMu : Z5O.toList = [Zmd, Ztj] := nf
theorem ZRl : stepA E C B 19 Z5O Zmd (φ, H) = some (fput φ 17 (fget φ 5), H) := nf
theorem ZYQ : stepA E C B 19 Z5O Ztj (φ, H) = some (fput φ 4 (fget φ 17), H) := nf
def ZDj := kR Z9S
theorem Z06D : execA E C (fg 112) B 19 E0 N ZDj s = some (.ret, s) := Zl (by rfl) s
theorem Z04v : XQ 112 19 Z9S Zg1 ZDj := Z0 (by rfl) _
def ZDk := kE Z8x
theorem Z06b : execA E C (fg 112) B 19 E0 N ZDk s = some (.normal, s) := Zh (by rfl) s
theorem Z03n : XC 112 19 Z8x 16 Z9S ZDk := Zb (by rfl) _
theorem Z02c : XQ 112 19 Z9r Zgi Z8x := Z0 (by rfl) _
theorem Z04B : XQ 112 19 Z95 Zg3 Z9r := Z0 (by rfl) _
theorem Z04t : execA E C (fg 112) B 19 E0 N ZfS s = blockX 1 (fun s => (forget s.1 [5, 16], s.2)) (execA E C (fg 112) B 19 E0 N Z95 s) := Za (by rfl) (by rfl) s
def Zgg := kR Z9n
def Z5r := kO Zgg
def ZqR := opN Z5r 0
def Zt9 := opN Z5r 1
theorem Z09S : XG 112 19 Zgg Z5r [18] := Z1 (by rfl) (by rfl) _
theorem ZSc : Z5r.toList = [ZqR, Zt9] := nf
theorem ZOc : stepA E C B 19 Z5r ZqR (φ, H) = stp (some 18) φ H (just (aBin E.T .add 3 (fget φ 8) (.int .i64 1))) := nf
theorem ZM8 : stepA E C B 19 Z5r Zt9 (φ, H) = some (fput φ 8 (fget φ 18), H) := nf
theorem Z06N : XQ 112 19 Z9n ZfS Zgg := Z0 (by rfl) _
theorem Z0dm : XQ 112 19 Zbh Z7W Z9n := Z0 (by rfl) _
theorem Z0cz : XQ 112 19 Z34 ZtC Zbh := Z0 (by rfl) _
theorem Z0hR : execA E C (fg 112) B 19 E0 N ZqS s = iterA (execA E C (fg 112) B 19 E0 N Z34) (headA E0) N s := ZN (by rfl) s
theorem Z0dY : execA E C (fg 112) B 19 E0 N Zw2 s = blockX 0 (fun s => (forget s.1 [0, 1, 7, 8, 9], s.2)) (execA E C (fg 112) B 19 E0 N ZqS s) := Za (by rfl) (by rfl) s
theorem Z0e7 : XQ 112 19 Zc6 ZwF Zw2 := Z0 (by rfl) _
def Z9B := kR Zcw
def ZfN := kL Z9B
def ZbE := kO ZfN
def Zyb := opN ZbE 0
theorem Z07o : XG 112 19 ZfN ZbE [] := Z1 (by rfl) (by rfl) _
theorem ZRA : ZbE.toList = [Zyb] := nf
theorem ZYL : stepA E C B 19 ZbE Zyb (φ, H) = some (fput φ 4 (.int .i64 (-1)), H) := nf
def ZFm := kR Z9B
theorem Z08m : execA E C (fg 112) B 19 E0 N ZFm s = some (.ret, s) := Zl (by rfl) s
theorem Z0aS : XQ 112 19 Z9B ZfN ZFm := Z0 (by rfl) _
theorem Z0cr : XQ 112 19 Zcw Zc6 Z9B := Z0 (by rfl) _
theorem Z0iZ : XQ 112 19 Z78 Zr8 Zcw := Z0 (by rfl) _
theorem Z0j0 : fInfo E 112 = some ⟨19, #[.tmp 4], Z78⟩ := nf
theorem Z0n7 (args : List AV) : bodyA E C fg N 112 args H B = bodyX E [.tmp 4] (execA E C (fg 112) B 19 H N Z78 (Z7 args 0 [], H)) := Zn Z0j0 args H
abbrev Z6r := And.intro (And.intro (And.intro (And.intro (And.intro @Z0jw (And.intro @ZSU @ZQS)) (And.intro @Z0hs (And.intro @ZYU @ZRB))) (And.intro (And.intro @ZSd (And.intro @ZVo @Z0k7)) (And.intro (And.intro @ZUF @ZYf) (And.intro @Z07U @Z052)))) (And.intro (And.intro (And.intro @Z09D (And.intro @Z04h @ZWt)) (And.intro (And.intro @ZT6 @ZXl) (And.intro @Z04u @ZPt))) (And.intro (And.intro @ZTj (And.intro @ZPO @ZSg)) (And.intro (And.intro @ZRH @ZSx) (And.intro @ZLU @Z05g))))) (And.intro (And.intro (And.intro (And.intro @ZMu (And.intro @ZRl @ZYQ)) (And.intro (And.intro @Z06D @Z04v) (And.intro @Z06b @Z03n))) (And.intro (And.intro @Z02c (And.intro @Z04B @Z04t)) (And.intro (And.intro @Z09S @ZSc) (And.intro @ZOc @ZM8)))) (And.intro (And.intro (And.intro @Z06N (And.intro @Z0dm @Z0cz)) (And.intro (And.intro @Z0hR @Z0dY) (And.intro @Z0e7 @Z07o))) (And.intro (And.intro @ZRA (And.intro @ZYL @Z08m)) (And.intro (And.intro @Z0aS @Z0cr) (And.intro @Z0iZ @Z0n7)))))
def Zck := kBody Proofs.Tryd.f75
def ZG4 := kL Zck
def Zjv := kO ZG4
def ZBI := opN Zjv 0
theorem Z0mZ : XG 75 9 ZG4 Zjv [4] := Z1 (by rfl) (by rfl) _
theorem Z05E : Zjv.toList = [ZBI] := nf
theorem Z04J : stepA E C B 9 Zjv ZBI (φ, H) = some (fput φ 4 (.bool false), H) := nf
def Zk2 := kR Zck
def ZFW := kL Zk2
def Z26 := kO ZFW
def ZFu := opN Z26 0
def ZD3 := opN Z26 1
def ZAz := opN Z26 2
def Zzp := opN Z26 3
def ZBV := opN Z26 4
theorem Z0kB : XG 75 9 ZFW Z26 [0, 1, 5, 6, 7, 8] := Z1 (by rfl) (by rfl) _
theorem Z03e : Z26.toList = [ZFu, ZD3, ZAz, Zzp, ZBV] := nf
theorem Z05R : stepA E C B 9 Z26 ZFu (φ, H) = some (fput φ 5 (fget φ 0), H) := nf
theorem Z01M : stepA E C B 9 Z26 ZD3 (φ, H) = some (fput φ 6 (fget φ 1), H) := nf
theorem Z09T : stepA E C B 9 Z26 ZAz (φ, H) = stp (some 7) φ H (aCall C (fun j => B + j * 9 + 7) true 82 [(fget φ 5), (fget φ 6)]) := nf
theorem Z05y : stepA E C B 9 Z26 Zzp (φ, H) = stp (some 8) φ H (just (aBin E.T .geq 3 (fget φ 7) (.int .i64 0))) := nf
theorem Z07Q : stepA E C B 9 Z26 ZBV (φ, H) = some (fput φ 4 (fget φ 8), H) := nf
def ZZW := kR Zk2
theorem Z0lk : execA E C (fg 75) B 9 E0 N ZZW s = some (.ret, s) := Zl (by rfl) s
theorem Z0mu : XQ 75 9 Zk2 ZFW ZZW := Z0 (by rfl) _
theorem Z0nU : XQ 75 9 Zck ZG4 Zk2 := Z0 (by rfl) _
theorem Z0lq : fInfo E 75 = some ⟨9, #[.tmp 4], Zck⟩ := nf
theorem b_75 (args : List AV) : bodyA E C fg N 75 args H B = bodyX E [.tmp 4] (execA E C (fg 75) B 9 H N Zck (Z7 args 0 [], H)) := Zn Z0lq args H
abbrev F_75 := And.intro (And.intro (And.intro @Z0mZ (And.intro @Z05E @Z04J)) (And.intro (And.intro @Z0kB @Z03e) (And.intro @Z05R @Z01M))) (And.intro (And.intro @Z09T (And.intro @Z05y @Z07Q)) (And.intro (And.intro @Z0lk @Z0mu) (And.intro @Z0nU @b_75)))
def ZdZ := kBody Proofs.Tryd.f82
def ZGn := kL ZdZ
def ZjA := kO ZGn
def ZE2 := opN ZjA 0
theorem Z0mo : XG 82 19 ZGn ZjA [4] := Z1 (by rfl) (by rfl) _
theorem Z04L : ZjA.toList = [ZE2] := nf
theorem Z00s : stepA E C B 19 ZjA ZE2 (φ, H) = some (fput φ 4 (.int .i64 0), H) := nf
def ZjG := kR ZdZ
def Zj6 := kL ZjG
def ZFU := kL Zj6
def Z4B := kO ZFU
def ZDv := opN Z4B 0
def ZA6 := opN Z4B 1
def ZCS := opN Z4B 2
theorem Z0mj : XG 82 19 ZFU Z4B [6] := Z1 (by rfl) (by rfl) _
theorem Z036 : Z4B.toList = [ZDv, ZA6, ZCS] := nf
theorem Z067 : stepA E C B 19 Z4B ZDv (φ, H) = some (fput φ 6 (fget φ 0), H) := nf
theorem Z03A : stepA E C B 19 Z4B ZA6 (φ, H) = stp (some 7) φ H (Z4 E.T (B + 7) .len #[36] [(fget φ 6)]) := nf
theorem Z09R : stepA E C B 19 Z4B ZCS (φ, H) = some (fput φ 8 (.int .i64 0), H) := nf
def ZGc := kR Zj6
def ZH0 := kB ZGc
def Z4y := kB ZH0
def ZGp := kL Z4y
def Zjn := kO ZGp
def ZBK := opN Zjn 0
theorem Z0nq : XG 82 19 ZGp Zjn [] := Z1 (by rfl) (by rfl) _
theorem Z0bk : Zjn.toList = [ZBK] := nf
theorem Z09P : stepA E C B 19 Zjn ZBK (φ, H) = stp (some 9) φ H (just (aBin E.T .lss 3 (fget φ 8) (fget φ 7))) := nf
def Zjk := kR Z4y
def Zd2 := kL Zjk
def ZKi := kT Zd2
theorem Z0bV : execA E C (fg 82) B 19 E0 N ZKi s = some (.normal, s) := Zh (by rfl) s
def ZK7 := kE Zd2
theorem Z0fa : execA E C (fg 82) B 19 E0 N ZK7 s = some (.exit 0, s) := ZO (by rfl) s
theorem Z0cZ : XC 82 19 Zd2 9 ZKi ZK7 := Zb (by rfl) _
def ZaY := kR Zjk
def Zru := kL ZaY
def Zcz := kB Zru
def Zlt := kL Zcz
def Z8E := kO Zlt
def ZE0 := opN Z8E 0
def ZCW := opN Z8E 1
theorem Z0ig : XG 82 19 Zlt Z8E [9, 10] := Z1 (by rfl) (by rfl) _
theorem Z00A : Z8E.toList = [ZE0, ZCW] := nf
theorem Z04g : stepA E C B 19 Z8E ZE0 (φ, H) = some (fput φ 10 (fget φ 8), H) := nf
theorem Z01I : stepA E C B 19 Z8E ZCW (φ, H) = some (fput φ 5 (fget φ 10), H) := nf
def Zed := kR Zcz
def Zpb := kL Zed
def Z1s := kO Zpb
def ZEA := opN Z1s 0
def ZAO := opN Z1s 1
def ZCv := opN Z1s 2
def ZAb := opN Z1s 3
def ZFq := opN Z1s 4
def ZDU := opN Z1s 5
theorem Z0cx : XG 82 19 Zpb Z1s [11, 12, 13, 14, 15] := Z1 (by rfl) (by rfl) _
theorem Z08q : Z1s.toList = [ZEA, ZAO, ZCv, ZAb, ZFq, ZDU] := nf
theorem Z03R : stepA E C B 19 Z1s ZEA (φ, H) = some (fput φ 11 (fget φ 1), H) := nf
theorem Z08V : stepA E C B 19 Z1s ZAO (φ, H) = some (fput φ 12 (fget φ 0), H) := nf
theorem ZZZ : stepA E C B 19 Z1s ZCv (φ, H) = some (fput φ 13 (fget φ 5), H) := nf
theorem Z01W : stepA E C B 19 Z1s ZAb (φ, H) = stp (some 14) φ H (just (Z2 E.T 36 (fget φ 12) (fget φ 13))) := nf
theorem Z04I : stepA E C B 19 Z1s ZFq (φ, H) = stp (some 15) φ H (just (aLoad E.T 3 (fget φ 14))) := nf
theorem Z04y : stepA E C B 19 Z1s ZDU (φ, H) = stp (some 16) φ H (just (aBin E.T .eql 3 (fget φ 11) (fget φ 15))) := nf
def Zc2 := kR Zed
def Zf4 := kT Zc2
def ZmP := kL Zf4
def Z9o := kO ZmP
def ZB1 := opN Z9o 0
def ZDh := opN Z9o 1
theorem Z0jJ : XG 82 19 ZmP Z9o [0, 1, 5, 7, 8, 16, 17] := Z1 (by rfl) (by rfl) _
theorem Z0aF : Z9o.toList = [ZB1, ZDh] := nf
theorem Z06O : stepA E C B 19 Z9o ZB1 (φ, H) = some (fput φ 17 (fget φ 5), H) := nf
theorem Z04D : stepA E C B 19 Z9o ZDh (φ, H) = some (fput φ 4 (fget φ 17), H) := nf
def ZJM := kR Zf4
theorem Z0ch : execA E C (fg 82) B 19 E0 N ZJM s = some (.ret, s) := Zl (by rfl) s
theorem Z0dJ : XQ 82 19 Zf4 ZmP ZJM := Z0 (by rfl) _
def ZKJ := kE Zc2
theorem Z0ft : execA E C (fg 82) B 19 E0 N ZKJ s = some (.normal, s) := Zh (by rfl) s
theorem Z0fg : XC 82 19 Zc2 16 Zf4 ZKJ := Zb (by rfl) _
theorem Z0dD : XQ 82 19 Zed Zpb Zc2 := Z0 (by rfl) _
theorem Z0i3 : XQ 82 19 Zcz Zlt Zed := Z0 (by rfl) _
theorem Z0fT : execA E C (fg 82) B 19 E0 N Zru s = blockX 1 (fun s => (forget s.1 [5, 16], s.2)) (execA E C (fg 82) B 19 E0 N Zcz s) := Za (by rfl) (by rfl) s
def Zlh := kR ZaY
def Z8o := kO Zlh
def ZF7 := opN Z8o 0
def ZED := opN Z8o 1
theorem Z0jE : XG 82 19 Zlh Z8o [18] := Z1 (by rfl) (by rfl) _
theorem Z0ah : Z8o.toList = [ZF7, ZED] := nf
theorem Z00q : stepA E C B 19 Z8o ZF7 (φ, H) = stp (some 18) φ H (just (aBin E.T .add 3 (fget φ 8) (.int .i64 1))) := nf
theorem Z0am : stepA E C B 19 Z8o ZED (φ, H) = some (fput φ 8 (fget φ 18), H) := nf
theorem Z0cT : XQ 82 19 ZaY Zru Zlh := Z0 (by rfl) _
theorem Z0nJ : XQ 82 19 Zjk Zd2 ZaY := Z0 (by rfl) _
theorem Z0lg : XQ 82 19 Z4y ZGp Zjk := Z0 (by rfl) _
theorem Z0nl : execA E C (fg 82) B 19 E0 N ZH0 s = iterA (execA E C (fg 82) B 19 E0 N Z4y) (headA E0) N s := ZN (by rfl) s
theorem Z0lt : execA E C (fg 82) B 19 E0 N ZGc s = blockX 0 (fun s => (forget s.1 [0, 1, 7, 8, 9], s.2)) (execA E C (fg 82) B 19 E0 N ZH0 s) := Za (by rfl) (by rfl) s
theorem Z0kF : XQ 82 19 Zj6 ZFU ZGc := Z0 (by rfl) _
def Zbj := kR ZjG
def Zk6 := kL Zbj
def ZiZ := kO Zk6
def ZEv := opN ZiZ 0
theorem Z0il : XG 82 19 Zk6 ZiZ [] := Z1 (by rfl) (by rfl) _
theorem Z03Y : ZiZ.toList = [ZEv] := nf
theorem Z037 : stepA E C B 19 ZiZ ZEv (φ, H) = some (fput φ 4 (.int .i64 (-1)), H) := nf
def ZKP := kR Zbj
theorem Z0h1 : execA E C (fg 82) B 19 E0 N ZKP s = some (.ret, s) := Zl (by rfl) s
theorem Z0fk : XQ 82 19 Zbj Zk6 ZKP := Z0 (by rfl) _
theorem Z0nt : XQ 82 19 ZjG Zj6 Zbj := Z0 (by rfl) _
theorem Z0n1 : XQ 82 19 ZdZ ZGn ZjG := Z0 (by rfl) _
theorem Z0kH : fInfo E 82 = some ⟨19, #[.tmp 4], ZdZ⟩ := nf
theorem b_82 (args : List AV) : bodyA E C fg N 82 args H B = bodyX E [.tmp 4] (execA E C (fg 82) B 19 H N ZdZ (Z7 args 0 [], H)) := Zn Z0kH args H
abbrev F_82 := And.intro (And.intro (And.intro (And.intro (And.intro @Z0mo (And.intro @Z04L @Z00s)) (And.intro @Z0mj (And.intro @Z036 @Z067))) (And.intro (And.intro @Z03A (And.intro @Z09R @Z0nq)) (And.intro (And.intro @Z0bk @Z09P) (And.intro @Z0bV @Z0fa)))) (And.intro (And.intro (And.intro @Z0cZ (And.intro @Z0ig @Z00A)) (And.intro (And.intro @Z04g @Z01I) (And.intro @Z0cx @Z08q))) (And.intro (And.intro @Z03R (And.intro @Z08V @ZZZ)) (And.intro (And.intro @Z01W @Z04I) (And.intro @Z04y @Z0jJ))))) (And.intro (And.intro (And.intro (And.intro @Z0aF (And.intro @Z06O @Z04D)) (And.intro (And.intro @Z0ch @Z0dJ) (And.intro @Z0ft @Z0fg))) (And.intro (And.intro @Z0dD (And.intro @Z0i3 @Z0fT)) (And.intro (And.intro @Z0jE @Z0ah) (And.intro @Z00q @Z0am)))) (And.intro (And.intro (And.intro @Z0cT (And.intro @Z0nJ @Z0lg)) (And.intro (And.intro @Z0nl @Z0lt) (And.intro @Z0kF @Z0il))) (And.intro (And.intro @Z03Y (And.intro @Z037 @Z0h1)) (And.intro (And.intro @Z0fk @Z0nt) (And.intro @Z0n1 @b_82)))))
def Zc9 := kBody Proofs.Tryd.f77
def ZG8 := kL Zc9
def ZjZ := kO ZG8
def ZBX := opN ZjZ 0
theorem Z0mA : XG 77 8 ZG8 ZjZ [2] := Z1 (by rfl) (by rfl) _
theorem Z01i : ZjZ.toList = [ZBX] := nf
theorem Z08G : stepA E C B 8 ZjZ ZBX (φ, H) = some (fput φ 2 (.nilsl), H) := nf
def Zjy := kR Zc9
def Zjf := kL Zjy
def ZGK := kL Zjf
def Z87 := kO ZGK
def ZC4 := opN Z87 0
def ZCi := opN Z87 1
theorem Z0np : XG 77 8 ZGK Z87 [3] := Z1 (by rfl) (by rfl) _
theorem Z09q : Z87.toList = [ZC4, ZCi] := nf
theorem Z00T : stepA E C B 8 Z87 ZC4 (φ, H) = some (fput φ 3 (fget φ 0), H) := nf
theorem Z03l : stepA E C B 8 Z87 ZCi (φ, H) = stp (some 4) φ H (just (aBin E.T .eql 36 (fget φ 3) (.nilsl))) := nf
def Zjr := kR Zjf
def ZjS := kT Zjr
def ZGg := kL ZjS
def Zji := kO ZGg
def ZAj := opN Zji 0
theorem Z0o7 : XG 77 8 ZGg Zji [0, 4] := Z1 (by rfl) (by rfl) _
theorem Z0bc : Zji.toList = [ZAj] := nf
theorem Z01R : stepA E C B 8 Zji ZAj (φ, H) = some (fput φ 2 (.nilsl), H) := nf
def ZZK := kR ZjS
theorem Z0kw : execA E C (fg 77) B 8 E0 N ZZK s = some (.ret, s) := Zl (by rfl) s
theorem Z0l0 : XQ 77 8 ZjS ZGg ZZK := Z0 (by rfl) _
def ZZV := kE Zjr
theorem Z0nF : execA E C (fg 77) B 8 E0 N ZZV s = some (.normal, s) := Zh (by rfl) s
theorem Z0kp : XC 77 8 Zjr 4 ZjS ZZV := Zb (by rfl) _
theorem Z0nj : XQ 77 8 Zjf ZGK Zjr := Z0 (by rfl) _
def Zd1 := kR Zjy
def ZqW := kL Zd1
def Z2Y := kO ZqW
def ZDB := opN Z2Y 0
def ZyQ := opN Z2Y 1
def ZCa := opN Z2Y 2
def ZBH := opN Z2Y 3
theorem Z0cJ : XG 77 8 ZqW Z2Y [0, 4, 5, 6, 7] := Z1 (by rfl) (by rfl) _
theorem Z0ac : Z2Y.toList = [ZDB, ZyQ, ZCa, ZBH] := nf
theorem Z008 : stepA E C B 8 Z2Y ZDB (φ, H) = stp (some 5) φ H (Zd E.T (B + 5) 36 0 (evO E φ) []) := nf
theorem Z01z : stepA E C B 8 Z2Y ZyQ (φ, H) = some (fput φ 6 (fget φ 0), H) := nf
theorem Z02g : stepA E C B 8 Z2Y ZCa (φ, H) = stp (some 7) φ H (Z4 E.T (B + 7) .append #[36, 36] [(fget φ 5), (fget φ 6)]) := nf
theorem Z03j : stepA E C B 8 Z2Y ZBH (φ, H) = some (fput φ 2 (fget φ 7), H) := nf
def ZKb := kR Zd1
theorem Z0dg : execA E C (fg 77) B 8 E0 N ZKb s = some (.ret, s) := Zl (by rfl) s
theorem Z0gA : XQ 77 8 Zd1 ZqW ZKb := Z0 (by rfl) _
theorem Z0kh : XQ 77 8 Zjy Zjf Zd1 := Z0 (by rfl) _
theorem Z0op : XQ 77 8 Zc9 ZG8 Zjy := Z0 (by rfl) _
theorem Z0nz : fInfo E 77 = some ⟨8, #[.tmp 2], Zc9⟩ := nf
theorem b_77 (args : List AV) : bodyA E C fg N 77 args H B = bodyX E [.tmp 2] (execA E C (fg 77) B 8 H N Zc9 (Z7 args 0 [], H)) := Zn Z0nz args H
abbrev F_77 := And.intro (And.intro (And.intro (And.intro @Z0mA (And.intro @Z01i @Z08G)) (And.intro @Z0np (And.intro @Z09q @Z00T))) (And.intro (And.intro @Z03l (And.intro @Z0o7 @Z0bc)) (And.intro (And.intro @Z01R @Z0kw) (And.intro @Z0l0 @Z0nF)))) (And.intro (And.intro (And.intro @Z0kp (And.intro @Z0nj @Z0cJ)) (And.intro @Z0ac (And.intro @Z008 @Z01z))) (And.intro (And.intro @Z02g (And.intro @Z03j @Z0dg)) (And.intro (And.intro @Z0gA @Z0kh) (And.intro @Z0op @b_77))))
end Go.AM.YtgfnbmfjbjopkaaDoor
end
noncomputable section
namespace Go.AM
noncomputable section
variable {k : Nat} {c : List AV} {T : AHeap}
theorem Z2t (hc : refsL c = []) : ∀ (n : Nat) (todo seen : List Nat), mark ((k, ⟨.box, c⟩) :: T) n todo seen = mark ((k, ⟨.box, []⟩) :: T) n todo seen
 | 0, _, _ => rfl
 | n + 1, [], _ => rfl
 | n + 1, i :: todo, seen => by
   simp only [mark, Z2o]
   by_cases hs : seen.contains i = true
   · rw [if_pos hs, if_pos hs]; exact Z2t hc n todo seen
   · rw [if_neg hs, if_neg hs]
     by_cases e : k = i
     · rw [if_pos e, if_pos e]
       simp only [hc]
       exact Z2t hc n _ _
     · rw [if_neg e, if_neg e]
       cases hget T i with
       | none => exact Z2t hc n _ _
       | some b =>
         obtain ⟨st, cs⟩ := b
         cases st <;> exact Z2t hc n _ _
theorem Zaa (S : AHeap) : ∀ l : List Nat, allHeld ((k, ⟨.box, c⟩) :: S) l = allHeld ((k, ⟨.box, []⟩) :: S) l
 | [] => rfl
 | i :: l => by
   simp only [allHeld, Z2o, Zaa S l]
   by_cases e : k = i
   · rw [if_pos e, if_pos e]; rfl
   · rw [if_neg e, if_neg e]
theorem ZcE (S : AHeap) : ∀ K : AHeap, closedH ((k, ⟨.box, c⟩) :: S) K = closedH ((k, ⟨.box, []⟩) :: S) K
 | [] => rfl
 | (i, ⟨st, cs⟩) :: K => by
   cases st <;> simp only [closedH, Zaa, ZcE S K]
theorem Zp (hc : refsL c = []) {φ : AFr} {T' : AHeap} (hT : hget T k = none) (h : headA [] (φ, (k, ⟨.box, []⟩) :: T) = (φ, (k, ⟨.box, []⟩) :: T')) : headA [] (φ, (k, ⟨.box, c⟩) :: T) = (φ, (k, ⟨.box, c⟩) :: T') := by
 simp only [headA, Z2t hc] at h ⊢
 generalize mark ((k, ⟨.box, []⟩) :: T) 1000 (refsF φ) [] = keep at *
 simp only [keepB] at h ⊢
 have hno : ∀ b, (k, b) ∉ T := by
   intro b hb
   have := ZJq hb
   rw [hT] at this
   simp at this
 have hsub : ∀ (S : AHeap) (p : Nat × Blk), p ∈ keepB [] keep S → p ∈ S := by
   intro S
   induction S with
   | nil => intro p hp; exact hp
   | cons q S ih =>
     intro p hp
     obtain ⟨i, b⟩ := q
     simp only [keepB] at hp
     cases hcnd : (keep.elem i || (hget [] i).isSome) with
     | true =>
       rw [hcnd, cond_true] at hp
       rcases List.mem_cons.1 hp with e | hp
       · simp [e]
       · exact List.mem_cons_of_mem _ (ih p hp)
     | false =>
       rw [hcnd, cond_false] at hp
       exact List.mem_cons_of_mem _ (ih p hp)
 have hclosed : ∀ S, closedB φ ((k, ⟨.box, c⟩) :: S) = closedB φ ((k, ⟨.box, []⟩) :: S) := by
   intro S
   simp only [closedB, Zaa, closedH, hc, ZcE, refsL, allHeld]
 cases hcnd : (keep.elem k || (hget [] k).isSome) with
 | true =>
   rw [hcnd] at h
   simp only [cond_true, gcIf, hclosed] at h ⊢
   cases hcl : closedB φ ((k, ⟨.box, []⟩) :: keepB [] keep T) with
   | true =>
     rw [hcl] at h
     simp only [Prod.mk.injEq, List.cons.injEq, true_and] at h ⊢
     exact h
   | false =>
     rw [hcl] at h
     simp only [Prod.mk.injEq, List.cons.injEq, true_and] at h ⊢
     exact h
 | false =>
   rw [hcnd] at h
   simp only [cond_false, gcIf] at h ⊢
   cases hcl : closedB φ (keepB [] keep T) with
   | true =>
     rw [hcl] at h
     simp only [Prod.mk.injEq, true_and] at h
     exfalso
     exact hno ⟨.box, []⟩ (hsub T _ (by rw [h]; simp))
   | false =>
     rw [hcl] at h
     simp only [Prod.mk.injEq, List.cons.injEq, true_and] at h ⊢
     exact h
end
theorem Zm : ∀ (l : List AV), (∀ a ∈ l, ∃ k z, a = AV.int k z) → refsL l = []
 | [], _ => rfl
 | a :: l, h => by
   obtain ⟨k, z, rfl⟩ := h a (by simp)
   simp only [refsL, refsOf, List.nil_append]
   exact Zm l fun b hb => h b (by simp [hb])
end Go.AM
end
noncomputable section
namespace Go.AM.YtgfnbmfjbjopkaaDoor
open Go Go.AM Go.AM.Mule
structure Q5 where
 a : Int
 b : Int
 c : Int
 d : Int
 e : Int
deriving Inhabited
def q5c (q : Q5) : List AV := [.int .u8 q.a, .int .u8 q.b, .int .u8 q.c, .int .u8 q.d, .int .u8 q.e]
theorem Z7x (q : Q5) : (q5c q).length = 5 := rfl
structure Q5Ok (q : Q5) : Prop where
 a : 0 ≤ q.a ∧ q.a ≤ 255
 b : 0 ≤ q.b ∧ q.b ≤ 255
 c : 0 ≤ q.c ∧ q.c ≤ 255
 d : 0 ≤ q.d ∧ q.d ≤ 255
 e : 0 ≤ q.e ∧ q.e ≤ 255
structure Dro where
 many : Int
 xs : List Q5
 pairs : Nat
 al : List Int
def u8s (l : List Int) : List AV := l.map (AV.int .u8)
def dcs (D : Dro) : List AV := .int .u8 D.many :: (cls q5c D.xs ++ (.int .u16 (D.pairs : Int) :: u8s D.al))
structure DOk (D : Dro) : Prop where
 many : 0 ≤ D.many ∧ D.many ≤ 255
 xl : D.xs.length = 6
 xs : ∀ q ∈ D.xs, Q5Ok q
 pairs : D.pairs < 65536
 ll : D.al.length = 6
 al : ∀ z ∈ D.al, 0 ≤ z ∧ z ≤ 255
theorem Z3F {D : Dro} (h : DOk D) : (dcs D).length = 38 := by
 simp [dcs, Z9 Z7x, h.xl, u8s, h.ll]
theorem Z0l6 {D : Dro} {i : Nat} {q : Q5} (hx : D.xs[i]? = some q) : ((dcs D).drop (1 + i * 5)).take 5 = q5c q := by
 have hi := (List.getElem?_eq_some_iff.1 hx).1
 have hl := Z9 Z7x D.xs
 rw [dcs, show 1 + i * 5 = i * 5 + 1 by omega, List.drop_succ_cons, List.drop_append_of_le_length (by rw [hl]; omega), List.take_append_of_le_length (by rw [List.length_drop, hl]; omega)]
 exact Z0T Z7x hx
theorem Z0mX {D : Dro} (h : DOk D) : (dcs D)[31]? = some (.int .u16 (D.pairs : Int)) := by
 have hl := Z9 Z7x D.xs
 rw [h.xl] at hl
 rw [dcs, List.getElem?_cons_succ, List.getElem?_append_right (by omega), hl]; rfl
theorem Z0ou {D : Dro} (h : DOk D) {i : Nat} {z : Int} (hz : D.al[i]? = some z) : (dcs D)[32 + i]? = some (.int .u8 z) := by
 have hl := Z9 Z7x D.xs
 rw [h.xl] at hl
 rw [dcs, show 32 + i = (31 + i) + 1 by omega, List.getElem?_cons_succ, List.getElem?_append_right (by omega), hl, show 31 + i - 6 * 5 = i + 1 by omega, List.getElem?_cons_succ]
 simp [u8s, hz]
theorem ZP {D : Dro} : ∀ a ∈ dcs D, ∃ k z, a = AV.int k z := by
 intro a ha
 simp only [dcs, List.mem_cons, List.mem_append] at ha
 rcases ha with rfl | ha | rfl | ha
 · exact ⟨_, _, rfl⟩
 · simp only [cls, List.mem_flatMap] at ha
   obtain ⟨q, _, ha⟩ := ha
   simp only [q5c, List.mem_cons, List.not_mem_nil, or_false] at ha
   rcases ha with rfl | rfl | rfl | rfl | rfl <;> exact ⟨_, _, rfl⟩
 · exact ⟨_, _, rfl⟩
 · simp only [u8s, List.mem_map] at ha
   obtain ⟨z, _, rfl⟩ := ha
   exact ⟨_, _, rfl⟩
theorem Z6i {D : Dro} (h : DOk D) {d : Nat} (hd : 40 ≤ d) : snaps d (dcs D) = .pure (dcs D, []) := ZaC _ _ ZP (by rw [Z3F h]; omega)
def mdl (q : Q5) : Ld := { lo := 1 + q.a % 9, hi := 1 + q.a % 9 + q.b % (10 - (1 + q.a % 9)), due := q.c % 30, rate := q.d % 6, base := q.e % 8 }
def nOf (D : Dro) (m : Int) : Nat := 1 + (D.many % m).toNat
theorem ZiW {D : Dro} (_ : DOk D) {m : Int} (hm : m = 5 ∨ m = 6) : 1 ≤ nOf D m ∧ (nOf D m : Int) ≤ m := by
 unfold nOf
 rcases hm with rfl | rfl <;> omega
theorem Z0g1 {q : Q5} (h : Q5Ok q) : LdOk (mdl q) ∧ ldE (mdl q) = 0 := by
 obtain ⟨⟨a1, a2⟩, ⟨b1, b2⟩, ⟨c1, c2⟩, ⟨d1, d2⟩, ⟨e1, e2⟩⟩ := h
 have hm : 0 < 10 - (1 + q.a % 9) := by omega
 have h1 := Int.emod_nonneg q.b (show (10 - (1 + q.a % 9)) ≠ 0 by omega)
 have h2 := Int.emod_lt_of_pos q.b hm
 have hok : LdOk (mdl q) := by refine ⟨?_, ?_, ?_, ?_, ?_⟩ <;> simp only [mdl] <;> omega
 refine ⟨hok, ?_⟩
 unfold ldE
 rw [if_pos (ZKh.2 hok), if_neg (by simp only [mdl]; omega)]
def mdL (D : Dro) (n : Nat) : List Ld := (D.xs.take n).map mdl
theorem Z2C {D : Dro} (h : DOk D) {n : Nat} (hn : n ≤ 6) : (mdL D n).length = n := by simp [mdL, h.xl]; omega
abbrev m1S (D : Dro) (n i : Nat) : St :=
 ([(23, .int .i64 i), (22, .int .i64 n), (21, .ref 2 1 n 6 38 5 true), (5, .ptr 5 0 2), (4, .ptr 4 0 2), (2, .ptr 2 0 38)],
   (2, ⟨.box, dcs D⟩) :: (4, ⟨.box, [.nilsl, .nilsl]⟩) :: (5, ⟨.box, [oV 60 5 i, .nilsl]⟩) :: oH 60 (cls lc (mdL D i)))
theorem ZJn {n : Nat} (h : n ≤ 1000000) : roomOk E.T 62 n = true := by
 simp only [roomOk, T_62, decide_eq_true_eq]; exact ⟨by decide, rfl, by omega⟩
theorem Z0lj {C : Callee} {D : Dro} (h : DOk D) {n : Nat} (hn : n ≤ 6) (i : Nat) (hi : i < n) :
   ∃ s', (execA E C (fg 40) 0 109 [] 1000 Z98) (m1S D n i) = some (.normal, s') ∧ headA [] s' = m1S D n (i + 1) := by
 have hx : D.xs[i]? = some (D.xs[i]'(by rw [h.xl]; omega)) := List.getElem?_eq_getElem _
 have hq := h.xs _ (List.mem_of_getElem? hx)
 have hat := Z0l6 hx
 have hsucc : mdL D (i + 1) = mdL D i ++ [mdl (D.xs[i]'(by rw [h.xl]; omega))] := by
   unfold mdL
   rw [List.take_add_one, hx, Option.toList_some, List.map_append]
   rfl
 have hml := Z2C h (show i ≤ 6 by omega)
 have hsn := Z6u (f := lc) (mdL D i) (mdl (D.xs[i]'(by rw [h.xl]; omega)))
 have htl := Z9 Zq (mdL D i)
 have htk := Z6w Zq (mdL D i)
 rw [hml] at htl htk
 have hlen := Z3F h
 generalize (D.xs[i]'(by rw [h.xl]; omega)) = q at *
 obtain ⟨⟨a1, a2⟩, ⟨b1, b2⟩, ⟨c1, c2⟩, ⟨d1, d2⟩, ⟨e1, e2⟩⟩ := hq
 have hm : 0 < 10 - (1 + q.a % 9) := by omega
 have hb1 := Int.emod_nonneg q.b (show (10 - (1 + q.a % 9)) ≠ 0 by omega)
 have hb2 := Int.emod_lt_of_pos q.b hm
 have r1 : q.a.tmod 9 = q.a % 9 := Int.tmod_eq_emod_of_nonneg a1
 have r2 : q.c.tmod 30 = q.c % 30 := Int.tmod_eq_emod_of_nonneg c1
 have r3 : q.d.tmod 6 = q.d % 6 := Int.tmod_eq_emod_of_nonneg d1
 have r4 : q.e.tmod 8 = q.e % 8 := Int.tmod_eq_emod_of_nonneg e1
 have r5 : q.b.tmod (10 - (1 + q.a % 9)) = q.b % (10 - (1 + q.a % 9)) := Int.tmod_eq_emod_of_nonneg b1
 have z5 : ¬ (10 - (1 + q.a % 9) = 0) := by omega
 have w1 : wrp .i64 (1 + q.a % 9) = 1 + q.a % 9 := ZC (by omega)
 have w2 : wrp .i64 (10 - (1 + q.a % 9)) = 10 - (1 + q.a % 9) := ZC (by omega)
 have w3 : wrp .i64 (1 + q.a % 9 + q.b % (10 - (1 + q.a % 9))) = 1 + q.a % 9 + q.b % (10 - (1 + q.a % 9)) := ZC (by omega)
 have wa : wrp .i64 q.a = q.a := ZC (by omega)
 have wb : wrp .i64 q.b = q.b := ZC (by omega)
 have wc : wrp .i64 q.c = q.c := ZC (by omega)
 have wd : wrp .i64 q.d = q.d := ZC (by omega)
 have we : wrp .i64 q.e = q.e := ZC (by omega)
 have g1 : (i : Int) < n := by omega
 have nm : ¬ (i + 1 ≤ i) := by omega
 have eL : lc (mdl q) = [.int .i64 (1 + q.a % 9), .int .i64 (1 + q.a % 9 + q.b % (10 - (1 + q.a % 9))), .int .i64 (q.c % 30), .int .i64 (q.d % 6), .int .i64 (q.e % 8)] := rfl
 simp only [q5c] at hat
 have ho : 1 + i * 5 + 5 ≤ 38 := by omega
 simp only [m1S]
 rw [hsucc, ← hsn, eL]
 cases i with
 | zero =>
   rw [Nat.zero_mul, Nat.add_zero] at hat
   simp only [mdL, List.take_zero, List.map_nil, Z9f, List.nil_append, oH, oV]
   simp (disch := omega) only [ZF, stp, opBox, justO, just, Rd.bind, Rd.run, Rd.opt, upds, acells, zeroCells, tsz, elemT, rdCells, fieldOf, Z3, aLoad, aStore, opStore, fresh, Z2, aNum, Z4, aBin, aInt, putC, evO, Nat.reduceAdd, Nat.reduceMul, Nat.reduceLT, Nat.reduceGT, Nat.reduceBEq, Nat.reduceEqDiff, Nat.reduceLeDiff, ↓reduceIte, reduceCtorEq, stpT, Rd.foot, writing, Ze, Tr.empty, Zg, apartT, disj, Zd, Zu, partsOf, fillA, repC, Zo, aAppend, srcOf, window, snaps, aConv, aBuild, placeF, Int.reduceEq, Int.reduceLE, Int.reduceToNat, ZT, F_40, hat, hlen, r1, r2, r3, r4, r5, z5, w1, w2, w3, wa, wb, wc, wd, we, if_pos, ZJn (show 1 ≤ 1000000 by omega), cl0]
   exact ⟨_, rfl, Zp (Zm _ ZP) rfl rfl⟩
 | succ i =>
   have hoH : oH 60 (cls lc (mdL D (i + 1))) = [(60, ⟨.row, cls lc (mdL D (i + 1))⟩)] := Z6z 60 (by rw [htl]; omega)
   have hoH2 : ∀ y, oH 60 (cls lc (mdL D (i + 1)) ++ y) = [(60, ⟨.row, cls lc (mdL D (i + 1)) ++ y⟩)] := fun y => Z6z 60 (by rw [List.length_append, htl]; omega)
   simp only [hoH, hoH2, oV]
   generalize cls lc (mdL D (i + 1)) = cc at *
   simp (disch := omega) only [ZF, stp, opBox, justO, just, Rd.bind, Rd.run, Rd.opt, upds, acells, zeroCells, tsz, elemT, rdCells, fieldOf, Z3, aLoad, aStore, opStore, fresh, Z2, aNum, Z4, aBin, aInt, putC, evO, Nat.reduceAdd, Nat.reduceMul, Nat.reduceLT, Nat.reduceGT, Nat.reduceBEq, Nat.reduceEqDiff, Nat.reduceLeDiff, ↓reduceIte, reduceCtorEq, stpT, Rd.foot, writing, Ze, Tr.empty, Zg, apartT, disj, Zd, Zu, partsOf, fillA, repC, Zo, aAppend, srcOf, window, snaps, aConv, aBuild, placeF, Int.reduceEq, Int.reduceLE, Int.reduceToNat, ZT, F_40, g1, hat, hlen, htl, htk, nm, ho, r1, r2, r3, r4, r5, z5, w1, w2, w3, wa, wb, wc, wd, we, if_pos, ZJn (show i + 1 + 1 ≤ 1000000 by omega), Zc (show i + 1 < 1000000 by omega)]
   exact ⟨_, rfl, Zp (Zm _ ZP) rfl rfl⟩
end Go.AM.YtgfnbmfjbjopkaaDoor
end
end
