/- A part of the proof of rubMuirhead_holds: RnN. Own work of this project; texts printed by own programs among it. -/
import Derived.KernelRfl
import Derived.Test.YtfmnoohhhokicaaQvM
set_option maxRecDepth 1000000
set_option maxHeartbeats 16000000
noncomputable section
noncomputable section
namespace Go.AM.Ytfmnoohhhokicaa
open Go Go.AM Go.AM.Rub
def joE (a b : List Int) : Int := if pairE a b ≠ 0 then pairE a b else if whV a b < 0 then 0 else 12
theorem Znt {a b : List Int} : joE a b = 0 ↔ pairE a b = 0 ∧ whV a b < 0 := by
 unfold joE
 by_cases h : pairE a b = 0
 · rw [if_neg (fun e => e h)]
   by_cases hw : whV a b < 0
   · rw [if_pos hw]; exact ⟨fun _ => ⟨h, hw⟩, fun _ => rfl⟩
   · rw [if_neg hw]; exact ⟨fun e => absurd e (by decide), fun e => absurd e.2 hw⟩
 · rw [if_pos h]; exact ⟨fun e => absurd e h, fun e => absurd e.1 h⟩
theorem ZFL {d : Nat} {l m : List Int} {a b : AV} (ha : IV l a) (hb : IV m b) (hl : l.length ≤ 1000) (hm : m.length ≤ 1000) : rsOf (bodyA E (kF (d + 2)) fg 1000000 89 [a, b] [] 0) = some (.int .i64 (joE l m)) := by
 have hp := paC (d := d) ha hb hl hm
 have sa := Z0J ha
 have sb := Z0J hb
 unfold joE
 rcases hp with ⟨h, hp⟩ | ⟨h, hp⟩
 · rw [if_pos h]
   generalize kF (d + 2) = C at *
   generalize pairE l m = z at *
   have h0' : (z == 0) = false := by rw [beq_eq_false_iff_ne]; exact h
   simp (disch := omega) only [ZF, ↓gd, Z5, stp, opPick, justO, just, Rd.bind, Rd.run, Rd.opt, upds, Zd, resA, resL, aBin, aInt, Nat.reduceBEq, Nat.reduceEqDiff, Nat.reduceLeDiff, ↓reduceIte, reduceCtorEq, aCall, snaps, F_89, hp, h0', sa 198, sb 197]
 · obtain ⟨n, n0, n6, r1, r2, re⟩ := Z1m.1 h
   have ho := fun (site : Nat → Nat) seen x y => Z6e (d := d + 1) (site := site) (seen := seen) (a := riL l) (b := riL m) (n := n + 1) (x := x) (y := y) (by show (riP l l.length).length = _; rw [Z1c, r1.len]) (by show (riP m m.length).length = _; rw [Z1c, r2.len]) (by omega)
   have e1 : ovV (riL l) (riL m) = whV l m := rfl
   rw [e1] at ho
   rw [r1.len, r2.len] at hp
   have l1 := Z1d l
   have l2 := Z1d m
   rw [r1.len] at l1
   rw [r2.len] at l2
   have t1 : List.take (n + 1) (ics (riL l)) = ics (riL l) := List.take_of_length_le (by omega)
   have t2 : List.take (n + 1) (ics (riL m)) = ics (riL m) := List.take_of_length_le (by omega)
   rw [h, if_neg (fun e : (0 : Int) ≠ 0 => e rfl)]
   generalize kF (d + 2) = C at *
   generalize whV l m = w at *
   by_cases hw : w < 0
   · rw [if_pos hw]
     have g : ¬ w ≥ 0 := by omega
     simp (disch := omega) only [ZF, ↓gd, Z5, stp, opPick, justO, just, Rd.bind, Rd.run, Rd.opt, upds, Zd, resA, resL, aBin, aInt, Nat.reduceAdd, Nat.reduceMul, Nat.reduceBEq, Nat.reduceEqDiff, Nat.reduceLeDiff, ↓reduceIte, reduceCtorEq, aCall, snaps, F_89, hp, ho, g, l1, l2, t1, t2, sa 198, sb 197]
   · rw [if_neg hw]
     have g : w ≥ 0 := by omega
     simp (disch := omega) only [ZF, ↓gd, Z5, stp, opPick, justO, just, Rd.bind, Rd.run, Rd.opt, upds, Zd, resA, resL, aBin, aInt, Nat.reduceAdd, Nat.reduceMul, Nat.reduceBEq, Nat.reduceEqDiff, Nat.reduceLeDiff, ↓reduceIte, reduceCtorEq, aCall, snaps, F_89, hp, ho, g, l1, l2, t1, t2, sa 198, sb 197]
theorem Zuk {d : Nat} {site : Nat → Nat} {seen : List Nat} {l m : List Int} {a b : AV} (ha : IV l a) (hb : IV m b) (hl : l.length ≤ 1000) (hm : m.length ≤ 1000) : aBack site true seen (thaw (kF (d + 3)) 89 [a, b] [] 0) = .pure (.int .i64 (joE l m), []) :=
 Z10 (Z0P rfl (ZFL ha hb hl hm))
abbrev apS (a b : List Int) (n : Nat) (x y : Bool) (i : Nat) : St := ([(9, .int .i64 i), (8, .int .i64 n), (5, .int .i64 (ap (rowF a) (rowF b) i)), (1, .imm (ics b) n y), (0, .imm (ics a) n x)], [])
theorem ap_b {a b : List Int} {n : Nat} (ha : Rw n a) (hb : Rw n b) : ∀ i, i ≤ n → 0 ≤ ap (rowF a) (rowF b) i ∧ ap (rowF a) (rowF b) i ≤ 8 * i
 | 0, _ => by simp [ap, ps]
 | i + 1, hi => by
   have ih := ap_b ha hb i (by omega)
   have h1 := rw_b ha (k := i) (by omega)
   have h2 := rw_b hb (k := i) (by omega)
   have e : ap (rowF a) (rowF b) (i + 1) = ap (rowF a) (rowF b) i + max (rowF a i - rowF b i) 0 := rfl
   rw [e]
   omega
theorem ZNv {C : Callee} {a b : List Int} {n : Nat} {x y : Bool} (ha : Rw n a) (hb : Rw n b) (hn : n ≤ 8) : rsOf (bodyA E C fg 1000000 90 [.imm (ics a) n x, .imm (ics b) n y] [] 0) = some (.int .i64 (apL a b)) := by
 have la : (ics a).length = n := by rw [Za, ha.len]
 have lb : (ics b).length = n := by rw [Za, hb.len]
 rw [Z0L, ha.len]
 have hloop := loopM (f := (execA E C (fg 90) 0 26 [] 1000000 Zcx)) (E0 := []) (apS a b n x y) n (fun i hi => by
     have a1 := Z01 (l := a) (k := i) (by rw [ha.len]; exact hi)
     have a2 := Z01 (l := b) (k := i) (by rw [hb.len]; exact hi)
     have b1 := rw_b ha (k := i) hi
     have b2 := rw_b hb (k := i) hi
     have b3 := ap_b ha hb i (by omega)
     have e : ap (rowF a) (rowF b) (i + 1) = ap (rowF a) (rowF b) i + max (rowF a i - rowF b i) 0 := rfl
     have g1 : (i : Int) < n := by omega
     simp only [apS, e]
     generalize ap (rowF a) (rowF b) i = P at *
     generalize rowF a i = u at *
     generalize rowF b i = v at *
     have w1 : wrp .i64 (u - v) = u - v := Zs (by omega)
     have w2 : wrp .i64 (P + max (u - v) 0) = P + max (u - v) 0 := Zs (by omega)
     have e1 : (if u - v > 0 then u - v else 0) = max (u - v) 0 := by split <;> omega
     have e2 : (if 0 > u - v then 0 else u - v) = max (u - v) 0 := by split <;> omega
     simp (disch := omega) only [ZF, stp, justO, just, Rd.bind, Rd.run, Rd.opt, upds, tsz, rdCells, aLoad, Z4, aNum, Z3, aMax, aBin, aInt, Nat.reduceAdd, Nat.reduceLT, Nat.reduceBEq, Nat.reduceEqDiff, Nat.reduceLeDiff, ↓reduceIte, reduceCtorEq, stpT, Rd.foot, writing, Zb, Tr.empty, Zc, ZT, F_90, aMax, g1, a1, a2, la, lb, w1, w2, e2, Zx (show i < 1000000 by omega)]
     exact ⟨_, rfl, rfl⟩) rfl (by omega)
   (e := .exit 0) (se := ([(10, .bool false), (9, .int .i64 n), (8, .int .i64 n), (5, .int .i64 (ap (rowF a) (rowF b) n)), (1, .imm (ics b) n y), (0, .imm (ics a) n x)], []))
   (by simp (disch := omega) only [ZF, stp, just, Rd.bind, Rd.run, Rd.opt, upds, aBin, aInt, Nat.reduceEqDiff, Nat.reduceLeDiff, ↓reduceIte, F_90, apS]) (by simp)
 have e0 : ap (rowF a) (rowF b) 0 = 0 := rfl
 simp only [apS, cl0, e0] at hloop
 generalize ap (rowF a) (rowF b) n = P at *
 simp (disch := omega) only [ZF, Z5, stp, just, Rd.bind, Rd.run, upds, resA, resL, aLen, Z3, Nat.reduceBEq, Nat.reduceEqDiff, Nat.reduceLeDiff, ↓reduceIte, reduceCtorEq, ZT, F_90, hloop]
theorem ZEZ {d : Nat} {site : Nat → Nat} {seen : List Nat} {a b : List Int} {n : Nat} {x y : Bool} (ha : Rw n a) (hb : Rw n b) (hn : n ≤ 8) : aBack site true seen (thaw (kF (d + 1)) 90 [.imm (ics a) n x, .imm (ics b) n y] [] 0) = .pure (.int .i64 (apL a b), []) :=
 Z10 (Z0P rfl (ZNv ha hb hn))
def fewV (a b : List Int) : Int := if joE a b = 0 then apL a b else 0
theorem ZF6 {d : Nat} {l m : List Int} {a b : AV} (ha : IV l a) (hb : IV m b) (hl : l.length ≤ 1000) (hm : m.length ≤ 1000) : rsOf (bodyA E (kF (d + 3)) fg 1000000 31 [a, b] [] 0) = some (.tup [.int .i64 (fewV l m), .int .i64 (joE l m)]) := by
 have hj := fun (site : Nat → Nat) seen => Zuk (d := d) (site := site) (seen := seen) ha hb hl hm
 have sa := Z0J ha
 have sb := Z0J hb
 unfold fewV
 by_cases h : joE l m = 0
 · rw [if_pos h]
   obtain ⟨n, n0, n6, r1, r2, re⟩ := Z1m.1 (Znt.1 h).1
   obtain ⟨x, rfl⟩ := Z5n ha (by rw [r1.len]; exact n0)
   obtain ⟨y, rfl⟩ := Z5n hb (by rw [r2.len]; exact n0)
   have hap := fun (site : Nat → Nat) seen => ZEZ (d := d + 2) (site := site) (seen := seen) (x := x) (y := y) r1 r2 (by omega)
   rw [r1.len, r2.len] at *
   rw [h] at hj ⊢
   generalize kF (d + 3) = C at *
   simp (disch := omega) only [ZF, Z5, stp, just, Rd.bind, Rd.run, Rd.opt, upds, resA, resL, aBin, aInt, Nat.reduceBEq, Nat.reduceEqDiff, Nat.reduceLeDiff, ↓reduceIte, reduceCtorEq, aCall, snaps, F_31, hj, hap]
 · rw [if_neg h]
   generalize kF (d + 3) = C at *
   generalize joE l m = z at *
   have h0' : (z == 0) = false := by rw [beq_eq_false_iff_ne]; exact h
   simp (disch := omega) only [ZF, Z5, stp, just, Rd.bind, Rd.run, Rd.opt, upds, resA, resL, aBin, aInt, Nat.reduceBEq, Nat.reduceEqDiff, Nat.reduceLeDiff, ↓reduceIte, reduceCtorEq, aCall, snaps, F_31, hj, h, sa 198, sb 197]
theorem Zul {d : Nat} {site : Nat → Nat} {seen : List Nat} {l m : List Int} {a b : AV} (ha : IV l a) (hb : IV m b) (hl : l.length ≤ 1000) (hm : m.length ≤ 1000) : aBack site true seen (thaw (kF (d + 4)) 31 [a, b] [] 0) = .pure (.tup [.int .i64 (fewV l m), .int .i64 (joE l m)], []) := by
 obtain ⟨H, h⟩ := Z0P (d := d + 3) rfl (ZF6 (d := d) ha hb hl hm)
 exact Z0I h rfl (fun _ => rfl) rfl
end Go.AM.Ytfmnoohhhokicaa
end
noncomputable section
namespace Go.AM.Ytfmnoohhhokicaa
open Go Go.AM Go.AM.Rub
def abF (a b : Nat → Int) (i : Nat) : Int := ps (fun k => max (a k - b k) (b k - a k)) i
theorem Zn0 (a b : Nat → Int) : ∀ n, abF a b n = ap a b n + ap b a n
 | 0 => rfl
 | n + 1 => by
   have ih := Zn0 a b n
   unfold abF ap at ih ⊢
   simp only [ps]
   omega
theorem Z03X {a b : List Int} {n : Nat} (ha : Rw n a) (he : ps (rowF a) n = ps (rowF b) n) : abF (rowF a) (rowF b) n = 2 * (apL a b : Int) := by
 have h := Z6K (a := rowF a) (b := rowF b) n
 rw [Zn0, Z0L, ha.len]
 omega
theorem Z0pe {a b : List Int} {n : Nat} (ha : Rw n a) (hb : Rw n b) : ∀ i, i ≤ n → 0 ≤ abF (rowF a) (rowF b) i ∧ abF (rowF a) (rowF b) i ≤ 16 * i := fun i hi => by
 rw [Zn0]
 have := ap_b ha hb i hi
 have := ap_b hb ha i hi
 omega
def alE (A B : List (List Int)) (i : Nat) : Int := if A.getD i [] = B.getD i [] then 0 else 1
theorem ZPA {A B : List (List Int)} (hl : A.length = B.length) : fe (alE A B) 0 A.length = 0 ↔ A = B := by
 rw [Z2F]
 constructor
 · intro h
   apply List.ext_getElem hl
   intro i h1 h2
   have := h i (by omega) (by omega)
   unfold alE at this
   split at this
   · rename_i e
     simpa [h1, h2] using e
   · exact absurd this (by decide)
 · rintro rfl i _ _
   unfold alE
   rw [if_pos rfl]
abbrev alS (A B : List (List Int)) (x y : Bool) (i : Nat) : St := ([(5, .int .i64 i), (1, .imm (lcs B) B.length y), (0, .imm (lcs A) A.length x)], [])
theorem ZX6 {L : List (List Int)} {a : AV} (h : LV L a) : aLen E.T 39 a = .pure (.int .i64 L.length) := by
 rcases h with ⟨rfl, rfl⟩ | ⟨ex, rfl⟩
 · rfl
 · rfl
theorem ZLa {d : Nat} {A B : List (List Int)} {a b : AV} (ha : LV A a) (hb : LV B b) (hA : A.length ≤ 900000) (hB : B.length ≤ 900000) (h9 : ∀ l ∈ A, l.length ≤ 1000) : rsOf (bodyA E (kF (d + 1)) fg 1000000 41 [a, b] [] 0) = some (.bool (decide (A = B))) := by
 have la := ZX6 ha
 have lb := ZX6 hb
 by_cases hl : A.length = B.length
 · have g2 : ((A.length : Int) != B.length) = false := by rw [bne_eq_false_iff_eq]; omega
   by_cases h0 : A.length = 0
   · have eA := List.length_eq_zero_iff.1 h0
     have eB := List.length_eq_zero_iff.1 (hl ▸ h0)
     subst eA; subst eB
     rw [decide_eq_true rfl]
     have hloop := Z4W (f := execA E (kF (d + 1)) (fg 41) 0 27 [] 1000000 Z5c) (E0 := []) (s0 := ([(5, .int .i64 0), (1, b), (0, a)], [])) (by rcases ha with ⟨_, rfl⟩ | ⟨_, rfl⟩ <;> rcases hb with ⟨_, rfl⟩ | ⟨_, rfl⟩ <;> rfl) (e := .exit 0) (se := ([(14, .bool false), (5, .int .i64 0), (1, b), (0, a)], []))
       (by
         have c0 : (([] : List (List Int)).length : Int) = 0 := rfl
         rw [c0] at la
         generalize kF (d + 1) = C at *
         simp (disch := omega) only [ZF, stp, just, Rd.bind, Rd.run, Rd.opt, upds, Z3, aBin, aInt, Nat.reduceBEq, Nat.reduceEqDiff, Nat.reduceLeDiff, ↓reduceIte, reduceCtorEq, F_41, la]) (by simp)
     generalize kF (d + 1) = C at *
     simp (disch := omega) only [ZF, Z5, stp, just, Rd.bind, Rd.run, Rd.opt, upds, resA, resL, Z3, aBin, aInt, Nat.reduceBEq, Nat.reduceEqDiff, Nat.reduceLeDiff, ↓reduceIte, reduceCtorEq, F_41, la, lb, hloop]
   · obtain ⟨x, rfl⟩ : ∃ x, a = .imm (lcs A) A.length x := by
       rcases ha with ⟨rfl, _⟩ | h
       · simp at h0
       · exact h
     obtain ⟨y, rfl⟩ : ∃ y, b = .imm (lcs B) B.length y := by
       rcases hb with ⟨rfl, _⟩ | h
       · simp at hl; simp [hl] at h0
       · exact h
     have hat : ∀ (L : List (List Int)) i, i < L.length → (lcs L)[i]? = some (.imm (ics (L.getD i [])) (L.getD i []).length false) := fun L i hi => Z41 (by simp [hi])
     have hs : ∀ i, i < A.length → ∀ (site : Nat → Nat) seen, aBack site true seen (thaw (kF (d + 1)) 24 [.imm (ics (A.getD i [])) (A.getD i []).length false, .imm (ics (B.getD i [])) (B.getD i []).length false] [] 0) = .pure (.bool (decide (A.getD i [] = B.getD i [])), []) := fun i hi site seen =>
       Z4e (d := d) (Z2v _ false) (Z2v _ false) (h9 _ (by simp [hi]))
     have hloop := loopE (f := execA E (kF (d + 1)) (fg 41) 0 27 [] 1000000 Z5c) (e := alE A B) (R := fun _ H => ([(4, .bool false)], H)) (alS A B x y) A.length (E0 := []) rfl (by omega) (x := .exit 0) (se := ([(14, .bool false), (5, .int .i64 A.length), (1, .imm (lcs B) B.length y), (0, .imm (lcs A) A.length x)], [])) (by simp)
       (fun i hi _ he => by
         have h1 := hat A i hi
         have h2 := hat B i (by omega)
         have h3 := hs i hi
         have e : A.getD i [] = B.getD i [] := Classical.byContradiction fun h => by unfold alE at he; rw [if_neg h] at he; exact absurd he (by decide)
         rw [decide_eq_true e] at h3
         have g1 : (i : Int) < A.length := by omega
         have g3 : (i : Int) < B.length := by omega
         have l1 := Zq A
         have l2 := Zq B
         generalize kF (d + 1) = C at *
         simp only [alS]
         generalize lcs A = P at *
         generalize lcs B = Q at *
         generalize A.length = p at *
         generalize B.length = q at *
         simp (disch := omega) only [ZF, stp, justO, just, Rd.bind, Rd.run, Rd.opt, upds, tsz, rdCells, aLoad, Z4, aNum, aLen, Z3, aBin, aInt, Nat.reduceAdd, Nat.reduceLT, Nat.reduceBEq, Nat.reduceEqDiff, Nat.reduceLeDiff, ↓reduceIte, reduceCtorEq, stpT, Rd.foot, writing, Zb, Tr.empty, Zc, aUn, aCall, snaps, ZT, F_41, h1, h2, h3, g1, g3, l1, l2, Zx (show i < 1000000 by omega)]
         exact ⟨_, rfl, rfl⟩)
       (fun i hi _ he => by
         have h1 := hat A i hi
         have h2 := hat B i (by omega)
         have h3 := hs i hi
         have e : ¬ A.getD i [] = B.getD i [] := fun h => by unfold alE at he; rw [if_pos h] at he; exact he rfl
         rw [decide_eq_false e] at h3
         have g1 : (i : Int) < A.length := by omega
         have g3 : (i : Int) < B.length := by omega
         have l1 := Zq A
         have l2 := Zq B
         generalize kF (d + 1) = C at *
         simp only [alS]
         generalize lcs A = P at *
         generalize lcs B = Q at *
         generalize A.length = p at *
         generalize B.length = q at *
         simp (disch := omega) only [ZF, stp, justO, just, Rd.bind, Rd.run, Rd.opt, upds, tsz, rdCells, aLoad, Z4, aNum, aLen, Z3, aBin, aInt, Nat.reduceAdd, Nat.reduceLT, Nat.reduceBEq, Nat.reduceEqDiff, Nat.reduceLeDiff, ↓reduceIte, reduceCtorEq, stpT, Rd.foot, writing, Zb, Tr.empty, Zc, aUn, aCall, snaps, ZT, F_41, h1, h2, h3, g1, g3, l1, l2]
         exact ⟨_, rfl⟩)
       (fun _ => by
         generalize kF (d + 1) = C at *
         simp (disch := omega) only [ZF, stp, just, Rd.bind, Rd.run, Rd.opt, upds, aLen, Z3, aBin, aInt, Nat.reduceBEq, Nat.reduceEqDiff, Nat.reduceLeDiff, ↓reduceIte, reduceCtorEq, ZT, F_41, alS])
     simp only [alS, cl0] at hloop
     have hz := ZPA hl
     generalize kF (d + 1) = C at *
     rcases hloop with ⟨h, hloop⟩ | ⟨h, H, hloop⟩
     · rw [decide_eq_true (hz.1 h)]
       simp (disch := omega) only [ZF, Z5, stp, just, Rd.bind, Rd.run, Rd.opt, upds, resA, resL, Z3, aBin, aInt, Nat.reduceBEq, Nat.reduceEqDiff, Nat.reduceLeDiff, ↓reduceIte, reduceCtorEq, F_41, la, lb, g2, hloop]
     · rw [decide_eq_false (fun e => h (hz.2 e))]
       simp (disch := omega) only [ZF, Z5, stp, just, Rd.bind, Rd.run, Rd.opt, upds, resA, resL, Z3, aBin, aInt, Nat.reduceBEq, Nat.reduceEqDiff, Nat.reduceLeDiff, ↓reduceIte, reduceCtorEq, F_41, la, lb, g2, hloop]
 · have g2 : ((A.length : Int) != B.length) = true := by rw [bne_iff_ne]; omega
   have g3 : ¬ (A.length : Int) = B.length := by omega
   rw [decide_eq_false (fun e => hl (by rw [e]))]
   generalize kF (d + 1) = C at *
   simp (disch := omega) only [ZF, Z5, stp, just, Rd.bind, Rd.run, Rd.opt, upds, resA, resL, Z3, aBin, aInt, Nat.reduceBEq, Nat.reduceEqDiff, Nat.reduceLeDiff, ↓reduceIte, reduceCtorEq, F_41, la, lb, g2]
theorem ZFn {d : Nat} {site : Nat → Nat} {seen : List Nat} {A B : List (List Int)} {a b : AV} (ha : LV A a) (hb : LV B b) (hA : A.length ≤ 900000) (hB : B.length ≤ 900000) (h9 : ∀ l ∈ A, l.length ≤ 1000) : aBack site true seen (thaw (kF (d + 2)) 41 [a, b] [] 0) = .pure (.bool (decide (A = B)), []) :=
 Z0Y (Z0P rfl (ZLa ha hb hA hB h9))
end Go.AM.Ytfmnoohhhokicaa
end
noncomputable section
namespace Go.AM.Ytfmnoohhhokicaa
open Go Go.AM Go.AM.Rub
def mjE (a b : List Int) (i : Nat) : Int := if ps (rowF a) (i + 1) < ps (rowF b) (i + 1) then 1 else 0
theorem Z0kl {n : Nat} {a b : List Int} (ha : Rw n a) (_ : Rw n b) (he : ps (rowF a) n = ps (rowF b) n) : fe (mjE a b) 0 n = 0 ↔ MajL a b := by
 rw [Z2F]
 constructor
 · intro h
   refine ⟨by rw [ha.len]; exact he, fun k hk => ?_⟩
   rw [ha.len] at hk
   cases k with
   | zero => exact Int.le_refl _
   | succ k =>
     have := h k (by omega) (by omega)
     unfold mjE at this
     split at this
     · exact absurd this (by decide)
     · omega
 · intro h i _ hi
   have := h.le (i + 1) (by rw [ha.len]; omega)
   unfold mjE
   rw [if_neg (by omega)]
abbrev voS (a b : List Int) (n : Nat) (x y : Bool) (i : Nat) : St := ([(8, .int .i64 i), (7, .int .i64 n), (1, .imm (ics b) n y), (0, .imm (ics a) n x)], [])
theorem ZHY {d : Nat} {a b : List Int} {n : Nat} {x y : Bool} (ha : Rw n a) (hb : Rw n b) (hn : n ≤ 8) : rsOf (bodyA E (kF (d + 1)) fg 1000000 62 [.imm (ics a) n x, .imm (ics b) n y] [] 0) = some (.bool (decide (fe (mjE a b) 0 n = 0))) := by
 have la : (ics a).length = n := by rw [Za, ha.len]
 have lb : (ics b).length = n := by rw [Za, hb.len]
 have hloop := loopE (f := execA E (kF (d + 1)) (fg 62) 0 23 [] 1000000 Zc9) (e := mjE a b) (R := fun _ H => ([(4, .bool false)], H)) (voS a b n x y) n (E0 := []) rfl (by omega) (x := .exit 0) (se := ([(9, .bool false), (8, .int .i64 n), (7, .int .i64 n), (1, .imm (ics b) n y), (0, .imm (ics a) n x)], [])) (by simp)
   (fun i hi _ he => by
     have ta := fun (site : Nat → Nat) seen x => Z17 (d := d) (site := site) (seen := seen) (ex := x) ha hn (show i + 1 ≤ n by omega)
     have tb := fun (site : Nat → Nat) seen x => Z17 (d := d) (site := site) (seen := seen) (ex := x) hb hn (show i + 1 ≤ n by omega)
     have a1 : List.take (i + 1) (ics a) = ics (a.take (i + 1)) := Z1M a _
     have b1 : List.take (i + 1) (ics b) = ics (b.take (i + 1)) := Z1M b _
     have g1 : (i : Int) < n := by omega
     have g2 : (0 : Int) ≤ ((i + 1 : Nat) : Int) ∧ ((i + 1 : Nat) : Int) ≤ (n : Int) := by omega
     have g3 : ¬ ps (rowF a) (i + 1) < ps (rowF b) (i + 1) := fun h => by unfold mjE at he; rw [if_pos h] at he; exact absurd he (by decide)
     generalize kF (d + 1) = C at *
     generalize ps (rowF a) (i + 1) = u at *
     generalize ps (rowF b) (i + 1) = v at *
     simp (disch := omega) only [ZF, stp, just, Rd.bind, Rd.run, Rd.opt, upds, tsz, aNum, aBin, aInt, Nat.reduceAdd, Nat.reduceBEq, Nat.reduceEqDiff, Nat.reduceLeDiff, ↓reduceIte, reduceCtorEq, stpT, Rd.foot, writing, Zb, Tr.empty, Zc, window, aCall, snaps, aSlice, aBounds, bMax, bHigh, bLow, ZT, F_62, voS, la, lb, ta, tb, a1, b1, g1, g2, g3, Zx (show i < 1000000 by omega)]
     exact ⟨_, rfl, rfl⟩)
   (fun i hi _ he => by
     have ta := fun (site : Nat → Nat) seen x => Z17 (d := d) (site := site) (seen := seen) (ex := x) ha hn (show i + 1 ≤ n by omega)
     have tb := fun (site : Nat → Nat) seen x => Z17 (d := d) (site := site) (seen := seen) (ex := x) hb hn (show i + 1 ≤ n by omega)
     have a1 : List.take (i + 1) (ics a) = ics (a.take (i + 1)) := Z1M a _
     have b1 : List.take (i + 1) (ics b) = ics (b.take (i + 1)) := Z1M b _
     have g1 : (i : Int) < n := by omega
     have g2 : (0 : Int) ≤ ((i + 1 : Nat) : Int) ∧ ((i + 1 : Nat) : Int) ≤ (n : Int) := by omega
     have g3 : ps (rowF a) (i + 1) < ps (rowF b) (i + 1) := Classical.byContradiction fun h => he (by unfold mjE; rw [if_neg h])
     generalize kF (d + 1) = C at *
     generalize ps (rowF a) (i + 1) = u at *
     generalize ps (rowF b) (i + 1) = v at *
     simp (disch := omega) only [ZF, stp, just, Rd.bind, Rd.run, Rd.opt, upds, tsz, aNum, aBin, aInt, Nat.reduceAdd, Nat.reduceBEq, Nat.reduceEqDiff, Nat.reduceLeDiff, ↓reduceIte, reduceCtorEq, stpT, Rd.foot, writing, Zb, Tr.empty, Zc, window, aCall, snaps, aSlice, aBounds, bMax, bHigh, bLow, ZT, F_62, voS, la, lb, ta, tb, a1, b1, g1, g2, g3, Zx (show i < 1000000 by omega)]
     exact ⟨_, rfl⟩)
   (fun _ => by
     generalize kF (d + 1) = C at *
     simp (disch := omega) only [ZF, stp, just, Rd.bind, Rd.run, Rd.opt, upds, aBin, aInt, Nat.reduceEqDiff, Nat.reduceLeDiff, ↓reduceIte, F_62, voS])
 simp only [voS, cl0] at hloop
 generalize kF (d + 1) = C at *
 rcases hloop with ⟨hz, hloop⟩ | ⟨hz, H, hloop⟩
 · rw [decide_eq_true hz]
   simp (disch := omega) only [ZF, Z5, stp, just, Rd.bind, Rd.run, upds, resA, resL, aLen, Z3, Nat.reduceBEq, Nat.reduceEqDiff, Nat.reduceLeDiff, ↓reduceIte, reduceCtorEq, ZT, F_62, hloop]
 · rw [decide_eq_false hz]
   simp (disch := omega) only [ZF, Z5, stp, just, Rd.bind, Rd.run, upds, resA, resL, aLen, Z3, Nat.reduceBEq, Nat.reduceEqDiff, Nat.reduceLeDiff, ↓reduceIte, reduceCtorEq, ZT, F_62, hloop]
theorem ZaQ {d : Nat} {site : Nat → Nat} {seen : List Nat} {a b : List Int} {n : Nat} {x y : Bool} (ha : Rw n a) (hb : Rw n b) (hn : n ≤ 8) : aBack site true seen (thaw (kF (d + 2)) 62 [.imm (ics a) n x, .imm (ics b) n y] [] 0) = .pure (.bool (decide (fe (mjE a b) 0 n = 0)), []) :=
 Z0Y (Z0P rfl (ZHY ha hb hn))
end Go.AM.Ytfmnoohhhokicaa
end
noncomputable section
namespace Go.AM.Rub
theorem Z9J : ∀ {l : List Int} {m : Int} (k : Nat), IsRow m l → IsRow m (l.take k)
 | _, _, 0, _ => by simp only [List.take_zero]; trivial
 | [], _, k + 1, _ => by simp only [List.take_nil]; trivial
 | x :: l, m, k + 1, ⟨h1, h2, h3⟩ => ⟨h1, h2, Z9J k h3⟩
theorem ZDr {n k : Nat} {l : List Int} (h : Rw n l) (hk : k ≤ n) : Rw k (l.take k) := ⟨by simp [h.len]; omega, Z9J k h.row⟩
theorem ZFd {l : List Int} {k i : Nat} (h : i < k) : rowF (l.take k) i = rowF l i := by
 simp [rowF, h]
theorem Zpq {l : List Int} {k i : Nat} (h : i ≤ k) : ps (rowF (l.take k)) i = ps (rowF l) i := Z1j i fun j hj => ZFd (by omega)
end Go.AM.Rub
end
noncomputable section
namespace Go.AM.Ytfmnoohhhokicaa
open Go Go.AM
variable {C : Callee} {B N : Nat} {E0 : AHeap} (φ : AFr) (H : AHeap) (s : St)
def ZaE := kBody Proofs.Try.f65
def ZFX := kL ZaE
def Zl4 := kO ZFX
def Zv1 := opN Zl4 0
theorem Z0l5 : XG 65 7 ZFX Zl4 [3] := Z1 (by rfl) (by rfl) _
theorem Z06e : Zl4.toList = [Zv1] := nf
theorem Z06o : stepA E C B 7 Zl4 Zv1 (φ, H) = some (fput φ 3 (.bool false), H) := nf
def Zks := kR ZaE
def ZGv := kL Zks
def Z35 := kO ZGv
def ZEg := opN Z35 0
def ZA2 := opN Z35 1
def Zwq := opN Z35 2
def ZBD := opN Z35 3
theorem Z0o2 : XG 65 7 ZGv Z35 [0, 1, 4, 5, 6] := Z1 (by rfl) (by rfl) _
theorem Z0az : Z35.toList = [ZEg, ZA2, Zwq, ZBD] := nf
theorem ZZM : stepA E C B 7 Z35 ZEg (φ, H) = some (fput φ 4 (fget φ 0), H) := nf
theorem Z00n : stepA E C B 7 Z35 ZA2 (φ, H) = stp (some 5) φ H (just (aLoad E.T 22 (fget φ 1))) := nf
theorem Z03D : stepA E C B 7 Z35 Zwq (φ, H) = stp (some 6) φ H (aCall C (fun j => B + j * 7 + 6) true 24 [(fget φ 4), (fget φ 5)]) := nf
theorem Z05Q : stepA E C B 7 Z35 ZBD (φ, H) = some (fput φ 3 (fget φ 6), H) := nf
def ZX4 := kR Zks
theorem Z0nq : execA E C (fg 65) B 7 E0 N ZX4 s = some (.ret, s) := Zo (by rfl) s
theorem Z0ni : XQ 65 7 Zks ZGv ZX4 := Z0 (by rfl) _
theorem Z0nU : XQ 65 7 ZaE ZFX Zks := Z0 (by rfl) _
theorem ZWX : fInfo E 65 = some ⟨7, #[.tmp 3], ZaE⟩ := nf
theorem b_65 (args : List AV) : bodyA E C fg N 65 args H B = bodyX E [.tmp 3] (execA E C (fg 65) B 7 H N ZaE (Z5 args 0 [], H)) := Zp ZWX args H
abbrev F_65 := And.intro (And.intro (And.intro @Z0l5 (And.intro @Z06e @Z06o)) (And.intro @Z0o2 (And.intro @Z0az @ZZM))) (And.intro (And.intro @Z00n (And.intro @Z03D @Z05Q)) (And.intro (And.intro @Z0nq @Z0ni) (And.intro @Z0nU @b_65)))
end Go.AM.Ytfmnoohhhokicaa
end
noncomputable section
namespace Go.AM.Ytfmnoohhhokicaa
open Go Go.AM Go.AM.Rub
theorem Z06w {d : Nat} {l m : List Int} {x y : Bool} {n : Nat} (hl : l.length ≤ 1000) (hm : m.length = n) : rsOf (bodyA E (kF (d + 1)) fg 1000000 65 [.imm (ics l) l.length x, .iptr [.imm (ics m) n y] 0] [] 0) = some (.bool (decide (l = m))) := by
 subst hm
 have hs := fun (site : Nat → Nat) seen => Z4e (d := d) (site := site) (seen := seen) (Z2v l x) (Z2v m y) hl
 generalize kF (d + 1) = C at *
 simp (disch := omega) only [ZF, Z5, stp, just, Rd.bind, Rd.run, Rd.opt, upds, rdCells, aLoad, resA, resL, Nat.reduceBEq, Nat.reduceEqDiff, Nat.reduceLeDiff, ↓reduceIte, reduceCtorEq, aCall, snaps, ZT, F_65, hs]
theorem pr5 (d : Nat) (m : List Int) {n : Nat} {y : Bool} (hm : m.length = n) {L : List (List Int)} (hL : ∀ l ∈ L, l.length ≤ 1000) : PrC (kF (d + 2)) 65 (.imm (ics m) n y) (fun l => decide (l = m)) L :=
 ⟨⟨_, ZWX⟩, fun _ _ => rfl, fun l hl _ _ => Z0Y (Z0P rfl (Z06w (hL l hl) hm))⟩
theorem Z0hd {L : List (List Int)} {b : List Int} (h : b ∈ L) : ∃ j : Nat, ixL (fun l => decide (l = b)) L = j ∧ L[j]? = some b ∧ j < L.length := by
 have hl : L.findIdx (fun l => decide (l = b)) < L.length := List.findIdx_lt_length_of_exists ⟨b, h, decide_eq_true rfl⟩
 refine ⟨L.findIdx (fun l => decide (l = b)), by unfold ixL; rw [if_pos hl], ?_, hl⟩
 have := List.findIdx_getElem (p := fun l => decide (l = b)) (xs := L) (w := hl)
 rw [List.getElem?_eq_getElem hl]
 exact congrArg some (of_decide_eq_true this)
theorem Z0hc {L : List (List Int)} {b : List Int} (h : ¬ b ∈ L) : ixL (fun l => decide (l = b)) L = -1 := by
 have : ¬ L.findIdx (fun l => decide (l = b)) < L.length := fun hl => by
   have := List.findIdx_getElem (p := fun l => decide (l = b)) (xs := L) (w := hl)
   exact h (by rw [← of_decide_eq_true this]; exact List.getElem_mem hl)
 unfold ixL
 rw [if_neg this]
structure MuC (C : Callee) (a b : List Int) (all : List (List Int)) (n : Nat) (v : Bool) (ix few jo why whe : Int) : Prop where
 ix : ∀ (site : Nat → Nat) seen e z, aBack site true seen (thaw C 64 [.imm (lcs all) all.length e, .clo 65 [.iptr [.imm (ics b) n z] 0]] [] 0) = .pure (.int .i64 ix, [])
 be : ∀ (site : Nat → Nat) seen x y, aBack site true seen (thaw C 27 [.imm (ics a) n x, .imm (ics b) n y] [] 0) = .pure (.tup [.bool v, .int .i64 0], [])
 fe : ∀ (site : Nat → Nat) seen x y, aBack site true seen (thaw C 31 [.imm (ics a) n x, .imm (ics b) n y] [] 0) = .pure (.tup [.int .i64 few, .int .i64 jo], [])
 wh : ∀ (site : Nat → Nat) seen x y, aBack site true seen (thaw C 29 [.imm (ics a) n x, .imm (ics b) n y] [] 0) = .pure (.tup [.int .i64 why, .int .i64 whe], [])
 ov : ∀ (site : Nat → Nat) seen x y, aBack site true seen (thaw C 62 [.imm (ics a) n x, .imm (ics b) n y] [] 0) = .pure (.bool v, [])
abbrev muS (a : List Int) (all R M : List (List Int)) (n i : Nat) : St := ([(33, .int .i64 i), (32, .int .i64 R.length), (31, .ref 31 0 R.length R.length R.length 1 false), (6, oV 128 1 M.length), (5, .ref 225 0 all.length all.length all.length 1 false), (4, .ref 24 0 all.length all.length all.length 1 false), (3, .ref 21 0 n n n 1 false)],
 (21, ⟨.froz, ics a⟩) :: (24, ⟨.row, lcs all⟩) :: (31, ⟨.row, lcs R⟩) :: (oH 128 (lcs M) ++ [(225, ⟨.row, ics (farL a all)⟩)]))
theorem Z0lO {C : Callee} {a b : List Int} {all R M : List (List Int)} {n q : Nat} {s t : Int} (hC : MuC C a b all n false (-1) 0 12 q 0) (la : (ics a).length = n) (lb : b.length = n) (hn : n ≤ 8) (i : Nat) (hR : R.length ≤ 900000) (hi : R[i]? = some b) (h0 : 0 < q) (hqn : q ≤ n) (hst : s < t)
   (h1 : ∀ (site : Nat → Nat) seen x, aBack site true seen (thaw C 58 [.imm (ics (a.take q)) q x] [] 0) = .pure (.int .i64 s, []))
   (h2 : ∀ (site : Nat → Nat) seen x, aBack site true seen (thaw C 58 [.imm (ics (b.take q)) q x] [] 0) = .pure (.int .i64 t, []))
   (h3 : ∀ (site : Nat → Nat) seen x y, aBack site true seen (thaw C 62 [.imm (ics (a.take (q - 1))) (q - 1) x, .imm (ics (b.take (q - 1))) (q - 1) y] [] 0) = .pure (.bool true, []))
   (h4 : ∀ (site : Nat → Nat) seen x y, aBack site true seen (thaw C 35 [.imm (ics a) n x, .imm (ics b) n y, .int .i64 q] [] 0) = .pure (.int .i64 0, [])) :
   ∃ s', (execA E C (fg 10) 0 201 [] 1000000 Z3q) (muS a all R M n i) = some (.normal, s') ∧ headA [] s' = muS a all R M n (i + 1) := by
 have hil := (List.getElem?_eq_some_iff.1 hi).1
 have hat := Z41 hi
 rw [lb] at hat
 have hlr := Zq R
 have hla := Zq all
 have hta := Z1N all
 have g1 : (i : Int) < R.length := by omega
 have ta : List.take n (ics a) = ics a := List.take_of_length_le (by omega)
 have lb' : (ics b).length = n := by rw [Za, lb]
 have hix := hC.ix
 have hbe := hC.be
 have hfe := hC.fe
 have hwh := hC.wh
 have hov := hC.ov
 have c1 : ¬ (q : Int) < 1 := by omega
 have c2 : ¬ (q : Int) > n := by omega
 have c3 : ¬ s ≥ t := by omega
 have w1 : wrp .i64 ((q : Int) - 1) = ((q - 1 : Nat) : Int) := by rw [Zs (by omega)]; omega
 have k1 : (0 : Int) ≤ (q : Int) ∧ (q : Int) ≤ (n : Int) := by omega
 have k2 : (0 : Int) ≤ ((q - 1 : Nat) : Int) ∧ ((q - 1 : Nat) : Int) ≤ (n : Int) := by omega
 have a1 : List.take q (ics a) = ics (a.take q) := Z1M a _
 have a2 : List.take (q - 1) (ics a) = ics (a.take (q - 1)) := Z1M a _
 have b1 : List.take q (ics b) = ics (b.take q) := Z1M b _
 have b2 : List.take (q - 1) (ics b) = ics (b.take (q - 1)) := Z1M b _
 have m1 : ¬ (-1 : Int) ≥ 0 := by omega
 have bb : ∀ x : Bool, (x != x) = false := fun x => by cases x <;> rfl
 simp only [muS]
 rcases ocvL 128 M with ⟨_, o1, o2⟩ | ⟨_, o1, o2⟩ <;> rw [o1, o2] <;> simp only [List.nil_append, List.cons_append]
 · generalize ics (farL a all) = F at *
   generalize lcs R = RL at *
   generalize R.length = rl at *
   generalize lcs all = AL at *
   generalize all.length = al at *
   simp (disch := omega) only [ZF, ↓gd, stp, opPick, opBox, justO, just, Rd.bind, Rd.run, Rd.opt, upds, acells, zeroCells, tsz, rdCells, aLoad, aStore, opStore, Zd, fresh, Z4, aNum, aLen, Z3, aBin, aInt, putC, Nat.reduceAdd, Nat.reduceLT, Nat.reduceBEq, Nat.reduceEqDiff, Nat.reduceLeDiff, Int.reduceNeg, ↓reduceIte, stpT, ↓gdT, Rd.foot, writing, Zb, Tr.empty, Zc, apartT, disj, window, aUn, aCall, snaps, aSlice, aBounds, bMax, bHigh, bLow, isBoolT, ZT, F_10, hat, hlr, hla, hta, g1, la, ta, lb', hix, hbe, hfe, hwh, hov, h1, h2, h3, h4, c1, c2, c3, w1, k1, k2, a1, a2, b1, b2, m1, if_pos, Zx (show i < 1000000 by omega)]
   exact ⟨_, rfl, rfl⟩
 · generalize ics (farL a all) = F at *
   generalize lcs R = RL at *
   generalize R.length = rl at *
   generalize lcs all = AL at *
   generalize all.length = al at *
   generalize lcs M = ML at *
   generalize M.length = ml at *
   simp (disch := omega) only [ZF, ↓gd, stp, opPick, opBox, justO, just, Rd.bind, Rd.run, Rd.opt, upds, acells, zeroCells, tsz, rdCells, aLoad, aStore, opStore, Zd, fresh, Z4, aNum, aLen, Z3, aBin, aInt, putC, Nat.reduceAdd, Nat.reduceLT, Nat.reduceBEq, Nat.reduceEqDiff, Nat.reduceLeDiff, Int.reduceNeg, ↓reduceIte, stpT, ↓gdT, Rd.foot, writing, Zb, Tr.empty, Zc, apartT, disj, window, aUn, aCall, snaps, aSlice, aBounds, bMax, bHigh, bLow, isBoolT, ZT, F_10, hat, hlr, hla, hta, g1, la, ta, lb', hix, hbe, hfe, hwh, hov, h1, h2, h3, h4, c1, c2, c3, w1, k1, k2, a1, a2, b1, b2, m1, if_pos, Zx (show i < 1000000 by omega)]
   exact ⟨_, rfl, rfl⟩
abbrev muI (a b : List Int) (all R M : List (List Int)) (n i j p k : Nat) : St := ([(131, .int .i64 k), (130, .int .i64 n), (33, .int .i64 i), (32, .int .i64 R.length), (31, .ref 31 0 R.length R.length R.length 1 false), (16, .int .i64 (abF (rowF a) (rowF b) k)), (15, .int .i64 13), (14, .int .i64 0), (13, .int .i64 0), (12, .int .i64 p), (9, .int .i64 j), (8, .ptr 8 0 1), (6, .ref 128 0 M.length M.length M.length 1 false), (5, .ref 225 0 all.length all.length all.length 1 false), (4, .ref 24 0 all.length all.length all.length 1 false), (3, .ref 21 0 n n n 1 false)],
 [(8, ⟨.box, [.imm (ics b) n false]⟩), (21, ⟨.froz, ics a⟩), (24, ⟨.row, lcs all⟩), (31, ⟨.row, lcs R⟩), (128, ⟨.row, lcs M⟩), (225, ⟨.row, ics (farL a all)⟩)])
theorem Z0q9 {C : Callee} {a b : List Int} {all R M : List (List Int)} {n i j p : Nat} (ha : Rw n a) (hb : Rw n b) (hn : n ≤ 8) (k : Nat) (hk : k < n) :
   ∃ s', (execA E C (fg 10) 0 201 [] 1000000 Z51) (muI a b all R M n i j p k) = some (.normal, s') ∧ headA [] s' = muI a b all R M n i j p (k + 1) := by
 have la : (ics a).length = n := by rw [Za, ha.len]
 have lb : (ics b).length = n := by rw [Za, hb.len]
 have a1 := Z01 (l := a) (k := k) (by rw [ha.len]; exact hk)
 have a2 := Z01 (l := b) (k := k) (by rw [hb.len]; exact hk)
 have b1 := rw_b ha (k := k) hk
 have b2 := rw_b hb (k := k) hk
 have b3 := Z0pe ha hb k (by omega)
 have e : abF (rowF a) (rowF b) (k + 1) = abF (rowF a) (rowF b) k + max (rowF a k - rowF b k) (rowF b k - rowF a k) := rfl
 have g1 : (k : Int) < n := by omega
 simp only [muI, e]
 generalize abF (rowF a) (rowF b) k = P at *
 generalize rowF a k = u at *
 generalize rowF b k = v at *
 have w1 : wrp .i64 (u - v) = u - v := Zs (by omega)
 have w3 : wrp .i64 (v - u) = v - u := Zs (by omega)
 have w2 : wrp .i64 (P + max (u - v) (v - u)) = P + max (u - v) (v - u) := Zs (by omega)
 have e1 : (if v - u > u - v then v - u else u - v) = max (u - v) (v - u) := by split <;> omega
 generalize ics (farL a all) = F at *
 generalize lcs R = RL at *
 generalize R.length = rl at *
 generalize lcs all = AL at *
 generalize all.length = al at *
 generalize lcs M = ML at *
 generalize M.length = ml at *
 simp (disch := omega) only [ZF, stp, justO, just, Rd.bind, Rd.run, Rd.opt, upds, tsz, rdCells, aLoad, Z4, aNum, Z3, aMax, aBin, aInt, Nat.reduceAdd, Nat.reduceLT, Nat.reduceBEq, Nat.reduceEqDiff, Nat.reduceLeDiff, ↓reduceIte, stpT, Rd.foot, writing, Zb, Tr.empty, Zc, apartT, disj, ZT, F_10, aMax, g1, a1, a2, la, lb, w1, w2, w3, e1, Zx (show k < 1000000 by omega)]
 exact ⟨_, rfl, rfl⟩
theorem Z0he {C : Callee} {a b : List Int} {all R M : List (List Int)} {n j p : Nat} (hC : MuC C a b all n true j p 0 0 13) (ha : Rw n a) (hb : Rw n b) (hn : n ≤ 8) (i : Nat) (hR : R.length ≤ 900000) (hM : M.length ≤ 900000) (hi : R[i]? = some b) (hp : p ≤ 1000) (hj : j < all.length) (hfj : (ics (farL a all))[j]? = some (.int .i64 p)) (h2 : abF (rowF a) (rowF b) n = 2 * (p : Int)) :
   ∃ s', (execA E C (fg 10) 0 201 [] 1000000 Z3q) (muS a all R M n i) = some (.normal, s') ∧ headA [] s' = muS a all R (M ++ [b]) n (i + 1) := by
 have hil := (List.getElem?_eq_some_iff.1 hi).1
 have hat := Z41 hi
 rw [hb.len] at hat
 have la : (ics a).length = n := by rw [Za, ha.len]
 have hlr := Zq R
 have hla := Zq all
 have hta := Z1N all
 have hlf : (ics (farL a all)).length = all.length := by rw [Za, Z8Z]
 have g1 : (i : Int) < R.length := by omega
 have ta : List.take n (ics a) = ics a := List.take_of_length_le (by omega)
 have hix := hC.ix
 have hbe := hC.be
 have hfe := hC.fe
 have hwh := hC.wh
 have hov := hC.ov
 have bb : ∀ x : Bool, (x != x) = false := fun x => by cases x <;> rfl
 have ib : ∀ x : Int, (x != x) = false := fun x => by simp
 have m1 : (j : Int) ≥ 0 := by omega
 have g2 : (j : Int) < all.length := by omega
 have w1 : wrp .i64 (2 * (p : Int)) = 2 * (p : Int) := Zs (by omega)
 have hsn := Z40 M b
 rw [hb.len] at hsn
 have hlm := Zq M
 have htm := Z1N M
 have hno : ¬ M.length + 1 ≤ M.length := by omega
 have hloop := loopMS (f := (execA E C (fg 10) 0 201 [] 1000000 Z51)) (E0 := []) (s0 := ((muI a b all R (M ++ [b]) n i j p 0).1, [(8, ⟨.box, [.imm (ics b) n false]⟩), (21, ⟨.froz, ics a⟩), (24, ⟨.row, lcs all⟩), (31, ⟨.row, lcs R⟩), (127, ⟨.row, [.imm (ics b) n false]⟩), (128, ⟨.row, lcs (M ++ [b])⟩), (225, ⟨.row, ics (farL a all)⟩)])) (muI a b all R (M ++ [b]) n i j p) n (fun k hk => Z0q9 ha hb hn k hk) rfl (by omega)
   (e := .exit 2) (se := (([(132, .bool false)] : AFr) ++ (muI a b all R (M ++ [b]) n i j p n).1, (muI a b all R (M ++ [b]) n i j p n).2))
   (by
     simp only [muI, List.cons_append, List.nil_append]
     simp (disch := omega) only [ZF, stp, just, Rd.bind, Rd.run, Rd.opt, upds, aBin, aInt, Nat.reduceEqDiff, Nat.reduceLeDiff, ↓reduceIte, F_10]) (by simp)
 have e0 : abF (rowF a) (rowF b) 0 = 0 := rfl
 simp only [cl0, e0, h2, List.cons_append, List.nil_append] at hloop
 have o1' : oV 128 1 (M ++ [b]).length = .ref 128 0 (M ++ [b]).length (M ++ [b]).length (M ++ [b]).length 1 false := ZN (by simp)
 have o2' : oH 128 (lcs (M ++ [b])) = [(128, ⟨.row, lcs (M ++ [b])⟩)] := Z0W (by simp)
 simp only [muS]
 rw [o1', o2']
 have key : (M ++ [b]).length = M.length + 1 := by simp
 rw [key] at hloop ⊢
 rw [← hsn] at hloop ⊢
 rcases ocvL 128 M with ⟨hm, o1, o2⟩ | ⟨_, o1, o2⟩ <;> rw [o1, o2] <;> simp only [List.nil_append, List.cons_append]
 · subst hm
   have z1 : lcs [] = [] := rfl
   have z2 : ([] : List (List Int)).length = 0 := rfl
   rw [z1, z2] at hloop ⊢
   simp only [List.nil_append, Nat.zero_add] at hloop ⊢
   generalize ics (farL a all) = F at *
   generalize lcs R = RL at *
   generalize R.length = rl at *
   generalize lcs all = AL at *
   generalize all.length = al at *
   simp (maxSteps := 1000000) (disch := omega) only [ZF, ↓gd, stp, opPick, opBox, justO, just, Rd.bind, Rd.run, Rd.opt, upds, acells, zeroCells, tsz, elemT, rdCells, aLoad, aStore, opStore, Zd, fresh, Z4, aNum, aLen, Z3, aBin, aInt, putC, evO, Nat.reduceAdd, Nat.reduceLT, Nat.reduceBEq, Nat.reduceEqDiff, Nat.reduceLeDiff, ↓reduceIte, reduceCtorEq, stpT, ↓gdT, Rd.foot, writing, Zb, Tr.empty, Zc, Z9, Zk, partsOf, fillA, repC, Zm, aAppend, srcOf, window, aUn, aCall, snaps, Int.reduceLT, isBoolT, ZT, F_10, hat, hlr, hla, hta, hlf, hfj, g1, g2, la, ta, hix, hbe, hfe, hwh, hov, m1, w1, hloop, Z2w (show 1 ≤ 1000000 by omega), Zx (show i < 1000000 by omega)]
   exact ⟨_, rfl, rfl⟩
 · have hrm := Z2w (show M.length + 1 ≤ 1000000 by omega)
   generalize ics (farL a all) = F at *
   generalize lcs R = RL at *
   generalize R.length = rl at *
   generalize lcs all = AL at *
   generalize all.length = al at *
   generalize lcs M = ML at *
   generalize M.length = ml at *
   simp (maxSteps := 1000000) (disch := omega) only [ZF, ↓gd, stp, opPick, opBox, justO, just, Rd.bind, Rd.run, Rd.opt, upds, acells, zeroCells, tsz, elemT, rdCells, aLoad, aStore, opStore, Zd, fresh, Z4, aNum, aLen, Z3, aBin, aInt, putC, evO, Nat.reduceAdd, Nat.reduceLT, Nat.reduceBEq, Nat.reduceEqDiff, Nat.reduceLeDiff, ↓reduceIte, reduceCtorEq, stpT, ↓gdT, Rd.foot, writing, Zb, Tr.empty, Zc, Z9, Zk, partsOf, fillA, repC, Zm, aAppend, srcOf, window, aUn, aCall, snaps, Int.reduceLT, isBoolT, ZT, F_10, hat, hlr, hla, hta, hlf, hfj, g1, g2, la, ta, hix, hbe, hfe, hwh, hov, hlm, htm, hno, m1, w1, hloop, hrm, Zx (show i < 1000000 by omega)]
   exact ⟨_, rfl, rfl⟩
end Go.AM.Ytfmnoohhhokicaa
end
noncomputable section
namespace Go.AM.Ytfmnoohhhokicaa
open Go Go.AM Go.AM.Rub
theorem ZsW {e : Nat → Int} : ∀ (m k : Nat), fe e k m ≠ 0 → ∃ i, k ≤ i ∧ i < k + m ∧ fe e k m = e i ∧ e i ≠ 0 ∧ ∀ j, k ≤ j → j < i → e j = 0
 | 0, k, h => absurd rfl h
 | m + 1, k, h => by
   simp only [fe] at h ⊢
   by_cases hz : e k = 0
   · rw [if_pos hz] at h ⊢
     obtain ⟨i, h1, h2, h3, h4, h5⟩ := ZsW m (k + 1) h
     exact ⟨i, by omega, by omega, h3, h4, fun j hj1 hj2 => if hk : j = k then by rw [hk]; exact hz else h5 j (by omega) hj2⟩
   · rw [if_neg hz]
     exact ⟨k, Nat.le_refl _, by omega, rfl, hz, fun j h1 h2 => by omega⟩
theorem ZTw {n : Nat} {a b : List Int} (ha : Rw n a) (hb : Rw n b) (h : ¬ whV a b < 0) : ∃ q : Nat, whV a b = q ∧ 0 < q ∧ q ≤ n ∧ ps (rowF a) q < ps (rowF b) q ∧ ∀ j, j < q → ps (rowF b) j ≤ ps (rowF a) j := by
 have hla : (riL a).length = n + 1 := by show (riP a a.length).length = _; rw [Z1c, ha.len]
 have hne : fe (ovE (riL a) (riL b)) 0 (riL a).length ≠ 0 := fun e => h (by unfold whV ovV; omega)
 obtain ⟨i, _, h2, h3, h4, h5⟩ := ZsW _ _ hne
 rw [hla] at h2
 have hlt : rowF (riL a) i < rowF (riL b) i := Classical.byContradiction fun hh => h4 (by unfold ovE; rw [if_neg hh])
 have e1 : ovE (riL a) (riL b) i = (i : Int) + 1 := by unfold ovE; rw [if_pos hlt]
 rw [Z2q (by rw [ha.len]; omega), Z2q (by rw [hb.len]; omega)] at hlt
 refine ⟨i, by unfold whV ovV; omega, ?_, by omega, hlt, fun j hj => ?_⟩
 · rcases Nat.eq_zero_or_pos i with e | e
   · rw [e] at hlt; simp [ps] at hlt
   · exact e
 · have := h5 j (by omega) hj
   unfold ovE at this
   split at this
   · omega
   · rename_i hh
     rw [Z2q (by rw [ha.len]; omega), Z2q (by rw [hb.len]; omega)] at hh
     omega
theorem ZUI {n : Nat} {a : List Int} (ra : Rw n a) (n0 : 0 < n) (h6 : n ≤ 6) {R : List (List Int)} (hR : R.length ≤ 800000) (hrw : ∀ b ∈ R, Rw n b ∧ ps (rowF b) n = ps (rowF a) n) (i : Nat) (hi : i < R.length) :
   ∃ s', execA E (kF 40) (fg 10) 0 201 [] 1000000 Z3q (muS a (reL a) R ((R.take i).filter fun b => becV a b) n i) = some (.normal, s') ∧ headA [] s' = muS a (reL a) R ((R.take (i + 1)).filter fun b => becV a b) n (i + 1) := by
 have hbi : R[i]? = some R[i] := List.getElem?_eq_getElem hi
 have htk : R.take (i + 1) = R.take i ++ [R[i]] := by rw [List.take_add_one, hbi]; rfl
 obtain ⟨rb, hs⟩ := hrw _ (List.mem_of_getElem? hbi)
 rw [htk, List.filter_append]
 have hml : ((R.take i).filter fun b => becV a b).length ≤ 800000 := by
   have h1 := List.length_filter_le (fun b => becV a b) (R.take i)
   rw [List.length_take] at h1
   omega
 generalize (R.take i).filter (fun b => becV a b) = M at *
 generalize hcc : R[i]'hi = b at *
 clear hcc htk
 have ia : ∀ x, IV a (.imm (ics a) n x) := fun x => .inr ⟨x, by rw [ra.len]⟩
 have ib : ∀ x, IV b (.imm (ics b) n x) := fun x => .inr ⟨x, by rw [rb.len]⟩
 have hp : pairE a b = 0 := Z1m.2 ⟨n, n0, h6, ra, rb, by rw [hs]⟩
 have hw := ZI5 ra rb (by rw [hs])
 have la1 : a.length ≤ 1000 := by rw [ra.len]; omega
 have lb1 : b.length ≤ 1000 := by rw [rb.len]; omega
 have h1 := fun (site : Nat → Nat) seen x y => Zrh (d := 37) (site := site) (seen := seen) (ia x) (ib y) la1 lb1
 have h2 := fun (site : Nat → Nat) seen x y => Zul (d := 36) (site := site) (seen := seen) (ia x) (ib y) la1 lb1
 have h3 := fun (site : Nat → Nat) seen x y => ZRo (d := 37) (site := site) (seen := seen) (ia x) (ib y) la1 lb1
 have h4 := fun (site : Nat → Nat) seen x y k => Zuu (d := 37) (site := site) (seen := seen) (k := k) (ia x) (ib y) la1 lb1
 have h5 := fun (site : Nat → Nat) seen x y => ZaQ (d := 38) (site := site) (seen := seen) (x := x) (y := y) ra rb (by omega)
 have ok := Zqb ra
 have okl := ok.len
 have h9 : 9 ^ n ≤ 531441 := by have := Nat.pow_le_pow_right (n := 9) (show 0 < 9 by omega) (show n ≤ 6 by omega); omega
 have hle : (reL a).length ≤ 900000 := Nat.le_trans okl (Nat.le_trans h9 (by omega))
 clear okl h9
 have hlen : ∀ l ∈ reL a, l.length ≤ 1000 := fun l hl => by rw [((ok.mem l).1 hl).1.len]; omega
 have h6' := fun (site : Nat → Nat) seen e z => Zye (d := 39) (site := site) (seen := seen) (a := .imm (lcs (reL a)) (reL a).length e) (pr5 37 b (n := n) (y := z) rb.len hlen) (.inr ⟨e, rfl⟩) hle
 have hmj := Z0kl ra rb (by rw [hs])
 by_cases hm : MajL a b
 · have hwn := hw.2 hm
   have ej : joE a b = 0 := Znt.2 ⟨hp, hwn⟩
   have ebe : becV a b = true := decide_eq_true ⟨hp, hwn⟩
   have efe : fewV a b = apL a b := by unfold fewV; rw [if_pos ej]
   have ew1 : whyV a b = 0 := by unfold whyV; rw [if_neg fun e => e.2 hwn]
   have ew2 : whyE a b = 13 := by unfold whyE; rw [if_neg fun e => e hp, if_pos hwn]
   obtain ⟨j, j1, j2, j3⟩ := Z0hd ((ok.mem b).2 ⟨rb, hm⟩)
   have hfj := Z1Y (ZCM (a := a) j2)
   have hap : apL a b ≤ 1000 := Nat.le_trans (ZO9 ra rb) (by omega)
   have hab2 := Z03X ra hs.symm
   rw [ebe, hp] at h1
   rw [efe, ej] at h2
   rw [ew1, ew2] at h3
   rw [decide_eq_true (hmj.2 hm)] at h5
   rw [j1] at h6'
   have ef : [b].filter (fun b => becV a b) = [b] := by simp [ebe]
   rw [ef]
   clear hwn ej ebe efe ew1 ew2 hp hw hs hmj j1 ef
   exact Z0he ⟨h6', h1, h2, h3, h5⟩ ra rb (by omega) i (by omega) (by omega) hbi hap j3 hfj hab2
 · have hwn : ¬ whV a b < 0 := fun e => hm (hw.1 e)
   have ej : joE a b = 12 := by unfold joE; rw [if_neg fun e => e hp, if_neg hwn]
   have ebe : becV a b = false := decide_eq_false fun e => hwn e.2
   have efe : fewV a b = 0 := by unfold fewV; rw [ej]; rfl
   have ew1 : whyV a b = whV a b := by unfold whyV; rw [if_pos ⟨hp, hwn⟩]
   have ew2 : whyE a b = 0 := by unfold whyE; rw [if_neg fun e => e hp, if_neg hwn]
   obtain ⟨q, q1, q2, q3, q4, q5⟩ := ZTw ra rb hwn
   have hno : ¬ b ∈ reL a := fun h => hm ((ok.mem b).1 h).2
   rw [ebe, hp] at h1
   rw [efe, ej] at h2
   rw [ew1, ew2, q1] at h3
   rw [decide_eq_false fun e => hm (hmj.1 e)] at h5
   rw [Z0hc hno] at h6'
   have ef : [b].filter (fun b => becV a b) = [] := by simp [ebe]
   rw [ef, List.append_nil]
   have h4 := fun (site : Nat → Nat) seen x y => h4 site seen x y q
   have eprv : prvE a b q = 0 := by
     unfold prvE
     rw [if_neg fun e => e hp, if_neg (by rw [ra.len]; clear hwn ej ebe efe ew1 ew2 hp hw hs hmj q1; omega), Int.toNat_natCast, if_neg (by clear hwn ej ebe efe ew1 ew2 hp hw hs hmj q1; omega)]
   rw [eprv] at h4
   clear hwn ej ebe efe ew1 ew2 hp hw hs hmj q1 eprv ef
   have t1 := fun (site : Nat → Nat) seen x => Z17 (d := 39) (site := site) (seen := seen) (ex := x) ra (by omega) q3
   have t2 := fun (site : Nat → Nat) seen x => Z17 (d := 39) (site := site) (seen := seen) (ex := x) rb (by omega) q3
   have o3 := fun (site : Nat → Nat) seen x y => ZaQ (d := 38) (site := site) (seen := seen) (x := x) (y := y) (ZDr ra (show q - 1 ≤ n by omega)) (ZDr rb (show q - 1 ≤ n by omega)) (by omega)
   have e3 : fe (mjE (a.take (q - 1)) (b.take (q - 1))) 0 (q - 1) = 0 := by
     rw [Z2F]
     intro j _ hj
     unfold mjE
     rw [Zpq (by omega), Zpq (by omega), if_neg]
     have := q5 (j + 1) (by omega)
     omega
   rw [decide_eq_true e3] at o3
   exact Z0lO ⟨h6', h1, h2, h3, h5⟩ (by rw [Za, ra.len]) rb.len (by omega) i (by omega) hbi q2 q3 q4 t1 t2 o3 h4
end Go.AM.Ytfmnoohhhokicaa
end
noncomputable section
namespace Go.AM.Ytfmnoohhhokicaa
open Go Go.AM Go.AM.Rub
theorem Z9M {zs : List Int} (hz : zs.length = 8 ∧ ∀ (i : Nat) (z : Int), zs[i]? = some z → 0 ≤ z ∧ z ≤ 255) (hw : ∃ H0, kF 40 17 [] [] 0 = some (.bool true, H0)) :
   rsOf (bodyA E (kF 40) fg 1000000 10 [.agg (zs.map (AV.int .u8))] [] 0) = some (.bool true) := by
 have hwk := fun (site : Nat → Nat) seen => Z0Y (site := site) (seen := seen) hw
 have pl := Z0m6 hz
 obtain ⟨n0, n1, n2⟩ := ZG8 (m := 6) pl (by omega) (by omega)
 obtain ⟨ra, _⟩ := ZyA (m := 6) (t := 6) pl (by omega) (by omega) (by omega) (by omega)
 have hmd := fun (site : Nat → Nat) seen => ZMA (d := 33) (site := site) (seen := seen) (m := 6) (t := 6) pl (by omega) (by omega) (by omega) (by omega)
 have hre := fun (site : Nat → Nat) seen hs => ZsZ (d := 32) (site := site) (seen := seen) ra n0 (by omega) hs
 have ok := Zqb ra
 have hlz : (u8s zs).length = 8 := by rw [Zdn, pl.len]
 have htz : List.take 8 (u8s zs) = u8s zs := List.take_of_length_le (by omega)
 have sp := fun d => Z5j (u8s zs) (d + 10) (by simp [u8s]) (by rw [hlz]; omega)
 have ez : zs.map (AV.int .u8) = u8s zs := rfl
 rw [ez]
 clear n2 hz ez
 generalize mdR zs 6 6 = a at *
 generalize mdN zs 6 = n at *
 have hn6 : n ≤ 6 := by omega
 have la : (ics a).length = n := by rw [Za, ra.len]
 have ta' : List.take n (ics a) = ics a := List.take_of_length_le (by omega)
 have ia : ∀ x, IV a (.imm (ics a) n x) := fun x => .inr ⟨x, by rw [ra.len]⟩
 have ta := fun (site : Nat → Nat) seen ex => totalA (d := 39) (site := site) (seen := seen) (ex := ex) ra (by omega)
 have sb := ps_b ra n (Nat.le_refl n)
 have hro := fun (site : Nat → Nat) seen => ZNE (d := 38 - n) (n := n) (site := site) (seen := seen) n0 (by omega) (left := ps (rowF a) n) (by omega)
 rw [show 38 - n + n + 2 = 40 by omega] at hro
 have hmem := Zr3 ra
 have hne : ¬ rowsL n (ps (rowF a) n) 8 = [] := fun e => by rw [e] at hmem; simp at hmem
 simp only [if_neg hne] at hro
 have hlb := ZUs (n := n) (s := ps (rowF a) n) hn6
 have hbe : beL a = (rowsL n (ps (rowF a) n) 8).filter (fun b => becV a b) := Zt7 ra _ fun l hl he => by
   have hp : pairE a l = 0 := Z1m.2 ⟨n, n0, hn6, ra, hl, by rw [he]⟩
   unfold becV
   rw [decide_eq_true_eq, ZI5 ra hl (by rw [he])]
   exact ⟨fun h => h.2, fun h => ⟨hp, h⟩⟩
 have hrw : ∀ c ∈ rowsL n (ps (rowF a) n) 8, Rw n c ∧ ps (rowF c) n = ps (rowF a) n := fun c hc => ZdG hc
 have hbp := Zen ra
 have hbl := Z0ea ra
 have hrow : ∀ l ∈ beL a, l.length ≤ 1000 := fun l hl => by rw [((Zzu ra).1 hl).1.len]; omega
 have hBA := fun (site : Nat → Nat) seen x => ZFy (d := 29) (ia x) ra n0 hn6 site seen
 have hch := fun (site : Nat → Nat) seen x => Z3w (d := 39) (site := site) (seen := seen) (ia x) (by rw [ra.len]; omega)
 rw [ZHZ ra n0 hn6] at hch
 clear hmem hne
 generalize hS : ps (rowF a) n = S at *
 generalize rowsL n S 8 = R at *
 have hround := fun i hi => ZUI ra n0 hn6 (R := R) (by omega) (by rw [hS]; exact hrw) i hi
 have hloop := loopMS (f := execA E (kF 40) (fg 10) 0 201 [] 1000000 Z3q) (E0 := []) (s0 := ([(33, .int .i64 0), (32, .int .i64 R.length), (31, .ref 31 0 R.length R.length R.length 1 false), (6, .nilsl), (5, .ref 225 0 (reL a).length (reL a).length (reL a).length 1 false), (4, .ref 24 0 (reL a).length (reL a).length (reL a).length 1 false), (3, .ref 21 0 n n n 1 false)],
     [(1, ⟨.box, u8s zs⟩), (21, ⟨.froz, ics a⟩), (24, ⟨.row, lcs (reL a)⟩), (31, ⟨.row, lcs R⟩), (225, ⟨.row, ics (farL a (reL a))⟩)])) (fun i => muS a (reL a) R ((R.take i).filter fun b => becV a b) n i) R.length hround rfl (by omega)
   (e := .exit 0) (se := ([(34, .bool false), (33, .int .i64 R.length), (32, .int .i64 R.length), (31, .ref 31 0 R.length R.length R.length 1 false), (6, .ref 128 0 (beL a).length (beL a).length (beL a).length 1 false), (5, .ref 225 0 (reL a).length (reL a).length (reL a).length 1 false), (4, .ref 24 0 (reL a).length (reL a).length (reL a).length 1 false), (3, .ref 21 0 n n n 1 false)],
     [(21, ⟨.froz, ics a⟩), (24, ⟨.row, lcs (reL a)⟩), (31, ⟨.row, lcs R⟩), (128, ⟨.row, lcs (beL a)⟩), (225, ⟨.row, ics (farL a (reL a))⟩)]))
   (by
     simp only [muS, List.take_length, ← hbe]
     rw [ZN hbp, Z0W hbp]
     generalize kF 40 = C at *
     simp (disch := omega) only [ZF, stp, just, Rd.bind, Rd.run, Rd.opt, upds, aBin, aInt, Nat.reduceEqDiff, Nat.reduceLeDiff, ↓reduceIte, F_10]) (by simp)
 clear hround hbe hrw
 have hal := fun (site : Nat → Nat) seen x y => ZFn (d := 38) (site := site) (seen := seen) (A := beL a) (B := beL a) (a := .imm (lcs (beL a)) (beL a).length x) (b := .imm (lcs (beL a)) (beL a).length y) (.inr ⟨x, rfl⟩) (.inr ⟨y, rfl⟩) (by omega) (by omega) hrow
 rw [decide_eq_true rfl] at hal
 have lbe := Zq (beL a)
 have tbe := Z1N (beL a)
 have llr := Zq R
 generalize kF 40 = C at *
 generalize ics (farL a (reL a)) = F at *
 generalize lcs (reL a) = A at *
 generalize (reL a).length = m at *
 generalize lcs (beL a) = BL at *
 generalize (beL a).length = bl at *
 generalize lcs R = RL at *
 generalize R.length = rl at *
 generalize u8s zs = Z at *
 generalize ics a = IA at *
 simp (disch := omega) only [ZF, ↓gd, Z5, stp, opPick, opBox, justO, just, Rd.bind, Rd.run, Rd.opt, upds, acells, rdCells, aLoad, Zd, resA, resL, fresh, aLen, Z3, aBin, aInt, Nat.reduceAdd, Nat.reduceMul, Nat.reduceBEq, Nat.reduceEqDiff, Nat.reduceLeDiff, ↓reduceIte, reduceCtorEq, aCall, snaps, ZT, F_10, hlz, htz, sp, hmd, hre, la, ta', ta, hro, llr, hloop, hBA, hch, hal, lbe, tbe, hwk]
end Go.AM.Ytfmnoohhhokicaa
end
noncomputable section
namespace Go.AM.Ytfmnoohhhokicaa
open Go Go.AM
theorem ZEO : isTrue (kF 40 17 [] [] 0) = true := by kernel_rfl
theorem soundK (d : Nat) : CS Proofs.Try.prog E (kF d) := ZNC (Z8p envOk mixed fr fg 1000000 d)
theorem soundB : CS Proofs.Try.prog E (bodyA E (kF 40) fg 1000000) := ZCB envOk mixed fg 1000000 (soundK 40)
end Go.AM.Ytfmnoohhhokicaa
end
noncomputable section
namespace Go.AM.Ytfmnoohhhokicaa
open Go Go.AM Go.RowKit Go.Proofs Go.Proofs.Ytfmnoohhhokicaa Go.ChangeShapes Go.WideShapes Go.ChangeAt Go.AM.Rub
theorem laidOut : laidOutB Try.prog = true := by kernel_rfl
theorem ZGf : Try.prog.readableRec 49 = true := by kernel_rfl
theorem ZGG : 49 < Try.prog.types.size := of_decide_eq_true (by kernel_rfl)
theorem ZO5 : Try.prog.cellsOf 49 = 8 := by kernel_rfl
theorem Zuj : Try.prog.cellTypes Try.prog.depth 49 = some (List.replicate 8 5) := by kernel_rfl
theorem Z8L {W : World} {zs0 : List Int} {v0 : Value} (h0 : zs0.length = 8 ∧ ∀ (i : Nat) (z : Int), zs0[i]? = some z → 0 ≤ z ∧ z ≤ 255) (r0 : (start (fun k => k < W.heap.size) W).R (.agg (zs0.map (AV.int .u8))) v0) :
   Calls Try.prog 10 #[v0] W fun e w' => e = .returned (.bool true) ∧ Below W.heap.size W w' := by
 obtain ⟨H0, hw⟩ := ZHU ZEO
 obtain ⟨H1, hr⟩ := ZX2 (Z9M h0 ⟨H0, hw⟩)
 refine Z0cs soundB hr (fun k h => h) (vs := [v0]) ?_
 simp only [Gh.Rs, VRs]
 exact ⟨v0, _, rfl, r0, rfl⟩
theorem Z5W (os : Os) (started : os.Started) (H : Type) (enc : TypeId × Value → H) :
   ReturnsInHanded {} Try.checked os 10 .any (Rows.rubMuirheadSpec.pre6 enc Try.prog Try.f10 Rows.rubMuirheadRow.domain false)
     (Rows.rubMuirheadSpec.post enc Try.prog Try.f10 false true false false) := by
 refine returnsInHanded_of_change own started (by kernel_rfl) Try.func10 (ChangeSpec.witness6 (enc := enc) (C := Try.checked) false ⟨#[], #[.agg (Array.replicate 8 (.int .u8 0))], []⟩ 8 (by kernel_rfl) (by kernel_rfl) (by kernel_rfl) (by kernel_rfl)) ?_
 intro W base args ds gs before hval0 hW _ _
 have hW' := hW
 obtain ⟨p, q, hA0, hV, rfl, hfz, hnd⟩ := hW
 have hA : DataW.TrodAll enc Try.prog W 0 (fun _ => true) true Try.f10.params.toList args.toList ds p := hA0
 rw [Try.params10] at hA
 obtain ⟨w0, vs0, d0, ds0, p0, q0, ha, rfl, rfl, t0, hr0⟩ := trodAll_cons hA
 obtain ⟨rfl, rfl, rfl⟩ := trodAll_nil hr0
 obtain rfl : args = #[w0] := by cases args; simp_all
 obtain ⟨rfl, rfl⟩ := trodVars_none hV
 have hval : ∀ (j : Nat) t v, (#[49] : Array TypeId)[j]? = some t → (#[w0] : Array Value)[j]? = some v → Value.okWide Try.prog W .any base t v := by
   intro j t v; have := hval0 j t v; rw [Try.params10] at this; exact this
 obtain ⟨zs0, cs0, rfl, e0, l0, b0⟩ := Zuq Try.underlying49 Try.underlying5 Zuj ZO5 (by omega) (hval 0 49 w0 rfl rfl)
 have h0 : zs0.length = 8 ∧ ∀ (i : Nat) (z : Int), zs0[i]? = some z → 0 ≤ z ∧ z ≤ 255 := ⟨l0, b0⟩
 have r0 : (start (fun k => k < W.heap.size) W).R (.agg (zs0.map (AV.int .u8))) (.agg cs0) := Z0li _ e0
 refine (Z8L h0 r0).mono fun e W' ⟨he, bel⟩ => ?_
 subst he
 exact ⟨_, rfl, _, _, _, [], _, [], hW', trodAll_mk1 (shut_bool Try.underlying4 _),
   trodAll_mk1 (bel.trod' laidOut ZGf ZGG t0), rfl, bel.frame _, fun h => by cases h⟩
theorem rubMuirhead_holds : Rows.RubMuirheadSaid :=
 OpenClaim.holds_of_wide 10 Try.f10 rfl rfl rfl rfl rfl rfl rfl ⟨rfl, rfl, rfl, rfl, rfl⟩ rfl rfl rfl rfl rfl (by kernel_rfl) Try.func10 (by kernel_rfl)
   (of_decide_eq_true (by kernel_rfl)) (by unfold Func.isWrapper; first | (rw [if_pos (by decide +kernel)]; kernel_rfl) | (rw [if_neg (by decide +kernel)]; exact ⟨rfl, rfl⟩))
   (fun os started H enc _ => Z5W os started H enc)
end Go.AM.Ytfmnoohhhokicaa
namespace Go.Proofs.Ytfmnoohhhokicaa
theorem rubMuirhead_holds : Rows.RubMuirheadSaid := Go.AM.Ytfmnoohhhokicaa.rubMuirhead_holds
end Go.Proofs.Ytfmnoohhhokicaa
end
end
#print axioms Go.Proofs.Ytfmnoohhhokicaa.rubMuirhead_holds
