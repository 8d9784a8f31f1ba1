/- A part of the proof of rubFlat_holds: RoJ. Own work of this project; texts printed by own programs among it. -/
import Derived.KernelRfl
import Derived.Test.YtfmnoohhhokicaaWvI
set_option maxRecDepth 1000000
set_option maxHeartbeats 16000000
noncomputable section
noncomputable section
namespace Go.AM.Ytfmnoohhhokicaa
open Go Go.AM Go.AM.Rub
theorem ZyT {l : List Int} {a : AV} (h : IV l a) : aLen E.T 22 a = .pure (.int .i64 (l.length : Int)) := by
 rcases h with ⟨rfl, rfl⟩ | ⟨ex, rfl⟩ <;> (simp only [aLen, T_22] <;> rfl)
def dfE (l m : List Int) (i : Nat) : Int := if rowF l i = rowF m i then 0 else 1
theorem ZbK {l m : List Int} (hl : l.length = m.length) : fe (dfE l m) 0 l.length = 0 ↔ l = m := by
 rw [Z3l]
 constructor
 · intro h
   refine Z8G hl fun i hi => ?_
   have := h i (by omega) (by omega)
   unfold dfE at this
   split at this
   · assumption
   · exact absurd this (by decide)
 · rintro rfl i _ _
   exact if_pos rfl
abbrev saS (a b : AV) (i : Nat) : St := ([(5, .int .i64 i), (1, b), (0, a)], [])
theorem Zu7 {C : Callee} {l m : List Int} {a b : AV} (ha : IV l a) (hb : IV m b) (hl : l.length ≤ 1000) : rsOf (bodyA E C fg 1000000 24 [a, b] [] 0) = some (.bool (decide (l = m))) := by
 have la := ZyT ha
 have lb := ZyT hb
 by_cases hlm : l.length = m.length
 · have g1 : ¬ (l.length : Int) ≠ m.length := by omega
   have g2 : ((l.length : Int) != m.length) = false := by rw [bne_eq_false_iff_eq]; omega
   have g3 : (l.length : Int) = m.length := by omega
   by_cases h0 : l.length = 0
   · have e1 : l = [] := List.length_eq_zero_iff.1 h0
     have e2 : m = [] := List.length_eq_zero_iff.1 (by omega)
     subst e1 e2
     rw [decide_eq_true rfl]
     have hloop := Z6K (f := (execA E C (fg 24) 0 26 [] 1000000 Z3o)) (E0 := []) (s0 := saS a b 0) (by rcases ha with ⟨_, rfl⟩ | ⟨_, rfl⟩ <;> rcases hb with ⟨_, rfl⟩ | ⟨_, rfl⟩ <;> rfl) (e := .exit 0) (se := ([(14, .bool false), (5, .int .i64 0), (1, b), (0, a)], []))
       (by simp (disch := omega) only [ZF, stp, just, Rd.bind, Rd.run, Rd.opt, upds, Z1, aBin, aInt, Nat.reduceBEq, Nat.reduceEqDiff, Nat.reduceLeDiff, ↓reduceIte, reduceCtorEq, F_24, la, saS, cl0]) (by simp)
     simp only [saS, cl0] at hloop
     simp (disch := omega) only [ZF, Z3, stp, just, Rd.bind, Rd.run, Rd.opt, upds, resA, resL, Z1, aBin, aInt, Nat.reduceBEq, Nat.reduceEqDiff, Nat.reduceLeDiff, ↓reduceIte, reduceCtorEq, F_24, la, lb, hloop]
   · obtain ⟨ea, rfl⟩ := Z67 ha (by omega)
     obtain ⟨eb, rfl⟩ := Z67 hb (by omega)
     have hlen := Z7 l
     have hlen2 := Z7 m
     have hloop := loopE (f := (execA E C (fg 24) 0 26 [] 1000000 Z3o)) (e := dfE l m) (R := fun _ H => ([(4, .bool false)], H)) (saS (.imm (ics l) l.length ea) (.imm (ics m) m.length eb)) l.length (E0 := []) rfl (by omega) (x := .exit 0) (se := ([(14, .bool false), (5, .int .i64 l.length), (1, .imm (ics m) m.length eb), (0, .imm (ics l) l.length ea)], [])) (by simp)
       (fun i hi _ he => by
         have a1 := Z02 (l := l) (k := i) hi
         have a2 := Z02 (l := m) (k := i) (by omega)
         have k1 : (i : Int) < l.length := by omega
         have k2 : (i : Int) < m.length := by omega
         have hq : rowF l i = rowF m i := by
           unfold dfE at he
           split at he
           · assumption
           · exact absurd he (by decide)
         rw [hq] at a1
         simp (disch := omega) only [ZF, stp, just, Rd.bind, Rd.run, Rd.opt, upds, tsz, rdCells, aLoad, Z4, aNum, aLen, Z1, aBin, aInt, Nat.reduceAdd, Nat.reduceLT, Nat.reduceBEq, Nat.reduceEqDiff, Nat.reduceLeDiff, ↓reduceIte, reduceCtorEq, stpT, Rd.foot, writing, Zb, Tr.empty, Zd, ZT, F_24, saS, k1, k2, a1, a2, hlen, hlen2, ZV (show i < 1000000 by omega)]
         exact ⟨_, rfl, rfl⟩)
       (fun i hi _ he => by
         have a1 := Z02 (l := l) (k := i) hi
         have a2 := Z02 (l := m) (k := i) (by omega)
         have k1 : (i : Int) < l.length := by omega
         have k2 : (i : Int) < m.length := by omega
         have hq : ¬ rowF l i = rowF m i := fun h => he (if_pos h)
         have hq2 : (rowF l i != rowF m i) = true := by rw [bne_iff_ne]; exact hq
         simp (disch := omega) only [ZF, stp, just, Rd.bind, Rd.run, Rd.opt, upds, tsz, rdCells, aLoad, Z4, aNum, aLen, Z1, aBin, aInt, Nat.reduceAdd, Nat.reduceLT, Nat.reduceBEq, Nat.reduceEqDiff, Nat.reduceLeDiff, ↓reduceIte, reduceCtorEq, stpT, Rd.foot, writing, Zb, Tr.empty, Zd, ZT, F_24, saS, k1, k2, a1, a2, hlen, hlen2, hq2]
         exact ⟨_, rfl⟩)
       (fun _ => by simp (disch := omega) only [ZF, stp, just, Rd.bind, Rd.run, Rd.opt, upds, aLen, Z1, aBin, aInt, Nat.reduceBEq, Nat.reduceEqDiff, Nat.reduceLeDiff, ↓reduceIte, reduceCtorEq, ZT, F_24, saS])
     simp only [saS, cl0] at hloop
     rcases hloop with ⟨hz, hloop⟩ | ⟨hz, H, hloop⟩
     · rw [decide_eq_true ((ZbK hlm).1 hz)]
       simp (disch := omega) only [ZF, Z3, stp, just, Rd.bind, Rd.run, Rd.opt, upds, resA, resL, aLen, Z1, aBin, aInt, Nat.reduceBEq, Nat.reduceEqDiff, Nat.reduceLeDiff, ↓reduceIte, reduceCtorEq, ZT, F_24, hloop, g3]
     · rw [decide_eq_false fun e => hz ((ZbK hlm).2 e)]
       simp (disch := omega) only [ZF, Z3, stp, just, Rd.bind, Rd.run, Rd.opt, upds, resA, resL, aLen, Z1, aBin, aInt, Nat.reduceBEq, Nat.reduceEqDiff, Nat.reduceLeDiff, ↓reduceIte, reduceCtorEq, ZT, F_24, hloop, g3]
 · rw [decide_eq_false fun e => hlm (by rw [e])]
   have g1 : (l.length : Int) ≠ m.length := by omega
   have g2 : ((l.length : Int) != m.length) = true := by rw [bne_iff_ne]; omega
   have g3 : ¬ (l.length : Int) = m.length := by omega
   simp (disch := omega) only [ZF, Z3, stp, just, Rd.bind, Rd.run, Rd.opt, upds, resA, resL, Z1, aBin, aInt, Nat.reduceBEq, Nat.reduceEqDiff, Nat.reduceLeDiff, ↓reduceIte, reduceCtorEq, F_24, la, lb, g2]
theorem Z96 {d : Nat} {site : Nat → Nat} {seen : List Nat} {l m : List Int} {a b : AV} (ha : IV l a) (hb : IV m b) (hl : l.length ≤ 1000) : aBack site true seen (thaw (kF (d + 1)) 24 [a, b] [] 0) = .pure (.bool (decide (l = m)), []) :=
 Z1p (Z2F rfl (Zu7 ha hb hl))
end Go.AM.Ytfmnoohhhokicaa
end
noncomputable section
namespace Go.AM.Rub
theorem Z9s (g : Int → Int) {a : Nat → Int} {i j : Nat} (hij : i < j) : ∀ n, ps (fun k => g (mvF a i j k)) n = ps (fun k => g (a k)) n + (if i < n then g (a i - 1) - g (a i) else 0) + (if j < n then g (a j + 1) - g (a j) else 0)
 | 0 => by simp [ps]
 | n + 1 => by
   simp only [ps, Z9s g hij n]
   have e : mvF a i j n = (if n = i then a n - 1 else if n = j then a n + 1 else a n) := rfl
   rw [e]
   by_cases h1 : n = i
   · subst h1
     simp only [if_true, if_pos (Nat.lt_succ_self n), if_neg (Nat.lt_irrefl n), if_neg (show ¬ j < n by omega), if_neg (show ¬ j < n + 1 by omega)]; omega
   · by_cases h2 : n = j
     · subst h2
       simp only [if_neg h1, if_true, if_pos (show i < n by omega), if_pos (show i < n + 1 by omega), if_neg (Nat.lt_irrefl n), if_pos (Nat.lt_succ_self n)]; omega
     · have e1 : (i < n + 1) = (i < n) := by apply propext; omega
       have e2 : (j < n + 1) = (j < n) := by apply propext; omega
       simp only [if_neg h1, if_neg h2, e1, e2]; omega
def sumG (g : Int → Int) : List Int → Int
 | [] => 0
 | x :: l => g x + sumG g l
theorem Z3f (g : Int → Int) : ∀ l : List Int, sumG g l = ps (fun k => g (rowF l k)) l.length
 | [] => rfl
 | x :: l => by
   have : ∀ k, ps (fun k => g (rowF (x :: l) k)) (k + 1) = g x + ps (fun k => g (rowF l k)) k := by
     intro k
     induction k with
     | zero => simp [ps, rowF]
     | succ k ih => rw [ps, ih, ps]; simp [rowF]; omega
   rw [sumG, Z3f g l, List.length_cons, this]
theorem ZlI (g : Int → Int) {n : Nat} {l : List Int} (h : Rw n l) {i j : Nat} (r : Rb n l i j) : sumG g (mvL l i j) = sumG g l + (g (rowF l i - 1) - g (rowF l i)) + (g (rowF l j + 1) - g (rowF l j)) := by
 have hl := h.len
 have hj : j < l.length := by have := r.lj; omega
 rw [Z3f, Z3f, Z0R]
 have : ps (fun k => g (rowF (mvL l i j) k)) l.length = ps (fun k => g (mvF (rowF l) i j k)) l.length := Z0x _ fun k _ => by rw [Z1A r.lt hj]
 rw [this, Z9s g r.lt, if_pos (by have := r.lt; omega), if_pos hj]
def Conv (g : Int → Int) : Prop := ∀ x y : Int, 0 ≤ y → x ≤ 8 → x - y ≥ 2 → g (x - 1) + g (y + 1) ≤ g x + g y
def SConv (g : Int → Int) : Prop := ∀ x y : Int, 0 ≤ y → x ≤ 8 → x - y ≥ 2 → g (x - 1) + g (y + 1) < g x + g y
theorem ZA9 {g : Int → Int} (hg : Conv g) {n : Nat} {b : List Int} (hb : Rw n b) : ∀ (d : Nat) (a : List Int), Rw n a → MajL a b → apL a b = d → sumG g b ≤ sumG g a := by
 intro d
 induction d with
 | zero =>
   intro a ha h hd
   have c := Z5m a b
   have z := (Z8u (a := rowF a) (b := rowF b) a.length).1 (by omega)
   rw [Z8G (by rw [ha.len, hb.len]) (ZvU z h.eq)]
   exact Int.le_refl _
 | succ d ih =>
   intro a ha h hd
   have hne : a ≠ b := fun e => by
     subst e
     have := (Z8u (a := rowF a) (b := rowF a) a.length).2 fun k _ => Int.le_refl _
     unfold apL at hd; omega
   obtain ⟨i, j, r, h1, h2, h3, h4⟩ := Z9c ha hb h hne
   have := ih _ h1 h2 (by omega)
   have e := ZlI g ha r
   have x := Z09 ha.row i (by have := r.lt; have := r.lj; have := ha.len; omega)
   have y := Z09 ha.row j (by have := r.lj; have := ha.len; omega)
   have := hg (rowF a i) (rowF a j) y.1 x.2 r.df
   omega
theorem ZGj {g : Int → Int} (hg : SConv g) {n : Nat} {a b : List Int} (ha : Rw n a) (hb : Rw n b) (h : MajL a b) (hne : a ≠ b) : sumG g b < sumG g a := by
 obtain ⟨i, j, r, h1, h2, h3, h4⟩ := Z9c ha hb h hne
 have := ZA9 (g := g) (fun x y a b c => by have := hg x y a b c; omega) hb _ _ h1 h2 rfl
 have e := ZlI g ha r
 have x := Z09 ha.row i (by have := r.lt; have := r.lj; have := ha.len; omega)
 have y := Z09 ha.row j (by have := r.lj; have := ha.len; omega)
 have := hg (rowF a i) (rowF a j) y.1 x.2 r.df
 omega
def pw (x : Int) : Nat → Int
 | 0 => 1
 | k + 1 => pw x k * x
theorem ZFF {p : Nat} (h2 : 2 ≤ p) (h4 : p ≤ 4) : SConv (fun x => pw x p) := by
 have key : ∀ p ∈ [2, 3, 4], ∀ y ∈ [0, 1, 2, 3, 4, 5, 6, 7, 8], ∀ x ∈ [0, 1, 2, 3, 4, 5, 6, 7, 8], (x : Int) - y ≥ 2 → pw (x - 1) p + pw (y + 1) p < pw x p + pw y p := by decide
 intro x y hy hx hd
 have mem : ∀ z : Int, 0 ≤ z → z ≤ 8 → z ∈ ([0, 1, 2, 3, 4, 5, 6, 7, 8] : List Int) := fun z h1 h2 => by
   have : z = 0 ∨ z = 1 ∨ z = 2 ∨ z = 3 ∨ z = 4 ∨ z = 5 ∨ z = 6 ∨ z = 7 ∨ z = 8 := by omega
   simpa using this
 have hp : p ∈ [2, 3, 4] := by
   have : p = 2 ∨ p = 3 ∨ p = 4 := by omega
   simpa using this
 exact key p hp y (mem y hy (by omega)) x (mem x (by omega) hx) hd
end Go.AM.Rub
end
noncomputable section
namespace Go.AM.Ytfmnoohhhokicaa
open Go Go.AM Go.AM.Rub
theorem pw_b {x : Int} (h : 0 ≤ x ∧ x ≤ 8) : ∀ k : Nat, k ≤ 4 → 0 ≤ pw x k ∧ pw x k ≤ 4096 ∧ (k ≤ 3 → pw x k ≤ 512) ∧ (k ≤ 2 → pw x k ≤ 64) ∧ (k ≤ 1 → pw x k ≤ 8) ∧ (k = 0 → pw x k ≤ 1)
 | 0, _ => by simp [pw]
 | k + 1, hk => by
   obtain ⟨h1, h2, h3, h4, h5, h6⟩ := pw_b h k (by omega)
   simp only [pw]
   have n1 := Int.mul_nonneg h1 h.1
   have up : ∀ M : Int, pw x k ≤ M → 0 ≤ M → pw x k * x ≤ M * 8 := fun M hM h0 => Int.mul_le_mul hM h.2 h.1 h0
   have := up 4096 h2 (by omega)
   refine ⟨n1, ?_, fun hh => ?_, fun hh => ?_, fun hh => ?_, fun hh => by omega⟩
   · have := up 512 (h3 (by omega)) (by omega); omega
   · have := up 64 (h4 (by omega)) (by omega); omega
   · have := up 8 (h5 (by omega)) (by omega); omega
   · have := up 1 (h6 (by omega)) (by omega); omega
def poF (l : List Int) (p : Nat) (k : Nat) : Int := pw (rowF l k) p
theorem po_b {n : Nat} {l : List Int} (h : Rw n l) {p : Nat} (hp : p ≤ 4) : ∀ k, k ≤ n → 0 ≤ ps (poF l p) k ∧ ps (poF l p) k ≤ 4096 * k
 | 0, _ => by simp [ps]
 | k + 1, hk => by
   have := po_b h hp k (by omega)
   have := pw_b (rw_b h (k := k) (by omega)) p hp
   simp only [ps, poF] at *; omega
def powE (l : List Int) (p : Int) : Int := if chkR l ≠ 0 then chkR l else if p < 1 ∨ p > 4 then 1 else 0
def powV (l : List Int) (p : Int) : Int := if powE l p = 0 then ps (poF l p.toNat) l.length else 0
abbrev pwI (a : AV) (p : Nat) (n i : Nat) (s x : Int) (j : Nat) : St := ([(33, .int .i64 j), (32, .int .i64 ((p : Int) - 1)), (26, .int .i64 i), (25, .int .i64 n), (24, a), (10, .int .i64 (pw x (j + 1))), (9, .int .i64 x), (7, .int .i64 s), (1, .int .i64 p)], [])
abbrev pwS (a : AV) (p : Nat) (n i : Nat) (s : Int) : St := ([(26, .int .i64 i), (25, .int .i64 n), (24, a), (7, .int .i64 s), (1, .int .i64 p)], [])
theorem ZRu {C : Callee} {n : Nat} {l : List Int} {ex : Bool} (h : Rw n l) (h6 : n ≤ 6) {p : Nat} (h1 : 1 ≤ p) (h4 : p ≤ 4) (i : Nat) (hi : i < n) :
   ∃ s', (execA E C (fg 54) 0 44 [] 1000000 Z3h) (pwS (.imm (ics l) n ex) p n i (ps (poF l p) i)) = some (.normal, s') ∧ headA [] s' = pwS (.imm (ics l) n ex) p n (i + 1) (ps (poF l p) (i + 1)) := by
 have hl := h.len
 have hlen : (ics l).length = n := by rw [Z7, hl]
 have hat := Z02 (l := l) (k := i) (by omega)
 have bx := rw_b h hi
 have bs := po_b h h4 i (by omega)
 have hpx := pw_b bx p h4
 have hps : ps (poF l p) (i + 1) = ps (poF l p) i + pw (rowF l i) p := rfl
 rw [hps]
 generalize ps (poF l p) i = s at *
 generalize rowF l i = x at *
 have g1 : (i : Int) < n := by omega
 have w0 : wrp .i64 ((p : Int) - 1) = (p : Int) - 1 := Z9 (by omega)
 have hloop := loopM (f := (execA E C (fg 54) 0 44 [] 1000000 Z4c)) (E0 := []) (pwI (.imm (ics l) n ex) p n i s x) (p - 1) (fun j hj => by
     have hq := pw_b bx (j + 1) (by omega)
     have hq2 := pw_b bx (j + 1 + 1) (by omega)
     have e : pw x (j + 1 + 1) = pw x (j + 1) * x := rfl
     have w1 : wrp .i64 (pw x (j + 1) * x) = pw x (j + 1) * x := by rw [← e]; exact Z9 (by omega)
     have g2 : (j : Int) < (p : Int) - 1 := by omega
     simp only [pwI, e]
     generalize pw x (j + 1) = y at *
     simp (disch := omega) only [ZF, stp, just, Rd.bind, Rd.run, Rd.opt, upds, aBin, aInt, Nat.reduceBEq, Nat.reduceEqDiff, Nat.reduceLeDiff, ↓reduceIte, F_54, g2, w1, ZV (show j < 1000000 by omega)]
     exact ⟨_, rfl, rfl⟩) rfl (by omega)
   (e := .exit 3) (se := ([(34, .bool false), (33, .int .i64 ((p - 1 : Nat) : Int)), (32, .int .i64 ((p : Int) - 1)), (26, .int .i64 i), (25, .int .i64 n), (24, .imm (ics l) n ex), (10, .int .i64 (pw x p)), (9, .int .i64 x), (7, .int .i64 s), (1, .int .i64 p)], []))
   (by
     have e : pw x (p - 1 + 1) = pw x p := by rw [show p - 1 + 1 = p by omega]
     have g2 : ¬ ((p - 1 : Nat) : Int) < (p : Int) - 1 := by omega
     simp only [pwI, e]
     simp (disch := omega) only [ZF, stp, just, Rd.bind, Rd.run, Rd.opt, upds, aBin, aInt, Nat.reduceEqDiff, Nat.reduceLeDiff, ↓reduceIte, F_54, g2]) (by simp)
 have e1 : pw x (0 + 1) = x := by simp [pw]
 simp only [pwI, e1, cl0] at hloop
 have w2 : wrp .i64 (s + pw x p) = s + pw x p := Z9 (by omega)
 generalize pw x p = y at *
 simp (disch := omega) only [ZF, stp, just, Rd.bind, Rd.run, Rd.opt, upds, tsz, rdCells, aLoad, Z4, aNum, aBin, aInt, Nat.reduceLT, Nat.reduceBEq, Nat.reduceEqDiff, Nat.reduceLeDiff, ↓reduceIte, ZT, F_54, g1, hat, hlen, w0, w2, hloop, ZV (show i < 1000000 by omega)]
 exact ⟨_, rfl, rfl⟩
theorem Ztq {d : Nat} {l : List Int} {a : AV} {p : Int} (ha : IV l a) (hl : l.length ≤ 1000) : rsOf (bodyA E (kF (d + 1)) fg 1000000 54 [a, .int .i64 p] [] 0) = some (.tup [.int .i64 (powV l p), .int .i64 (powE l p)]) := by
 have hc := fun (site : Nat → Nat) seen => Z3t (d := d) (site := site) (seen := seen) ha hl
 have sn := Z8v ha
 unfold powV
 by_cases h0 : chkR l = 0
 · rw [h0] at hc
   obtain ⟨h1, h6, hr⟩ := Z1Q.1 h0
   obtain ⟨ex, rfl⟩ := Z67 ha h1
   by_cases hp : p < 1 ∨ p > 4
   · have e : powE l p = 1 := by unfold powE; rw [if_neg (fun e => e h0), if_pos hp]
     rw [e, if_neg (by decide)]
     generalize kF (d + 1) = C at *
     by_cases c1 : p < 1
     · simp (disch := omega) only [ZF, ↓gd, Z3, stp, opPick, just, Rd.bind, Rd.run, Rd.opt, upds, resA, resL, aBin, aInt, Nat.reduceBEq, Nat.reduceEqDiff, Nat.reduceLeDiff, ↓reduceIte, reduceCtorEq, aCall, snaps, F_54, hc, c1]
     · have c2 : p > 4 := by omega
       simp (disch := omega) only [ZF, ↓gd, Z3, stp, opPick, just, Rd.bind, Rd.run, Rd.opt, upds, resA, resL, aBin, aInt, Nat.reduceBEq, Nat.reduceEqDiff, Nat.reduceLeDiff, ↓reduceIte, reduceCtorEq, aCall, snaps, F_54, hc, c1, c2]
   · have e : powE l p = 0 := by unfold powE; rw [if_neg (fun e => e h0), if_neg hp]
     rw [e, if_pos rfl]
     obtain ⟨q, rfl⟩ : ∃ q : Nat, p = q := ⟨p.toNat, by omega⟩
     rw [Int.toNat_natCast]
     have hlen := Z7 l
     have hloop := loopM (f := execA E (kF (d + 1)) (fg 54) 0 44 [] 1000000 Z3h) (E0 := []) (fun i => pwS (.imm (ics l) l.length ex) q l.length i (ps (poF l q) i)) l.length (fun i hi => ZRu hr h6 (by omega) (by omega) i hi) rfl (by omega)
       (e := .exit 1) (se := ([(27, .bool false), (26, .int .i64 l.length), (25, .int .i64 l.length), (24, .imm (ics l) l.length ex), (7, .int .i64 (ps (poF l q) l.length)), (1, .int .i64 q)], []))
       (by
         simp only [pwS]
         simp (disch := omega) only [ZF, stp, just, Rd.bind, Rd.run, Rd.opt, upds, aBin, aInt, Nat.reduceEqDiff, Nat.reduceLeDiff, ↓reduceIte, F_54]) (by simp)
     have e0 : ps (poF l q) 0 = 0 := rfl
     simp only [pwS, e0, cl0] at hloop
     have c1 : ¬ (q : Int) < 1 := by omega
     have c2 : ¬ (q : Int) > 4 := by omega
     generalize kF (d + 1) = C at *
     simp (disch := omega) only [ZF, ↓gd, Z3, stp, opPick, just, Rd.bind, Rd.run, Rd.opt, upds, resA, resL, aLen, Z1, aBin, aInt, Nat.reduceBEq, Nat.reduceEqDiff, Nat.reduceLeDiff, ↓reduceIte, reduceCtorEq, aCall, snaps, ZT, F_54, hc, c1, c2, hloop]
 · have e : powE l p = chkR l := if_pos h0
   rw [e, if_neg h0]
   generalize kF (d + 1) = C at *
   generalize chkR l = z at *
   have h0' : (z == 0) = false := by rw [beq_eq_false_iff_ne]; exact h0
   simp (disch := omega) only [ZF, ↓gd, Z3, stp, opPick, just, Rd.bind, Rd.run, Rd.opt, upds, resA, resL, aBin, aInt, Nat.reduceBEq, Nat.reduceEqDiff, Nat.reduceLeDiff, ↓reduceIte, reduceCtorEq, aCall, snaps, F_54, hc, h0, sn 198]
theorem Z6d {d : Nat} {site : Nat → Nat} {seen : List Nat} {l : List Int} {a : AV} {p : Int} (ha : IV l a) (hl : l.length ≤ 1000) : aBack site true seen (thaw (kF (d + 2)) 54 [a, .int .i64 p] [] 0) = .pure (.tup [.int .i64 (powV l p), .int .i64 (powE l p)], []) :=
 Zot (Z2F rfl (Ztq ha hl))
theorem ZfF {l : List Int} {n : Nat} (h : Rw n l) (h0 : 0 < n) (h6 : n ≤ 6) {p : Nat} (h1 : 1 ≤ p) (h4 : p ≤ 4) : powE l p = 0 ∧ powV l p = sumG (fun x => pw x p) l := by
 have hl := h.len
 have hc : chkR l = 0 := by rw [Z1Q]; exact ⟨by omega, by omega, by rw [hl]; exact h⟩
 have e : powE l p = 0 := by unfold powE; rw [if_neg (fun e => e hc), if_neg (by omega)]
 refine ⟨e, ?_⟩
 unfold powV
 rw [if_pos e, Int.toNat_natCast, Z3f]
 rfl
end Go.AM.Ytfmnoohhhokicaa
end
noncomputable section
namespace Go.AM.Ytfmnoohhhokicaa
open Go Go.AM Go.AM.Rub
theorem Zse (d : Nat) : ([1, 2, 3, 4, 5, 6].all fun n => match kF (d + 4) 111 [.int .u64 n] [] 0 with | some (.int .i64 _, _) => true | _ => false) = true := by kernel_rfl
end Go.AM.Ytfmnoohhhokicaa
end
noncomputable section
namespace Go.AM
theorem loopE {E0 : AHeap} {f : St → XR} (st : Nat → St) (n : Nat) (h : ∀ i, i < n → ∃ s', f (st i) = some (.normal, s') ∧ headA E0 s' = st (i + 1)) (h0 : headA E0 (st 0) = st 0) (hn : n < 1000) {e : Ex} {se : St} (he : f (st n) = some (e, se)) (hne : e ≠ .normal) :
   iterA f (headA E0) 1000 (st 0) = some (e, se) :=
 Z3L st n 1000 0 (st 0) h0 hn (fun i _ hi => h i (by omega)) (by rw [Nat.zero_add]; exact he) hne
end Go.AM
end
noncomputable section
namespace Go.AM.Ytfmnoohhhokicaa
open Go Go.AM Go.AM.Rub
theorem Zem {a b : Int} (ha : 0 ≤ a) (hb : 0 < b) : 0 ≤ a.tmod b ∧ a.tmod b < b := ⟨Int.tmod_nonneg _ ha, Int.tmod_lt_of_pos _ hb⟩
end Go.AM.Ytfmnoohhhokicaa
end
noncomputable section
namespace Go.AM.Ytfmnoohhhokicaa
open Go Go.AM Go.AM.Rub
def lcs (L : List (List Int)) : List AV := L.map fun l => .imm (ics l) l.length false
theorem ZO (L : List (List Int)) : (lcs L).length = L.length := by simp [lcs]
theorem Z6n {L : List (List Int)} {k : Nat} {l : List Int} (h : L[k]? = some l) : (lcs L)[k]? = some (.imm (ics l) l.length false) := by simp [lcs, h]
theorem Zef (L : List (List Int)) (l : List Int) : lcs L ++ [.imm (ics l) l.length false] = lcs (L ++ [l]) := by simp [lcs]
theorem Z91 (L : List (List Int)) : (lcs L).take L.length = lcs L := List.take_of_length_le (by rw [ZO]; exact Nat.le_refl _)
theorem Z7z {n : Nat} (h : n ≤ 1000000) : roomOk E.T 22 n = true := by
 simp only [roomOk, T_22, decide_eq_true_eq]; exact ⟨by decide, rfl, by omega⟩
theorem Z3e {k : Nat} {L : List (List Int)} (h : 0 < L.length) : oH k (lcs L) = [(k, ⟨.row, lcs L⟩)] := ZyZ k (by rw [ZO]; exact h)
def LV (L : List (List Int)) (a : AV) : Prop := (L = [] ∧ a = .nilsl) ∨ ∃ ex, a = .imm (lcs L) L.length ex
abbrev toS (l : List Int) (a : AV) (i : Nat) : St := ([(8, .int .i64 i), (7, .int .i64 l.length), (6, a), (3, .int .i64 (ps (rowF l) i))], [])
theorem ZqM {C : Callee} {l : List Int} {a : AV} (ha : IV l a) (hl : l.length ≤ 1000) (hb : ∀ k, k < l.length → 0 ≤ rowF l k ∧ rowF l k ≤ 100000) : rsOf (bodyA E C fg 1000000 58 [a] [] 0) = some (.int .i64 (ps (rowF l) l.length)) := by
 have hps : ∀ k, k ≤ l.length → 0 ≤ ps (rowF l) k ∧ ps (rowF l) k ≤ 100000 * k := by
   intro k
   induction k with
   | zero => intro _; simp [ps]
   | succ k ih =>
     intro hk
     have := ih (by omega)
     have := hb k (by omega)
     simp only [ps]; omega
 rcases ha with ⟨rfl, rfl⟩ | ⟨ex, rfl⟩
 · have hloop := Z6K (f := (execA E C (fg 58) 0 17 [] 1000000 Z4q)) (E0 := []) (s0 := ([(8, .int .i64 0), (7, .int .i64 0), (6, .nilsl), (3, .int .i64 0)], [])) rfl (e := .exit 0) (se := ([(9, .bool false), (8, .int .i64 0), (7, .int .i64 0), (6, .nilsl), (3, .int .i64 0)], []))
     (by simp (disch := omega) only [ZF, stp, just, Rd.bind, Rd.run, Rd.opt, upds, aBin, aInt, Nat.reduceEqDiff, Nat.reduceLeDiff, ↓reduceIte, F_58]) (by simp)
   simp (disch := omega) only [ZF, Z3, stp, just, Rd.bind, Rd.run, upds, resA, resL, aLen, Z1, Nat.reduceBEq, Nat.reduceEqDiff, Nat.reduceLeDiff, ↓reduceIte, reduceCtorEq, ZT, F_58, hloop, ps]
 · have hlen := Z7 l
   have hloop := loopM (f := (execA E C (fg 58) 0 17 [] 1000000 Z4q)) (E0 := []) (toS l (.imm (ics l) l.length ex)) l.length (fun i hi => by
       have hat := Z02 hi
       have g1 : (i : Int) < l.length := by omega
       have := hps i (by omega)
       have := hb i hi
       have w : wrp .i64 (ps (rowF l) i + rowF l i) = ps (rowF l) i + rowF l i := Z9 (by omega)
       simp (disch := omega) only [ZF, stp, just, Rd.bind, Rd.run, Rd.opt, upds, tsz, rdCells, aLoad, Z4, aNum, aBin, aInt, Nat.reduceLT, Nat.reduceBEq, Nat.reduceEqDiff, Nat.reduceLeDiff, ↓reduceIte, ZT, F_58, toS, ps, g1, hat, hlen, w, ZV (show i < 1000000 by omega)]
       exact ⟨_, rfl, rfl⟩) rfl (by omega) (e := .exit 0) (se := ([(9, .bool false), (8, .int .i64 l.length), (7, .int .i64 l.length), (6, .imm (ics l) l.length ex), (3, .int .i64 (ps (rowF l) l.length))], []))
     (by simp (disch := omega) only [ZF, stp, just, Rd.bind, Rd.run, Rd.opt, upds, aBin, aInt, Nat.reduceEqDiff, Nat.reduceLeDiff, ↓reduceIte, F_58, toS]) (by simp)
   simp only [toS, cl0, ps] at hloop
   simp (disch := omega) only [ZF, Z3, stp, just, Rd.bind, Rd.run, upds, resA, resL, aLen, Z1, Nat.reduceBEq, Nat.reduceEqDiff, Nat.reduceLeDiff, ↓reduceIte, reduceCtorEq, ZT, F_58, hloop]
theorem ZpK {d : Nat} {site : Nat → Nat} {seen : List Nat} {l : List Int} {a : AV} (ha : IV l a) (hl : l.length ≤ 1000) (hb : ∀ k, k < l.length → 0 ≤ rowF l k ∧ rowF l k ≤ 100000) : aBack site true seen (thaw (kF (d + 1)) 58 [a] [] 0) = .pure (.int .i64 (ps (rowF l) l.length), []) :=
 Z44 (Z2F rfl (ZqM ha hl hb))
theorem Z9g {l : List Int} {k i : Nat} (h : i < k) : rowF (l.take k) i = rowF l i := by
 simp only [rowF, List.getD_eq_getElem?_getD, List.getElem?_take, if_pos h]
theorem Z0T {d : Nat} {site : Nat → Nat} {seen : List Nat} {n : Nat} {l : List Int} (h : Rw n l) (hn : n ≤ 8) {k : Nat} (hk : k ≤ n) {ex : Bool} : aBack site true seen (thaw (kF (d + 1)) 58 [.imm (ics (l.take k)) k ex] [] 0) = .pure (.int .i64 (ps (rowF l) k), []) := by
 have hl : (l.take k).length = k := by rw [List.length_take, h.len]; omega
 have ha : IV (l.take k) (.imm (ics (l.take k)) k ex) := .inr ⟨ex, by rw [hl]⟩
 have := ZpK (d := d) (site := site) (seen := seen) ha (by omega) (fun i hi => by rw [Z9g (by omega)]; have := rw_b h (k := i) (by omega); omega)
 rw [hl, Z0x k fun i hi => Z9g hi] at this
 exact this
theorem Zr5 {C : Callee} {l : List Int} {n : Nat} {ex : Bool} (hl : l.length = n) (h0 : 0 < n) (h9 : n ≤ 1000) : ∃ H, bodyA E C fg 1000000 66 [.imm (ics l) n ex] [] 0 = some (.ref 5 0 n n n 1 false, H) ∧ hget H 5 = some ⟨.row, ics l⟩ := by
 have hlen : (ics l).length = n := by rw [Z7, hl]
 have htk : List.take n (ics l) = ics l := List.take_of_length_le (by omega)
 have hn0 : ¬ n = 0 := by omega
 have hn1 : ¬ n ≤ 0 := by omega
 simp (disch := omega) only [ZF, Z3, stp, just, Rd.bind, Rd.run, upds, zeroCells, tsz, elemT, resA, resL, fresh, Z1, aBin, Nat.reduceAdd, Nat.reduceLT, Nat.reduceBEq, Nat.reduceEqDiff, Nat.reduceLeDiff, ↓reduceIte, reduceCtorEq, Z6, Zg, partsOf, fillA, repC, Zh, aAppend, srcOf, window, snaps, ZT, F_66, aNil, srcOf, hlen, hn0, hn1, Z01 (show n ≤ 1000000 by omega)]
 exact ⟨_, rfl, rfl⟩
theorem Z5H {d : Nat} {site : Nat → Nat} {seen : List Nat} {l : List Int} {n : Nat} {ex : Bool} (hl : l.length = n) (h0 : 0 < n) (h9 : n ≤ 1000) : aBack site true seen (thaw (kF (d + 1)) 66 [.imm (ics l) n ex] [] 0) =
   Z0g (site 0) seen (fun k => .ref k 0 n n n 1 false) ⟨.row, ics l⟩ := by
 obtain ⟨H, h1, h2⟩ := Zr5 (C := kF d) (ex := ex) hl h0 h9
 exact Z3M (by rw [Z15 rfl]; exact h1) h2 (by rw [Z7, hl])
end Go.AM.Ytfmnoohhhokicaa
end
noncomputable section
namespace Go.AM.Ytfmnoohhhokicaa
open Go Go.AM Go.AM.Rub
def mjE (a b : List Int) (i : Nat) : Int := if ps (rowF a) (i + 1) < ps (rowF b) (i + 1) then 1 else 0
theorem ZNr {n : Nat} {a b : List Int} (ha : Rw n a) (_ : Rw n b) (he : ps (rowF a) n = ps (rowF b) n) : fe (mjE a b) 0 n = 0 ↔ MajL a b := by
 rw [Z3l]
 constructor
 · intro h
   refine ⟨by rw [ha.len]; exact he, fun k hk => ?_⟩
   rw [ha.len] at hk
   cases k with
   | zero => exact Int.le_refl _
   | succ k =>
     have := h k (by omega) (by omega)
     unfold mjE at this
     split at this
     · exact absurd this (by decide)
     · omega
 · intro h i _ hi
   have := h.le (i + 1) (by rw [ha.len]; omega)
   unfold mjE
   rw [if_neg (by omega)]
abbrev voS (a b : List Int) (n : Nat) (x y : Bool) (i : Nat) : St := ([(8, .int .i64 i), (7, .int .i64 n), (1, .imm (ics b) n y), (0, .imm (ics a) n x)], [])
theorem Zrp {d : Nat} {a b : List Int} {n : Nat} {x y : Bool} (ha : Rw n a) (hb : Rw n b) (hn : n ≤ 8) : rsOf (bodyA E (kF (d + 1)) fg 1000000 62 [.imm (ics a) n x, .imm (ics b) n y] [] 0) = some (.bool (decide (fe (mjE a b) 0 n = 0))) := by
 have la : (ics a).length = n := by rw [Z7, ha.len]
 have lb : (ics b).length = n := by rw [Z7, hb.len]
 have hloop := loopE (f := execA E (kF (d + 1)) (fg 62) 0 23 [] 1000000 Z5R) (e := mjE a b) (R := fun _ H => ([(4, .bool false)], H)) (voS a b n x y) n (E0 := []) rfl (by omega) (x := .exit 0) (se := ([(9, .bool false), (8, .int .i64 n), (7, .int .i64 n), (1, .imm (ics b) n y), (0, .imm (ics a) n x)], [])) (by simp)
   (fun i hi _ he => by
     have ta := fun (site : Nat → Nat) seen x => Z0T (d := d) (site := site) (seen := seen) (ex := x) ha hn (show i + 1 ≤ n by omega)
     have tb := fun (site : Nat → Nat) seen x => Z0T (d := d) (site := site) (seen := seen) (ex := x) hb hn (show i + 1 ≤ n by omega)
     have a1 : List.take (i + 1) (ics a) = ics (a.take (i + 1)) := Z3B a _
     have b1 : List.take (i + 1) (ics b) = ics (b.take (i + 1)) := Z3B b _
     have g1 : (i : Int) < n := by omega
     have g2 : (0 : Int) ≤ ((i + 1 : Nat) : Int) ∧ ((i + 1 : Nat) : Int) ≤ (n : Int) := by omega
     have g3 : ¬ ps (rowF a) (i + 1) < ps (rowF b) (i + 1) := fun h => by unfold mjE at he; rw [if_pos h] at he; exact absurd he (by decide)
     generalize kF (d + 1) = C at *
     generalize ps (rowF a) (i + 1) = u at *
     generalize ps (rowF b) (i + 1) = v at *
     simp (disch := omega) only [ZF, stp, just, Rd.bind, Rd.run, Rd.opt, upds, tsz, aNum, aBin, aInt, Nat.reduceAdd, Nat.reduceBEq, Nat.reduceEqDiff, Nat.reduceLeDiff, ↓reduceIte, reduceCtorEq, stpT, Rd.foot, writing, Zb, Tr.empty, Zd, window, aCall, snaps, aSlice, aBounds, bMax, bHigh, bLow, ZT, F_62, voS, la, lb, ta, tb, a1, b1, g1, g2, g3, ZV (show i < 1000000 by omega)]
     exact ⟨_, rfl, rfl⟩)
   (fun i hi _ he => by
     have ta := fun (site : Nat → Nat) seen x => Z0T (d := d) (site := site) (seen := seen) (ex := x) ha hn (show i + 1 ≤ n by omega)
     have tb := fun (site : Nat → Nat) seen x => Z0T (d := d) (site := site) (seen := seen) (ex := x) hb hn (show i + 1 ≤ n by omega)
     have a1 : List.take (i + 1) (ics a) = ics (a.take (i + 1)) := Z3B a _
     have b1 : List.take (i + 1) (ics b) = ics (b.take (i + 1)) := Z3B b _
     have g1 : (i : Int) < n := by omega
     have g2 : (0 : Int) ≤ ((i + 1 : Nat) : Int) ∧ ((i + 1 : Nat) : Int) ≤ (n : Int) := by omega
     have g3 : ps (rowF a) (i + 1) < ps (rowF b) (i + 1) := Classical.byContradiction fun h => he (by unfold mjE; rw [if_neg h])
     generalize kF (d + 1) = C at *
     generalize ps (rowF a) (i + 1) = u at *
     generalize ps (rowF b) (i + 1) = v at *
     simp (disch := omega) only [ZF, stp, just, Rd.bind, Rd.run, Rd.opt, upds, tsz, aNum, aBin, aInt, Nat.reduceAdd, Nat.reduceBEq, Nat.reduceEqDiff, Nat.reduceLeDiff, ↓reduceIte, reduceCtorEq, stpT, Rd.foot, writing, Zb, Tr.empty, Zd, window, aCall, snaps, aSlice, aBounds, bMax, bHigh, bLow, ZT, F_62, voS, la, lb, ta, tb, a1, b1, g1, g2, g3, ZV (show i < 1000000 by omega)]
     exact ⟨_, rfl⟩)
   (fun _ => by
     generalize kF (d + 1) = C at *
     simp (disch := omega) only [ZF, stp, just, Rd.bind, Rd.run, Rd.opt, upds, aBin, aInt, Nat.reduceEqDiff, Nat.reduceLeDiff, ↓reduceIte, F_62, voS])
 simp only [voS, cl0] at hloop
 generalize kF (d + 1) = C at *
 rcases hloop with ⟨hz, hloop⟩ | ⟨hz, H, hloop⟩
 · rw [decide_eq_true hz]
   simp (disch := omega) only [ZF, Z3, stp, just, Rd.bind, Rd.run, upds, resA, resL, aLen, Z1, Nat.reduceBEq, Nat.reduceEqDiff, Nat.reduceLeDiff, ↓reduceIte, reduceCtorEq, ZT, F_62, hloop]
 · rw [decide_eq_false hz]
   simp (disch := omega) only [ZF, Z3, stp, just, Rd.bind, Rd.run, upds, resA, resL, aLen, Z1, Nat.reduceBEq, Nat.reduceEqDiff, Nat.reduceLeDiff, ↓reduceIte, reduceCtorEq, ZT, F_62, hloop]
theorem Zq2 {d : Nat} {site : Nat → Nat} {seen : List Nat} {a b : List Int} {n : Nat} {x y : Bool} (ha : Rw n a) (hb : Rw n b) (hn : n ≤ 8) : aBack site true seen (thaw (kF (d + 2)) 62 [.imm (ics a) n x, .imm (ics b) n y] [] 0) = .pure (.bool (decide (fe (mjE a b) 0 n = 0)), []) :=
 Z1p (Z2F rfl (Zrp ha hb hn))
end Go.AM.Ytfmnoohhhokicaa
end
noncomputable section
namespace Go.AM.Rub
def ad (out : List (List Int)) (l : List Int) : List (List Int) := if l ∈ out then out else out ++ [l]
end Go.AM.Rub
end
noncomputable section
namespace Go.AM.Ytfmnoohhhokicaa
open Go Go.AM Go.AM.Rub
theorem ocvL (k : Nat) (L : List (List Int)) : (L = [] ∧ oV k 1 L.length = .nilsl ∧ oH k (lcs L) = []) ∨ (0 < L.length ∧ oV k 1 L.length = .ref k 0 L.length L.length L.length 1 false ∧ oH k (lcs L) = [(k, ⟨.row, lcs L⟩)]) := by
 cases L with
 | nil => exact .inl ⟨rfl, rfl, rfl⟩
 | cons x L => exact .inr ⟨by simp, ZR (by simp), Z3e (by simp)⟩
end Go.AM.Ytfmnoohhhokicaa
end
noncomputable section
namespace Go.AM.Rub
def fuR (l : List Int) (m : Nat) (left most : Int) : List (List Int) := (rowsL m left most).map (l ++ ·)
theorem Zgs (l : List Int) (left most : Int) : fuR l 0 left most = if left = 0 then [l] else [] := by
 unfold fuR
 simp only [rowsL]
 split <;> simp
theorem ZEQ (m : Nat) (left most : Int) : fuR [] m left most = rowsL m left most := by
 unfold fuR; simp
theorem ZuJ (l : List Int) (m : Nat) (left most : Int) : fuR l (m + 1) left most = (dn (min most left)).flatMap fun t => fuR (l ++ [t]) m (left - t) t := by
 unfold fuR
 simp only [rowsL, List.map_flatMap, List.map_map]
 congr 1
 funext t
 congr 1
 funext r
 simp
def fuP (l : List Int) (m : Nat) (left : Int) (m0 : Nat) (j : Nat) : List (List Int) := (List.range j).flatMap fun (i : Nat) => fuR (l ++ [((m0 : Int) - i)]) m (left - ((m0 : Int) - i)) ((m0 : Int) - i)
theorem Z3G (l : List Int) (m : Nat) (left : Int) (m0 j : Nat) : fuP l m left m0 (j + 1) = fuP l m left m0 j ++ fuR (l ++ [((m0 : Int) - j)]) m (left - ((m0 : Int) - j)) ((m0 : Int) - j) := by
 unfold fuP
 rw [List.range_succ, List.flatMap_append]
 simp
theorem Z1W : ∀ n : Nat, dnN n = (List.range (n + 1)).map fun (i : Nat) => (n : Int) - i
 | 0 => rfl
 | n + 1 => by
   have h : List.range (n + 1 + 1) = 0 :: (List.range (n + 1)).map Nat.succ := List.range_succ_eq_map
   rw [dnN, Z1W n, h, List.map_cons, List.map_map]
   congr 1
   apply List.map_congr_left
   intro a _
   simp only [Function.comp_apply]
   omega
theorem Zhv (l : List Int) (m : Nat) {left most : Int} {m0 : Nat} (h : min most left = m0) : fuP l m left m0 (m0 + 1) = fuR l (m + 1) left most := by
 rw [ZuJ, h]
 unfold fuP dn
 rw [if_neg (by omega), Int.toNat_natCast, Z1W, List.flatMap_map]
theorem ZDG (l : List Int) (m : Nat) (left most : Int) (h : most ≤ 8) : (fuR l m left most).length ≤ 9 ^ m := by
 unfold fuR
 rw [List.length_map]
 exact Z41 m left most h
theorem Z8A (l : List Int) (m : Nat) (left : Int) (m0 : Nat) (h : m0 ≤ 8) : ∀ j, j ≤ m0 + 1 → (fuP l m left m0 j).length ≤ j * 9 ^ m
 | 0, _ => by simp [fuP]
 | j + 1, hj => by
   have ih := Z8A l m left m0 h j (by omega)
   have := ZDG (l ++ [((m0 : Int) - j)]) m (left - ((m0 : Int) - j)) ((m0 : Int) - j) (by omega)
   rw [Z3G, List.length_append, Nat.succ_mul]
   omega
end Go.AM.Rub
end
noncomputable section
namespace Go.AM.Rub
def cntE (left : Int) (m : Nat) : Nat → Int → Nat
 | 0, _ => 0
 | f + 1, t => if t * (m : Int) ≥ left ∧ t ≥ 0 then cntE left m f (t - 1) + 1 else 0
theorem Z1e (left : Int) (m : Nat) : ∀ (f : Nat) (t : Int), t < f → (∀ j : Nat, j < cntE left m f t → (t - j) * (m : Int) ≥ left ∧ t - j ≥ 0) ∧ ¬ ((t - cntE left m f t) * (m : Int) ≥ left ∧ t - cntE left m f t ≥ 0)
 | 0, t, h => by
   refine ⟨fun j hj => by simp [cntE] at hj, ?_⟩
   simp only [cntE]
   intro hh
   omega
 | f + 1, t, h => by
   simp only [cntE]
   split
   · rename_i hc
     obtain ⟨h1, h2⟩ := Z1e left m f (t - 1) (by omega)
     have e : ∀ c : Nat, t - ((c + 1 : Nat) : Int) = t - 1 - (c : Int) := fun c => by omega
     refine ⟨fun j hj => ?_, ?_⟩
     · cases j with
       | zero => simpa using hc
       | succ j =>
         have := h1 j (by omega)
         rw [← e] at this
         exact this
     · rw [← e] at h2; exact h2
   · rename_i hc
     refine ⟨fun j hj => absurd hj (by omega), ?_⟩
     simpa using hc
def eaR (x : Nat → Int) (n : Nat) : Nat → List Int → Int → Int → List (List Int)
 | 0, l, _, _ => [l]
 | m + 1, l, sum, most => (List.range (cntE (x n - sum) (m + 1) 100 (min most (x (l.length + 1) - sum)))).flatMap fun (i : Nat) =>
     eaR x n m (l ++ [min most (x (l.length + 1) - sum) - i]) (sum + (min most (x (l.length + 1) - sum) - i)) (min most (x (l.length + 1) - sum) - i)
def eaP (x : Nat → Int) (n m : Nat) (l : List Int) (sum t0 : Int) (j : Nat) : List (List Int) := (List.range j).flatMap fun (i : Nat) => eaR x n m (l ++ [t0 - i]) (sum + (t0 - i)) (t0 - i)
theorem Z19 (x : Nat → Int) (n m : Nat) (l : List Int) (sum t0 : Int) (j : Nat) : eaP x n m l sum t0 (j + 1) = eaP x n m l sum t0 j ++ eaR x n m (l ++ [t0 - j]) (sum + (t0 - j)) (t0 - j) := by
 unfold eaP
 rw [List.range_succ, List.flatMap_append]
 simp
theorem Z1y (x : Nat → Int) (n m : Nat) (l : List Int) (sum most : Int) : eaR x n (m + 1) l sum most = eaP x n m l sum (min most (x (l.length + 1) - sum)) (cntE (x n - sum) (m + 1) 100 (min most (x (l.length + 1) - sum))) := rfl
theorem Z3b (left : Int) (m : Nat) : ∀ (f : Nat) (t : Int), t ≤ 8 → cntE left m f t ≤ 9
 | 0, t, _ => by simp [cntE]
 | f + 1, t, h => by
   have key : ∀ (f : Nat) (t : Int) (c : Nat), t + 1 ≤ c → cntE left m f t ≤ c := by
     intro f
     induction f with
     | zero => intro t c _; simp [cntE]
     | succ f ih =>
       intro t c hc
       simp only [cntE]
       split
       · rename_i hh
         have := ih (t - 1) (c - 1) (by omega)
         omega
       · omega
   exact key (f + 1) t 9 (by omega)
theorem Zk0 (x : Nat → Int) (n : Nat) : ∀ (m : Nat) (l : List Int) (sum most : Int), most ≤ 8 → (eaR x n m l sum most).length ≤ 9 ^ m
 | 0, l, _, _, _ => by simp [eaR]
 | m + 1, l, sum, most, h => by
   rw [Z1y]
   have hc := Z3b (x n - sum) (m + 1) 100 (min most (x (l.length + 1) - sum)) (by omega)
   have key : ∀ j, (eaP x n m l sum (min most (x (l.length + 1) - sum)) j).length ≤ j * 9 ^ m := by
     intro j
     induction j with
     | zero => simp [eaP]
     | succ j ih =>
       rw [Z19, List.length_append, Nat.succ_mul]
       have := Zk0 x n m (l ++ [min most (x (l.length + 1) - sum) - j]) (sum + (min most (x (l.length + 1) - sum) - j)) (min most (x (l.length + 1) - sum) - j) (by omega)
       omega
   have := key (cntE (x n - sum) (m + 1) 100 (min most (x (l.length + 1) - sum)))
   have h2 := Nat.mul_le_mul_right (9 ^ m) hc
   rw [Nat.pow_succ, Nat.mul_comm (9 ^ m)]
   omega
theorem Z3a (x : Nat → Int) (n m : Nat) (l : List Int) (sum t0 : Int) (h : t0 ≤ 8) : ∀ j, (eaP x n m l sum t0 j).length ≤ j * 9 ^ m
 | 0 => by simp [eaP]
 | j + 1 => by
   have ih := Z3a x n m l sum t0 h j
   rw [Z19, List.length_append, Nat.succ_mul]
   have := Zk0 x n m (l ++ [t0 - j]) (sum + (t0 - j)) (t0 - j) (by omega)
   omega
end Go.AM.Rub
end
noncomputable section
namespace Go.AM.Ytfmnoohhhokicaa
open Go Go.AM Go.AM.Rub
theorem ZSJ {d : Nat} {l : List Int} {k : Nat} (hl : l.length = k) (h0 : 0 < k) (h9 : k ≤ 100) : pF (d + 2) 93 [.ref 0 0 k k k 1 false, .ptr 1 0 1] [(0, ⟨.row, ics l⟩), (1, ⟨.box, [.nilsl]⟩)] 64 =
   some (.tup [], [(0, ⟨.froz, ics l⟩), (1, ⟨.box, [.ref 71 0 1 1 1 1 false]⟩), (69, ⟨.froz, ics l⟩), (70, ⟨.row, [.imm (ics l) k false]⟩), (71, ⟨.row, [.imm (ics l) k false]⟩)]) := by
 rw [pF_s]
 have hlen : (ics l).length = k := by rw [Z7, hl]
 have htk : List.take k (ics l) = ics l := List.take_of_length_le (by omega)
 have hcl := fun (site : Nat → Nat) seen x => Z5H (d := d) (site := site) (seen := seen) (ex := x) hl h0 (by omega)
 generalize kF (d + 1) = C at *
 simp (disch := omega) only [ZF, Z3, just, Rd.bind, Rd.run, Rd.opt, upds, acells, zeroCells, tsz, elemT, rdCells, aLoad, aStore, opStore, resA, resL, fresh, Z1, putC, evO, Nat.reduceAdd, Nat.reduceLT, Nat.reduceBEq, Nat.reduceEqDiff, Nat.reduceLeDiff, ↓reduceIte, reduceCtorEq, stpT, Rd.foot, writing, Zb, Tr.empty, Zd, apartT, disj, Z6, Zg, partsOf, fillA, repC, Zh, aAppend, srcOf, window, aCall, snaps, ZT, F_93, hlen, htk, hcl, Z7z (show 1 ≤ 1000000 by omega)]
theorem ZPX {d : Nat} {l : List Int} {k : Nat} (hl : l.length = k) (h0 : 0 < k) (h9 : k ≤ 100) {A : List AV} {m : Nat} (hA : A.length = m) (hm : m + 1 ≤ 1000000) : pF (d + 2) 93 [.ref 0 0 k k k 1 false, .ptr 1 0 1] [(0, ⟨.row, ics l⟩), (1, ⟨.box, [.ref 2 0 m m m 1 false]⟩), (2, ⟨.row, A⟩)] 64 =
   some (.tup [], [(0, ⟨.froz, ics l⟩), (1, ⟨.box, [.ref 2 0 (m + 1) (m + 1) (m + 1) 1 false]⟩), (2, ⟨.row, A ++ [.imm (ics l) k false]⟩), (69, ⟨.froz, ics l⟩), (70, ⟨.row, [.imm (ics l) k false]⟩)]) := by
 rw [pF_s]
 have hlen : (ics l).length = k := by rw [Z7, hl]
 have htk : List.take k (ics l) = ics l := List.take_of_length_le (by omega)
 have hta : List.take m A = A := List.take_of_length_le (by omega)
 have hno : ¬ m + 1 ≤ m := by omega
 have hcl := fun (site : Nat → Nat) seen x => Z5H (d := d) (site := site) (seen := seen) (ex := x) hl h0 (by omega)
 generalize kF (d + 1) = C at *
 simp (disch := omega) only [ZF, Z3, just, Rd.bind, Rd.run, Rd.opt, upds, acells, zeroCells, tsz, elemT, rdCells, aLoad, aStore, opStore, resA, resL, fresh, Z1, putC, evO, Nat.reduceAdd, Nat.reduceLT, Nat.reduceBEq, Nat.reduceEqDiff, Nat.reduceLeDiff, ↓reduceIte, reduceCtorEq, stpT, Rd.foot, writing, Zb, Tr.empty, Zd, apartT, disj, Z6, Zg, partsOf, fillA, repC, Zh, aAppend, srcOf, window, aCall, snaps, ZT, F_93, hlen, htk, hta, hA, hno, hcl, Z7z hm]
abbrev vB (p : Nat) : AV := .clo 93 [.ptr p 0 1]
abbrev puK (i j k q : Nat) : AV := .clo 116 [.ptr i 0 1, .ptr j 0 1, .ptr k 0 1, .ptr q 0 1]
abbrev ehA (l : List Int) (X : List AV) (n : Nat) : AHeap := [(0, ⟨.row, ics l⟩), (1, ⟨.box, [.int .i64 n]⟩), (2, ⟨.box, [vB 3]⟩), (3, ⟨.box, [.nilsl]⟩), (4, ⟨.box, [.ref 5 0 (n + 1) (n + 1) (n + 1) 1 false]⟩), (5, ⟨.row, X⟩), (6, ⟨.box, [puK 1 2 4 6]⟩)]
abbrev ehB (l : List Int) (X : List AV) (n : Nat) (L : List (List Int)) : AHeap := [(0, ⟨.row, ics l⟩), (1, ⟨.box, [.int .i64 n]⟩), (2, ⟨.box, [vB 3]⟩), (3, ⟨.box, [.ref 4 0 L.length L.length L.length 1 false]⟩), (4, ⟨.row, lcs L⟩), (5, ⟨.box, [.ref 6 0 (n + 1) (n + 1) (n + 1) 1 false]⟩), (6, ⟨.row, X⟩), (7, ⟨.box, [puK 1 2 5 7]⟩)]
theorem ZsX {d : Nat} {l : List Int} {X : List AV} {k n : Nat} (hl : l.length = k) (h0 : 0 < k) (h9 : k ≤ 100) : kF (d + 2) 93 [.ref 0 0 k k k 1 false, .ptr 3 0 1] (ehA l X n) 560 =
   some (.tup [], [(0, ⟨.froz, ics l⟩), (1, ⟨.box, [.int .i64 n]⟩), (2, ⟨.box, [vB 3]⟩), (3, ⟨.box, [.ref 560 0 1 1 1 1 false]⟩), (4, ⟨.box, [.ref 5 0 (n + 1) (n + 1) (n + 1) 1 false]⟩), (5, ⟨.row, X⟩), (6, ⟨.box, [puK 1 2 4 6]⟩), (560, ⟨.row, [.imm (ics l) k false]⟩)]) := by
 have hp := ZSJ (d := d) hl h0 h9
 rw [Z0b rfl]
 have hks : (mark (ehA l X n) 1000 (refsL [.ref 0 0 k k k 1 false, .ptr 3 0 1]) []).reverse = [0, 3] := rfl
 have hap : AM.apart [0, 3] = true := rfl
 have e1 : renL (posF [0, 3] 0) [.ref 0 0 k k k 1 false, .ptr 3 0 1] = some [.ref 0 0 k k k 1 false, .ptr 1 0 1] := rfl
 have e2 : foc (posF [0, 3] 0) (ehA l X n) 0 [0, 3] = some [(0, ⟨.row, ics l⟩), (1, ⟨.box, [.nilsl]⟩)] := rfl
 have hn : newsF [(0, ⟨.froz, ics l⟩), (1, ⟨.box, [.ref 71 0 1 1 1 1 false]⟩), (69, ⟨.froz, ics l⟩), (70, ⟨.row, [.imm (ics l) k false]⟩), (71, ⟨.row, [.imm (ics l) k false]⟩)] (.tup []) 2 = [71] := rfl
 have hl2 : ([0, 3] : List Nat).length = 2 := rfl
 have er : List.range 2 = [0, 1] := rfl
 rw [hks]
 unfold focus
 rw [if_pos hap]
 have hbase : baseF (ehA l X n) 1 8 560 = some 560 := rfl
 simp only [e1, e2, hp, backF, hl2, hn, er]
 simp only [List.length_cons, List.length_nil, Nat.zero_add, hbase, AM.apart, List.elem_nil, Bool.not_false, Bool.and_self, if_true, if_false, List.cons_append, List.nil_append, ren, renL, unf, outF, posF, List.getElem?_cons_zero, List.getElem?_cons_succ, Nat.reduceLT, goodB, BS.open_, Bool.true_or, Bool.false_or, ehA, Zj, decide_true, renB, hl2, upds, Zi, Zl, Nat.reduceEqDiff, Nat.reduceLeDiff, Nat.add_zero, reduceCtorEq]
theorem Ztx {d : Nat} {l : List Int} {X : List AV} {k n : Nat} {L : List (List Int)} (hl : l.length = k) (h0 : 0 < k) (h9 : k ≤ 100) (hL : L.length + 1 ≤ 1000000) : kF (d + 2) 93 [.ref 0 0 k k k 1 false, .ptr 3 0 1] (ehB l X n L) 560 =
   some (.tup [], [(0, ⟨.froz, ics l⟩), (1, ⟨.box, [.int .i64 n]⟩), (2, ⟨.box, [vB 3]⟩), (3, ⟨.box, [.ref 4 0 (L.length + 1) (L.length + 1) (L.length + 1) 1 false]⟩), (4, ⟨.row, lcs L ++ [.imm (ics l) k false]⟩), (5, ⟨.box, [.ref 6 0 (n + 1) (n + 1) (n + 1) 1 false]⟩), (6, ⟨.row, X⟩), (7, ⟨.box, [puK 1 2 5 7]⟩)]) := by
 have hp := ZPX (d := d) hl h0 h9 (ZO L) hL
 rw [Z0b rfl]
 have hks : (mark (ehB l X n L) 1000 (refsL [.ref 0 0 k k k 1 false, .ptr 3 0 1]) []).reverse = [0, 3, 4] := rfl
 have hap : AM.apart [0, 3, 4] = true := rfl
 have e1 : renL (posF [0, 3, 4] 0) [.ref 0 0 k k k 1 false, .ptr 3 0 1] = some [.ref 0 0 k k k 1 false, .ptr 1 0 1] := rfl
 have e2 : foc (posF [0, 3, 4] 0) (ehB l X n L) 0 [0, 3, 4] = some [(0, ⟨.row, ics l⟩), (1, ⟨.box, [.ref 2 0 L.length L.length L.length 1 false]⟩), (2, ⟨.row, lcs L⟩)] := rfl
 have hl2 : ([0, 3, 4] : List Nat).length = 3 := rfl
 have er : List.range 3 = [0, 1, 2] := rfl
 rw [hks]
 unfold focus
 rw [if_pos hap]
 generalize lcs L = A at *
 generalize L.length = m at *
 have hn : newsF [(0, ⟨.froz, ics l⟩), (1, ⟨.box, [.ref 2 0 (m + 1) (m + 1) (m + 1) 1 false]⟩), (2, ⟨.row, A ++ [.imm (ics l) k false]⟩), (69, ⟨.froz, ics l⟩), (70, ⟨.row, [.imm (ics l) k false]⟩)] (.tup []) 3 = [] := rfl
 simp only [e1, e2, hp, backF, hl2, hn, er]
 simp only [List.length_nil, baseF, freeL, AM.apart, if_true, if_false, List.append_nil, ren, renL, unf, outF, posF, List.getElem?_cons_zero, List.getElem?_cons_succ, Nat.reduceLT, goodB, BS.open_, Bool.true_or, Bool.false_or, ehB, Zj, decide_true, Bool.and_self, renB, hl2, upds, Zi, Zl, Nat.reduceEqDiff, Nat.reduceLeDiff, Nat.reduceAdd, reduceCtorEq]
end Go.AM.Ytfmnoohhhokicaa
end
noncomputable section
namespace Go.AM.Ytfmnoohhhokicaa
open Go Go.AM Go.AM.Rub
structure EaA (l xs : List Int) (n : Nat) (new : List (List Int)) (H : AHeap) (id : Nat) (st : BS) : Prop where
 h0 : hget H 0 = some ⟨st, ics l⟩
 st : st = .row ∨ st = .froz
 h1 : hget H 1 = some ⟨.box, [.int .i64 n]⟩
 h2 : hget H 2 = some ⟨.box, [vB 3]⟩
 h3 : hget H 3 = some ⟨.box, [oV id 1 new.length]⟩
 h4 : hget H 4 = some ⟨.box, [.ref 5 0 (n + 1) (n + 1) (n + 1) 1 false]⟩
 h5 : hget H 5 = some ⟨.row, ics xs⟩
 h6 : hget H 6 = some ⟨.box, [puK 1 2 4 6]⟩
 id7 : 7 ≤ id
 hr : 0 < new.length → hget H id = some ⟨.row, lcs new⟩
structure EaB (l xs : List Int) (n : Nat) (L : List (List Int)) (H : AHeap) (st : BS) : Prop where
 h0 : hget H 0 = some ⟨st, ics l⟩
 st : st = .row ∨ st = .froz
 h1 : hget H 1 = some ⟨.box, [.int .i64 n]⟩
 h2 : hget H 2 = some ⟨.box, [vB 3]⟩
 h3 : hget H 3 = some ⟨.box, [.ref 4 0 L.length L.length L.length 1 false]⟩
 h4 : hget H 4 = some ⟨.row, lcs L⟩
 h5 : hget H 5 = some ⟨.box, [.ref 6 0 (n + 1) (n + 1) (n + 1) 1 false]⟩
 h6 : hget H 6 = some ⟨.row, ics xs⟩
 h7 : hget H 7 = some ⟨.box, [puK 1 2 5 7]⟩
structure EaC (d : Nat) (l xs : List Int) (x : Nat → Int) (n k m : Nat) (sum most : Int) : Prop where
 a : ∃ H id st, pF d 116 [.ref 0 0 k k k 1 false, .int .i64 sum, .int .i64 most, .ptr 1 0 1, .ptr 2 0 1, .ptr 4 0 1, .ptr 6 0 1] (ehA l (ics xs) n) 64 = some (.tup [], H) ∧ EaA l xs n (eaR x n m l sum most) H id st
 b : ∀ L : List (List Int), 0 < L.length → L.length + 9 ^ m ≤ 900000 → ∃ H st, pF d 116 [.ref 0 0 k k k 1 false, .int .i64 sum, .int .i64 most, .ptr 1 0 1, .ptr 2 0 1, .ptr 5 0 1, .ptr 7 0 1] (ehB l (ics xs) n L) 64 = some (.tup [], H) ∧ EaB l xs n (L ++ eaR x n m l sum most) H st
theorem newsEA {l xs : List Int} {n : Nat} {new : List (List Int)} {H : AHeap} {id : Nat} {st : BS} (h : EaA l xs n new H id st) : newsF H (.tup []) 7 = if new = [] then [] else [id] := by
 obtain ⟨h0, hs, h1, h2, h3, h4, h5, h6, hi, hr⟩ := h
 have e : refsOf (.tup []) ++ List.range 7 = [0, 1, 2, 3, 4, 5, 6] := rfl
 unfold newsF
 rw [e]
 cases hn : new with
 | nil =>
   subst hn
   rw [if_pos rfl]
   have hv : oV id 1 ([] : List (List Int)).length = .nilsl := rfl
   rw [hv] at h3
   rcases hs with rfl | rfl <;> simp [mark, h0, h1, h2, h3, h4, h5, h6, refsL, refsOf]
 | cons x xs =>
   rw [← hn]
   have hp : 0 < new.length := by rw [hn]; simp
   rw [if_neg (by rw [hn]; simp)]
   rw [ZR hp] at h3
   have hr := hr hp
   have c : ∀ j, j < 7 → (id == j) = false := fun j hj => by rw [beq_eq_false_iff_ne]; omega
   have c' : ∀ j, j < 7 → (j == id) = false := fun j hj => by rw [beq_eq_false_iff_ne]; omega
   have g : ∀ j, j < 7 → ¬ id = j := fun j hj => by omega
   have g' : ∀ j, j < 7 → ¬ j = id := fun j hj => by omega
   have c4 : ¬ id < 7 := by omega
   rcases hs with rfl | rfl <;> simp (disch := omega) [mark, h0, h1, h2, h3, h4, h5, h6, hr, refsL, refsOf, g, g', List.filter_cons, hi]
theorem newsEB {l xs : List Int} {n : Nat} {L : List (List Int)} {H : AHeap} {st : BS} (h : EaB l xs n L H st) : newsF H (.tup []) 8 = [] := by
 obtain ⟨h0, hs, h1, h2, h3, h4, h5, h6, h7⟩ := h
 have e : refsOf (.tup []) ++ List.range 8 = [0, 1, 2, 3, 4, 5, 6, 7] := rfl
 unfold newsF
 rw [e]
 rcases hs with rfl | rfl <;> simp [mark, h0, h1, h2, h3, h4, h5, h6, h7, refsL, refsOf]
end Go.AM.Ytfmnoohhhokicaa
end
noncomputable section
namespace Go.AM.Ytfmnoohhhokicaa
open Go Go.AM Go.AM.Rub
noncomputable section
variable {d : Nat} {l l' xs : List Int} {x : Nat → Int} {n k m : Nat} {sum most : Int} {c : List AV}
theorem Ztt (hC : EaC d l' xs x n k m sum most) : ∃ st, kF d 116 [.ref 120 0 k k k 1 false, .int .i64 sum, .int .i64 most, .ptr 1 0 1, .ptr 2 0 1, .ptr 4 0 1, .ptr 6 0 1]
     [(0, ⟨.row, ics l⟩), (1, ⟨.box, [.int .i64 n]⟩), (2, ⟨.box, [vB 3]⟩), (3, ⟨.box, [.nilsl]⟩), (4, ⟨.box, [.ref 5 0 (n + 1) (n + 1) (n + 1) 1 false]⟩), (5, ⟨.row, ics xs⟩), (6, ⟨.box, [puK 1 2 4 6]⟩), (119, ⟨.row, c⟩), (120, ⟨.row, ics l'⟩)] 560 =
   some (.tup [], (0, ⟨.row, ics l⟩) :: (1, ⟨.box, [.int .i64 n]⟩) :: (2, ⟨.box, [vB 3]⟩) :: (3, ⟨.box, [oV 560 1 (eaR x n m l' sum most).length]⟩) :: (4, ⟨.box, [.ref 5 0 (n + 1) (n + 1) (n + 1) 1 false]⟩) :: (5, ⟨.row, ics xs⟩) :: (6, ⟨.box, [puK 1 2 4 6]⟩) :: (119, ⟨.row, c⟩) :: (120, ⟨st, ics l'⟩) :: oH 560 (lcs (eaR x n m l' sum most))) := by
 obtain ⟨H, id, st, hp, ro⟩ := hC.a
 refine ⟨st, ?_⟩
 rw [Z0b rfl]
 have hks : (mark [(0, ⟨.row, ics l⟩), (1, ⟨.box, [.int .i64 n]⟩), (2, ⟨.box, [vB 3]⟩), (3, ⟨.box, [.nilsl]⟩), (4, ⟨.box, [.ref 5 0 (n + 1) (n + 1) (n + 1) 1 false]⟩), (5, ⟨.row, ics xs⟩), (6, ⟨.box, [puK 1 2 4 6]⟩), (119, ⟨.row, c⟩), (120, ⟨.row, ics l'⟩)] 1000 (refsL [.ref 120 0 k k k 1 false, .int .i64 sum, .int .i64 most, .ptr 1 0 1, .ptr 2 0 1, .ptr 4 0 1, .ptr 6 0 1]) []).reverse = [120, 1, 2, 3, 4, 5, 6] := rfl
 have hap : AM.apart [120, 1, 2, 3, 4, 5, 6] = true := rfl
 have e1 : renL (posF [120, 1, 2, 3, 4, 5, 6] 0) [.ref 120 0 k k k 1 false, .int .i64 sum, .int .i64 most, .ptr 1 0 1, .ptr 2 0 1, .ptr 4 0 1, .ptr 6 0 1] = some [.ref 0 0 k k k 1 false, .int .i64 sum, .int .i64 most, .ptr 1 0 1, .ptr 2 0 1, .ptr 4 0 1, .ptr 6 0 1] := rfl
 have e2 : foc (posF [120, 1, 2, 3, 4, 5, 6] 0) [(0, ⟨.row, ics l⟩), (1, ⟨.box, [.int .i64 n]⟩), (2, ⟨.box, [vB 3]⟩), (3, ⟨.box, [.nilsl]⟩), (4, ⟨.box, [.ref 5 0 (n + 1) (n + 1) (n + 1) 1 false]⟩), (5, ⟨.row, ics xs⟩), (6, ⟨.box, [puK 1 2 4 6]⟩), (119, ⟨.row, c⟩), (120, ⟨.row, ics l'⟩)] 0 [120, 1, 2, 3, 4, 5, 6] = some (ehA l' (ics xs) n) := rfl
 have hn := newsEA ro
 obtain ⟨h0, hs, h1, h2, h3, h4, h5, h6, hi, hr⟩ := ro
 have hl7 : ([120, 1, 2, 3, 4, 5, 6] : List Nat).length = 7 := rfl
 have er : List.range 7 = [0, 1, 2, 3, 4, 5, 6] := rfl
 rw [hks]
 unfold focus
 rw [if_pos hap]
 simp only [e1, e2, hp, backF, hl7, hn, er]
 rcases ocvL 560 (eaR x n m l' sum most) with ⟨hn0, o1, o2⟩ | ⟨hp0, o1, o2⟩
 · rw [o1, o2]
   rw [hn0] at h3
   have hv : oV id 1 ([] : List (List Int)).length = .nilsl := rfl
   rw [hv] at h3
   rcases hs with rfl | rfl <;>
   simp only [hn0, if_true, List.length_nil, baseF, freeL, List.append_nil, AM.apart, ren, renL, unf, outF, posF, h0, h1, h2, h3, h4, h5, h6, List.getElem?_cons_zero, List.getElem?_cons_succ, Nat.reduceLT, goodB, BS.open_, Bool.true_or, Bool.false_or, ehA, Zj, decide_true, Bool.and_self, renB, hl7, upds, Zi, Zl, Nat.reduceEqDiff, Nat.reduceLeDiff, if_true, if_false, Nat.reduceAdd, reduceCtorEq]
 · rw [o1, o2]
   rw [ZR hp0] at h3
   have hr := hr hp0
   have hne : ¬ eaR x n m l' sum most = [] := fun e => by rw [e] at hp0; simp at hp0
   have c7 : ¬ id < 7 := by omega
   have hbase : baseF [(0, ⟨.row, ics l⟩), (1, ⟨.box, [.int .i64 n]⟩), (2, ⟨.box, [vB 3]⟩), (3, ⟨.box, [.nilsl]⟩), (4, ⟨.box, [.ref 5 0 (n + 1) (n + 1) (n + 1) 1 false]⟩), (5, ⟨.row, ics xs⟩), (6, ⟨.box, [puK 1 2 4 6]⟩), (119, ⟨.row, c⟩), (120, ⟨.row, ics l'⟩)] 1 8 560 = some 560 := rfl
   rcases hs with rfl | rfl <;>
   simp only [hne, List.length_cons, List.length_nil, Nat.zero_add, hbase, List.elem_nil, Bool.not_false, List.cons_append, List.nil_append, hr, c7, Nat.add_zero, AM.apart, ren, renL, unf, outF, posF, h0, h1, h2, h3, h4, h5, h6, List.getElem?_cons_zero, List.getElem?_cons_succ, Nat.reduceLT, goodB, BS.open_, Bool.true_or, Bool.false_or, ehA, Zj, decide_true, Bool.and_self, renB, hl7, upds, Zi, Zl, Nat.reduceEqDiff, Nat.reduceLeDiff, if_true, if_false, reduceCtorEq]
theorem Ztc (hC : EaC d l' xs x n k m sum most) {L : List (List Int)} (h0 : 0 < L.length) (h8 : L.length + 9 ^ m ≤ 900000) : ∃ st, kF d 116 [.ref 120 0 k k k 1 false, .int .i64 sum, .int .i64 most, .ptr 1 0 1, .ptr 2 0 1, .ptr 4 0 1, .ptr 6 0 1]
     [(0, ⟨.row, ics l⟩), (1, ⟨.box, [.int .i64 n]⟩), (2, ⟨.box, [vB 3]⟩), (3, ⟨.box, [.ref 560 0 L.length L.length L.length 1 false]⟩), (4, ⟨.box, [.ref 5 0 (n + 1) (n + 1) (n + 1) 1 false]⟩), (5, ⟨.row, ics xs⟩), (6, ⟨.box, [puK 1 2 4 6]⟩), (119, ⟨.row, c⟩), (120, ⟨.row, ics l'⟩), (560, ⟨.row, lcs L⟩)] 560 =
   some (.tup [], [(0, ⟨.row, ics l⟩), (1, ⟨.box, [.int .i64 n]⟩), (2, ⟨.box, [vB 3]⟩), (3, ⟨.box, [.ref 560 0 (L ++ eaR x n m l' sum most).length (L ++ eaR x n m l' sum most).length (L ++ eaR x n m l' sum most).length 1 false]⟩), (4, ⟨.box, [.ref 5 0 (n + 1) (n + 1) (n + 1) 1 false]⟩), (5, ⟨.row, ics xs⟩), (6, ⟨.box, [puK 1 2 4 6]⟩), (119, ⟨.row, c⟩), (120, ⟨st, ics l'⟩), (560, ⟨.row, lcs (L ++ eaR x n m l' sum most)⟩)]) := by
 obtain ⟨H, st, hp, ro⟩ := hC.b L h0 h8
 refine ⟨st, ?_⟩
 rw [Z0b rfl]
 have hks : (mark [(0, ⟨.row, ics l⟩), (1, ⟨.box, [.int .i64 n]⟩), (2, ⟨.box, [vB 3]⟩), (3, ⟨.box, [.ref 560 0 L.length L.length L.length 1 false]⟩), (4, ⟨.box, [.ref 5 0 (n + 1) (n + 1) (n + 1) 1 false]⟩), (5, ⟨.row, ics xs⟩), (6, ⟨.box, [puK 1 2 4 6]⟩), (119, ⟨.row, c⟩), (120, ⟨.row, ics l'⟩), (560, ⟨.row, lcs L⟩)] 1000 (refsL [.ref 120 0 k k k 1 false, .int .i64 sum, .int .i64 most, .ptr 1 0 1, .ptr 2 0 1, .ptr 4 0 1, .ptr 6 0 1]) []).reverse = [120, 1, 2, 3, 560, 4, 5, 6] := rfl
 have hap : AM.apart [120, 1, 2, 3, 560, 4, 5, 6] = true := rfl
 have e1 : renL (posF [120, 1, 2, 3, 560, 4, 5, 6] 0) [.ref 120 0 k k k 1 false, .int .i64 sum, .int .i64 most, .ptr 1 0 1, .ptr 2 0 1, .ptr 4 0 1, .ptr 6 0 1] = some [.ref 0 0 k k k 1 false, .int .i64 sum, .int .i64 most, .ptr 1 0 1, .ptr 2 0 1, .ptr 5 0 1, .ptr 7 0 1] := rfl
 have e2 : foc (posF [120, 1, 2, 3, 560, 4, 5, 6] 0) [(0, ⟨.row, ics l⟩), (1, ⟨.box, [.int .i64 n]⟩), (2, ⟨.box, [vB 3]⟩), (3, ⟨.box, [.ref 560 0 L.length L.length L.length 1 false]⟩), (4, ⟨.box, [.ref 5 0 (n + 1) (n + 1) (n + 1) 1 false]⟩), (5, ⟨.row, ics xs⟩), (6, ⟨.box, [puK 1 2 4 6]⟩), (119, ⟨.row, c⟩), (120, ⟨.row, ics l'⟩), (560, ⟨.row, lcs L⟩)] 0 [120, 1, 2, 3, 560, 4, 5, 6] = some (ehB l' (ics xs) n L) := rfl
 have hn := newsEB ro
 obtain ⟨h0, hs, h1, h2, h3, h4, h5, h6, h7⟩ := ro
 have hl7 : ([120, 1, 2, 3, 560, 4, 5, 6] : List Nat).length = 8 := rfl
 have er : List.range 8 = [0, 1, 2, 3, 4, 5, 6, 7] := rfl
 rw [hks]
 unfold focus
 rw [if_pos hap]
 simp only [e1, e2, hp, backF, hl7, hn, er]
 rcases hs with rfl | rfl <;>
 simp only [List.length_nil, baseF, freeL, List.append_nil, h7, AM.apart, ren, renL, unf, outF, posF, h0, h1, h2, h3, h4, h5, h6, List.getElem?_cons_zero, List.getElem?_cons_succ, Nat.reduceLT, goodB, BS.open_, Bool.true_or, Bool.false_or, ehB, Zj, decide_true, Bool.and_self, renB, hl7, upds, Zi, Zl, Nat.reduceEqDiff, Nat.reduceLeDiff, if_true, if_false, Nat.reduceAdd, reduceCtorEq]
theorem ZxZ (hC : EaC d l' xs x n k m sum most) {L : List (List Int)} (h0 : 0 < L.length) (h8 : L.length + 9 ^ m ≤ 900000) : ∃ st, kF d 116 [.ref 120 0 k k k 1 false, .int .i64 sum, .int .i64 most, .ptr 1 0 1, .ptr 2 0 1, .ptr 5 0 1, .ptr 7 0 1]
     [(0, ⟨.row, ics l⟩), (1, ⟨.box, [.int .i64 n]⟩), (2, ⟨.box, [vB 3]⟩), (3, ⟨.box, [.ref 4 0 L.length L.length L.length 1 false]⟩), (4, ⟨.row, lcs L⟩), (5, ⟨.box, [.ref 6 0 (n + 1) (n + 1) (n + 1) 1 false]⟩), (6, ⟨.row, ics xs⟩), (7, ⟨.box, [puK 1 2 5 7]⟩), (119, ⟨.row, c⟩), (120, ⟨.row, ics l'⟩)] 560 =
   some (.tup [], [(0, ⟨.row, ics l⟩), (1, ⟨.box, [.int .i64 n]⟩), (2, ⟨.box, [vB 3]⟩), (3, ⟨.box, [.ref 4 0 (L ++ eaR x n m l' sum most).length (L ++ eaR x n m l' sum most).length (L ++ eaR x n m l' sum most).length 1 false]⟩), (4, ⟨.row, lcs (L ++ eaR x n m l' sum most)⟩), (5, ⟨.box, [.ref 6 0 (n + 1) (n + 1) (n + 1) 1 false]⟩), (6, ⟨.row, ics xs⟩), (7, ⟨.box, [puK 1 2 5 7]⟩), (119, ⟨.row, c⟩), (120, ⟨st, ics l'⟩)]) := by
 obtain ⟨H, st, hp, ro⟩ := hC.b L h0 h8
 refine ⟨st, ?_⟩
 rw [Z0b rfl]
 have hks : (mark [(0, ⟨.row, ics l⟩), (1, ⟨.box, [.int .i64 n]⟩), (2, ⟨.box, [vB 3]⟩), (3, ⟨.box, [.ref 4 0 L.length L.length L.length 1 false]⟩), (4, ⟨.row, lcs L⟩), (5, ⟨.box, [.ref 6 0 (n + 1) (n + 1) (n + 1) 1 false]⟩), (6, ⟨.row, ics xs⟩), (7, ⟨.box, [puK 1 2 5 7]⟩), (119, ⟨.row, c⟩), (120, ⟨.row, ics l'⟩)] 1000 (refsL [.ref 120 0 k k k 1 false, .int .i64 sum, .int .i64 most, .ptr 1 0 1, .ptr 2 0 1, .ptr 5 0 1, .ptr 7 0 1]) []).reverse = [120, 1, 2, 3, 4, 5, 6, 7] := rfl
 have hap : AM.apart [120, 1, 2, 3, 4, 5, 6, 7] = true := rfl
 have e1 : renL (posF [120, 1, 2, 3, 4, 5, 6, 7] 0) [.ref 120 0 k k k 1 false, .int .i64 sum, .int .i64 most, .ptr 1 0 1, .ptr 2 0 1, .ptr 5 0 1, .ptr 7 0 1] = some [.ref 0 0 k k k 1 false, .int .i64 sum, .int .i64 most, .ptr 1 0 1, .ptr 2 0 1, .ptr 5 0 1, .ptr 7 0 1] := rfl
 have e2 : foc (posF [120, 1, 2, 3, 4, 5, 6, 7] 0) [(0, ⟨.row, ics l⟩), (1, ⟨.box, [.int .i64 n]⟩), (2, ⟨.box, [vB 3]⟩), (3, ⟨.box, [.ref 4 0 L.length L.length L.length 1 false]⟩), (4, ⟨.row, lcs L⟩), (5, ⟨.box, [.ref 6 0 (n + 1) (n + 1) (n + 1) 1 false]⟩), (6, ⟨.row, ics xs⟩), (7, ⟨.box, [puK 1 2 5 7]⟩), (119, ⟨.row, c⟩), (120, ⟨.row, ics l'⟩)] 0 [120, 1, 2, 3, 4, 5, 6, 7] = some (ehB l' (ics xs) n L) := rfl
 have hn := newsEB ro
 obtain ⟨h0, hs, h1, h2, h3, h4, h5, h6, h7⟩ := ro
 have hl7 : ([120, 1, 2, 3, 4, 5, 6, 7] : List Nat).length = 8 := rfl
 have er : List.range 8 = [0, 1, 2, 3, 4, 5, 6, 7] := rfl
 rw [hks]
 unfold focus
 rw [if_pos hap]
 simp only [e1, e2, hp, backF, hl7, hn, er]
 rcases hs with rfl | rfl <;>
 simp only [List.length_nil, baseF, freeL, List.append_nil, h7, AM.apart, ren, renL, unf, outF, posF, h0, h1, h2, h3, h4, h5, h6, List.getElem?_cons_zero, List.getElem?_cons_succ, Nat.reduceLT, goodB, BS.open_, Bool.true_or, Bool.false_or, ehB, Zj, decide_true, Bool.and_self, renB, hl7, upds, Zi, Zl, Nat.reduceEqDiff, Nat.reduceLeDiff, if_true, if_false, Nat.reduceAdd, reduceCtorEq]
end
end Go.AM.Ytfmnoohhhokicaa
end
noncomputable section
namespace Go.AM.Ytfmnoohhhokicaa
open Go Go.AM Go.AM.Rub
theorem Zog (caps args : List AV) : mutV E (.clo 93 caps) args = some (93, args ++ caps) := rfl
theorem Z0U (caps args : List AV) : mutV E (.clo 116 caps) args = some (116, args ++ caps) := rfl
theorem mulb {t : Int} {m : Nat} (h : -1000 ≤ t ∧ t ≤ 1000) (hm : m ≤ 8) : -8000 ≤ t * (m : Int) ∧ t * (m : Int) ≤ 8000 := by
 rcases (by omega : m = 0 ∨ m = 1 ∨ m = 2 ∨ m = 3 ∨ m = 4 ∨ m = 5 ∨ m = 6 ∨ m = 7 ∨ m = 8) with rfl | rfl | rfl | rfl | rfl | rfl | rfl | rfl | rfl <;> omega
theorem ZFG {d : Nat} {l xs : List Int} {x : Nat → Int} {n : Nat} {sum most : Int} (hl : l.length = n) (h0 : 0 < n) (h9 : n ≤ 100) : EaC (d + 3) l xs x n n 0 sum most := by
 have hlen : (ics l).length = n := by rw [Z7, hl]
 have em : AV.imm (ics l) n false = .imm (ics l) l.length false := by rw [hl]
 constructor
 · rw [pF_s]
   have hc := ZsX (d := d) (X := ics xs) (n := n) hl h0 h9
   have e : lcs [l] = [.imm (ics l) n false] := by show [AV.imm (ics l) l.length false] = _; rw [hl]
   simp only [ehA] at hc ⊢
   have e2 : eaR x n 0 l sum most = [l] := rfl
   rw [e2]
   generalize kF (d + 2) = C at *
   simp (disch := omega) only [ZF, Z3, stp, just, Rd.bind, Rd.run, Rd.opt, upds, rdCells, aLoad, resA, resL, aLen, Z1, aBin, aInt, Nat.reduceAdd, Nat.reduceMul, Nat.reduceBEq, Nat.reduceEqDiff, Nat.reduceLeDiff, ↓reduceIte, reduceCtorEq, mutX, ZT, ZG, callV, Zog, hlen, hc]
   exact ⟨_, 560, .froz, rfl, ⟨rfl, .inr rfl, rfl, rfl, rfl, rfl, rfl, rfl, by omega, fun _ => by rw [e]; rfl⟩⟩
 · intro L hp h8
   rw [pF_s]
   have hc := Ztx (d := d) (X := ics xs) (n := n) (L := L) hl h0 h9 (by omega)
   simp only [ehB] at hc ⊢
   have e2 : eaR x n 0 l sum most = [l] := rfl
   have hsn := Zef L l
   rw [← em] at hsn
   rw [e2]
   have key : ∃ H st, bodyA E (kF (d + 2)) fg 1000000 116 [.ref 0 0 n n n 1 false, .int .i64 sum, .int .i64 most, .ptr 1 0 1, .ptr 2 0 1, .ptr 5 0 1, .ptr 7 0 1] (ehB l (ics xs) n L) 64 = some (.tup [], H) ∧
     (hget H 0 = some ⟨st, ics l⟩ ∧ (st = .row ∨ st = .froz) ∧ hget H 1 = some ⟨.box, [.int .i64 n]⟩ ∧ hget H 2 = some ⟨.box, [vB 3]⟩ ∧ hget H 3 = some ⟨.box, [.ref 4 0 (L.length + 1) (L.length + 1) (L.length + 1) 1 false]⟩ ∧ hget H 4 = some ⟨.row, lcs L ++ [.imm (ics l) n false]⟩ ∧ hget H 5 = some ⟨.box, [.ref 6 0 (n + 1) (n + 1) (n + 1) 1 false]⟩ ∧ hget H 6 = some ⟨.row, ics xs⟩ ∧ hget H 7 = some ⟨.box, [puK 1 2 5 7]⟩) := by
     simp only [ehB]
     generalize lcs L = A at *
     generalize L.length = m at *
     generalize kF (d + 2) = C at *
     simp (disch := omega) only [ZF, Z3, stp, just, Rd.bind, Rd.run, Rd.opt, upds, rdCells, aLoad, resA, resL, aLen, Z1, aBin, aInt, Nat.reduceAdd, Nat.reduceMul, Nat.reduceBEq, Nat.reduceEqDiff, Nat.reduceLeDiff, ↓reduceIte, reduceCtorEq, mutX, ZT, ZG, callV, Zog, hlen, hc]
     exact ⟨_, .froz, rfl, rfl, .inr rfl, rfl, rfl, rfl, rfl, rfl, rfl, rfl⟩
   obtain ⟨H, st, p1, p2, p3, p4, p5, p6, p7, p8, p9, p10⟩ := key
   refine ⟨H, st, p1, ⟨p2, p3, p4, p5, by rw [List.length_append]; exact p6, by rw [← hsn]; exact p7, p8, p9, p10⟩⟩
abbrev esA (l xs : List Int) (n k : Nat) (sum left t : Int) (L : List (List Int)) : St :=
 ([(12, .int .i64 t), (11, .int .i64 left), (10, .int .i64 k), (6, .ptr 6 0 1), (3, .ptr 1 0 1), (1, .int .i64 sum), (0, .ref 0 0 k k k 1 false)], (0, ⟨.row, ics l⟩) :: (1, ⟨.box, [.int .i64 n]⟩) :: (2, ⟨.box, [vB 3]⟩) :: (3, ⟨.box, [oV 560 1 L.length]⟩) :: (4, ⟨.box, [.ref 5 0 (n + 1) (n + 1) (n + 1) 1 false]⟩) :: (5, ⟨.row, ics xs⟩) :: (6, ⟨.box, [puK 1 2 4 6]⟩) :: oH 560 (lcs L))
abbrev esB (l xs : List Int) (n k : Nat) (sum left t : Int) (L : List (List Int)) : St :=
 ([(12, .int .i64 t), (11, .int .i64 left), (10, .int .i64 k), (6, .ptr 7 0 1), (3, .ptr 1 0 1), (1, .int .i64 sum), (0, .ref 0 0 k k k 1 false)], [(0, ⟨.row, ics l⟩), (1, ⟨.box, [.int .i64 n]⟩), (2, ⟨.box, [vB 3]⟩), (3, ⟨.box, [.ref 4 0 L.length L.length L.length 1 false]⟩), (4, ⟨.row, lcs L⟩), (5, ⟨.box, [.ref 6 0 (n + 1) (n + 1) (n + 1) 1 false]⟩), (6, ⟨.row, ics xs⟩), (7, ⟨.box, [puK 1 2 5 7]⟩)])
theorem ZKv {d : Nat} {l xs : List Int} {x : Nat → Int} {n k m : Nat} {sum left t : Int} (hl : l.length = k) (hk : k + (m + 1) = n) (h9 : n ≤ 8) (ht : -1000 ≤ t ∧ t ≤ 1000) (hs : -1000 ≤ sum ∧ sum ≤ 1000) (g : t * ((m + 1 : Nat) : Int) ≥ left ∧ t ≥ 0) (hC : EaC d (l ++ [t]) xs x n (k + 1) m (sum + t) t) (L : List (List Int)) (h8 : L.length + 9 ^ m ≤ 900000) :
   ∃ s', execA E (kF d) (fg 116) 64 62 (ehA l (ics xs) n) 1000000 ZY (esA l xs n k sum left t L) = some (.normal, s') ∧ headA (ehA l (ics xs) n) s' = esA l xs n k sum left (t - 1) (L ++ eaR x n m (l ++ [t]) (sum + t) t) := by
 have hlen : (ics l).length = k := by rw [Z7, hl]
 have htk : List.take k (ics l) = ics l := List.take_of_length_le (by omega)
 have hsn := Z1b l t
 obtain ⟨g1, g2⟩ := g
 have hnk : wrp .i64 ((n : Int) - k) = ((m + 1 : Nat) : Int) := by rw [Z9 (by omega)]; omega
 have hb := mulb (m := m + 1) ht (by omega)
 obtain ⟨P, hP⟩ : ∃ P, t * ((m + 1 : Nat) : Int) = P := ⟨_, rfl⟩
 rw [hP] at g1 hb
 have w0 : wrp .i64 (t * ((m + 1 : Nat) : Int)) = P := by rw [hP]; exact Z9 (by omega)
 clear hP
 have w1 : wrp .i64 (sum + t) = sum + t := Z9 (by omega)
 have w2 : wrp .i64 (t - 1) = t - 1 := Z9 (by omega)
 have gk : (0 : Int) ≤ (k : Int) ∧ (k : Int) ≤ (k : Int) := by omega
 have hno : ¬ k + 1 ≤ k := by omega
 generalize ((m + 1 : Nat) : Int) = M at *
 rcases ocvL 560 L with ⟨hn0, o1, o2⟩ | ⟨hp0, o1, o2⟩
 · obtain ⟨st, hc⟩ := Ztt (l := l) (c := [.int .i64 t]) hC
   subst hn0
   rw [List.nil_append]
   simp only [esA, ehA]
   rw [o1, o2]
   rw [← hsn] at hc
   generalize eaR x n m (l ++ [t]) (sum + t) t = new at *
   generalize kF d = C at *
   rcases ocvL 560 new with ⟨hn1, p1, p2⟩ | ⟨hp1, p1, p2⟩ <;> rw [p1, p2] at hc ⊢ <;>
     simp (disch := omega) only [ZF, ↓gd, stp, opPick, just, Rd.bind, Rd.run, Rd.opt, upds, acells, zeroCells, tsz, elemT, rdCells, aLoad, fresh, aNum, Z1, aBin, aInt, putC, evO, Nat.reduceAdd, Nat.reduceMul, Nat.reduceLT, Nat.reduceBEq, Nat.reduceEqDiff, Nat.reduceLeDiff, ↓reduceIte, reduceCtorEq, stpT, Rd.foot, writing, Zb, Tr.empty, Zd, apartT, disj, Z6, Zg, partsOf, fillA, repC, Zh, aAppend, srcOf, window, mutX, snaps, aSlice, aBounds, bMax, bHigh, bLow, ZT, ZG, callVT, Z0U, hlen, htk, hno, g1, g2, hnk, w0, w1, w2, gk, hc, Z01 (show k + 1 ≤ 1000000 by omega)] <;> exact ⟨_, rfl, rfl⟩
 · obtain ⟨st, hc⟩ := Ztc (l := l) (c := [.int .i64 t]) hC hp0 h8
   simp only [esA, ehA]
   rw [o1, o2, ZR (show 0 < (L ++ eaR x n m (l ++ [t]) (sum + t) t).length by rw [List.length_append]; omega), Z3e (show 0 < (L ++ eaR x n m (l ++ [t]) (sum + t) t).length by rw [List.length_append]; omega)]
   rw [← hsn] at hc
   generalize L ++ eaR x n m (l ++ [t]) (sum + t) t = new at *
   generalize lcs new = LN at *
   generalize new.length = nn at *
   generalize lcs L = LL at *
   generalize L.length = ll at *
   generalize kF d = C at *
   simp (disch := omega) only [ZF, ↓gd, stp, opPick, just, Rd.bind, Rd.run, Rd.opt, upds, acells, zeroCells, tsz, elemT, rdCells, aLoad, fresh, aNum, Z1, aBin, aInt, putC, evO, Nat.reduceAdd, Nat.reduceMul, Nat.reduceLT, Nat.reduceBEq, Nat.reduceEqDiff, Nat.reduceLeDiff, ↓reduceIte, reduceCtorEq, stpT, Rd.foot, writing, Zb, Tr.empty, Zd, apartT, disj, Z6, Zg, partsOf, fillA, repC, Zh, aAppend, srcOf, window, mutX, snaps, aSlice, aBounds, bMax, bHigh, bLow, ZT, ZG, callVT, Z0U, hlen, htk, hno, g1, g2, hnk, w0, w1, w2, gk, hc, Z01 (show k + 1 ≤ 1000000 by omega)]
   exact ⟨_, rfl, rfl⟩
theorem ZLo {d : Nat} {l xs : List Int} {x : Nat → Int} {n k m : Nat} {sum left t : Int} (hl : l.length = k) (hk : k + (m + 1) = n) (h9 : n ≤ 8) (ht : -1000 ≤ t ∧ t ≤ 1000) (hs : -1000 ≤ sum ∧ sum ≤ 1000) (g : t * ((m + 1 : Nat) : Int) ≥ left ∧ t ≥ 0) (hC : EaC d (l ++ [t]) xs x n (k + 1) m (sum + t) t) (L0 L : List (List Int)) (hp0 : 0 < L.length) (h8 : L.length + 9 ^ m ≤ 900000) :
   ∃ s', execA E (kF d) (fg 116) 64 62 (ehB l (ics xs) n L0) 1000000 ZY (esB l xs n k sum left t L) = some (.normal, s') ∧ headA (ehB l (ics xs) n L0) s' = esB l xs n k sum left (t - 1) (L ++ eaR x n m (l ++ [t]) (sum + t) t) := by
 have hlen : (ics l).length = k := by rw [Z7, hl]
 have htk : List.take k (ics l) = ics l := List.take_of_length_le (by omega)
 have hsn := Z1b l t
 obtain ⟨g1, g2⟩ := g
 have hnk : wrp .i64 ((n : Int) - k) = ((m + 1 : Nat) : Int) := by rw [Z9 (by omega)]; omega
 have hb := mulb (m := m + 1) ht (by omega)
 obtain ⟨P, hP⟩ : ∃ P, t * ((m + 1 : Nat) : Int) = P := ⟨_, rfl⟩
 rw [hP] at g1 hb
 have w0 : wrp .i64 (t * ((m + 1 : Nat) : Int)) = P := by rw [hP]; exact Z9 (by omega)
 clear hP
 have w1 : wrp .i64 (sum + t) = sum + t := Z9 (by omega)
 have w2 : wrp .i64 (t - 1) = t - 1 := Z9 (by omega)
 have gk : (0 : Int) ≤ (k : Int) ∧ (k : Int) ≤ (k : Int) := by omega
 have hno : ¬ k + 1 ≤ k := by omega
 generalize ((m + 1 : Nat) : Int) = M at *
 obtain ⟨st, hc⟩ := ZxZ (l := l) (c := [.int .i64 t]) hC hp0 h8
 simp only [esB, ehB]
 rw [← hsn] at hc
 generalize L ++ eaR x n m (l ++ [t]) (sum + t) t = new at *
 generalize lcs new = LN at *
 generalize new.length = nn at *
 generalize lcs L = LL at *
 generalize L.length = ll at *
 generalize lcs L0 = LL0 at *
 generalize L0.length = l0 at *
 generalize kF d = C at *
 simp (disch := omega) only [ZF, ↓gd, stp, opPick, just, Rd.bind, Rd.run, Rd.opt, upds, acells, zeroCells, tsz, elemT, rdCells, aLoad, fresh, aNum, Z1, aBin, aInt, putC, evO, Nat.reduceAdd, Nat.reduceMul, Nat.reduceLT, Nat.reduceBEq, Nat.reduceEqDiff, Nat.reduceLeDiff, ↓reduceIte, reduceCtorEq, stpT, Rd.foot, writing, Zb, Tr.empty, Zd, apartT, disj, Z6, Zg, partsOf, fillA, repC, Zh, aAppend, srcOf, window, mutX, snaps, aSlice, aBounds, bMax, bHigh, bLow, ZT, ZG, callVT, Z0U, hlen, htk, hno, g1, g2, hnk, w0, w1, w2, gk, hc, Z01 (show k + 1 ≤ 1000000 by omega)]
 exact ⟨_, rfl, rfl⟩
end Go.AM.Ytfmnoohhhokicaa
end
noncomputable section
namespace Go.AM.Ytfmnoohhhokicaa
open Go Go.AM Go.AM.Rub
theorem nineA {N a : Nat} (h1 : a ≤ 8 * N) (h2 : 9 * N ≤ 531441) : a + N ≤ 900000 := by omega
theorem nineB {N a b : Nat} (h : b + 9 * N ≤ 900000) (h1 : a ≤ 8 * N) : b + a + N ≤ 900000 := by omega
theorem ZqK {d n : Nat} {xs : List Int} {x : Nat → Int} (hn0 : 0 < n) (h6 : n ≤ 6) (hxl : xs.length = n + 1) (hxx : ∀ j, j ≤ n → (ics xs)[j]? = some (.int .i64 (x j))) (hxb : ∀ j, j ≤ n → 0 ≤ x j ∧ x j ≤ 500) : ∀ (m : Nat) (l : List Int) (k : Nat) (sum most : Int), l.length = k → k + m = n → 0 ≤ sum ∧ sum ≤ 8 * k → 0 ≤ most ∧ most ≤ 8 → EaC (d + m + 3) l xs x n k m sum most
 | 0, l, k, sum, most, hl, hk, _, _ => by
   rw [Nat.add_zero] at hk
   subst hk
   exact ZFG hl hn0 (by omega)
 | m + 1, l, k, sum, most, hl, hk, hs, hm => by
   have hb1 := hxb (k + 1) (by omega)
   have hbn := hxb n (Nat.le_refl _)
   obtain ⟨t0, ht0⟩ : ∃ t0 : Int, min most (x (k + 1) - sum) = t0 := ⟨_, rfl⟩
   have ht8 : t0 ≤ 8 := by omega
   have ht1 : t0 < ((100 : Nat) : Int) := by omega
   have hc9 := Z3b (x n - sum) (m + 1) 100 t0 ht8
   obtain ⟨hin, hout⟩ := Z1e (x n - sum) (m + 1) 100 t0 ht1
   clear ht1
   obtain ⟨c, hcc⟩ : ∃ c : Nat, cntE (x n - sum) (m + 1) 100 t0 = c := ⟨_, rfl⟩
   rw [hcc] at hin hout hc9
   have hall : eaP x n m l sum t0 c = eaR x n (m + 1) l sum most := by rw [Z1y, hl, ht0, hcc]
   clear hcc
   have hrec : ∀ j : Nat, j < c → EaC (d + m + 3) (l ++ [t0 - j]) xs x n (k + 1) m (sum + (t0 - j)) (t0 - j) := fun j hj => by
     have := (hin j hj).2
     exact ZqK hn0 h6 hxl hxx hxb m (l ++ [t0 - j]) (k + 1) (sum + (t0 - j)) (t0 - j) (by simp [hl]) (by omega) (by omega) (by omega)
   have hlen : (ics l).length = k := by rw [Z7, hl]
   have hxlen : (ics xs).length = n + 1 := by rw [Z7, hxl]
   have hx1 : (ics xs)[k + 1]? = some (.int .i64 (x (k + 1))) := hxx (k + 1) (by omega)
   have hxn : (ics xs)[n]? = some (.int .i64 (x n)) := hxx n (Nat.le_refl _)
   have gk : ¬ (k : Int) = n := by omega
   have gk' : ((k : Int) == n) = false := by rw [beq_eq_false_iff_ne]; exact gk
   have b1 : (0 : Int) ≤ ((k + 1 : Nat) : Int) ∧ ((k + 1 : Nat) : Int) < ((n + 1 : Nat) : Int) := by omega
   have bn : (0 : Int) ≤ (n : Int) ∧ (n : Int) < ((n + 1 : Nat) : Int) := by omega
   have w1 : ∀ _ : Unit, wrp .i64 (x n - sum) = x n - sum := fun _ => Z9 (by omega)
   have w2 : ∀ _ : Unit, wrp .i64 (x (k + 1) - sum) = x (k + 1) - sum := fun _ => Z9 (by omega)
   have w3 : ∀ _ : Unit, wrp .i64 ((k : Int) + 1) = ((k + 1 : Nat) : Int) := fun _ => by rw [Z9 (by omega)]; omega
   have emin : (if x (k + 1) - sum < most then x (k + 1) - sum else most) = t0 := by rw [← ht0]; split <;> omega
   have e2 : ∀ j : Nat, t0 - ((j + 1 : Nat) : Int) = t0 - j - 1 := fun j => by omega
   have z0 : t0 - ((0 : Nat) : Int) = t0 := by omega
   have hnk : ∀ _ : Unit, wrp .i64 ((n : Int) - k) = ((m + 1 : Nat) : Int) := fun _ => by rw [Z9 (by omega)]; omega
   have hmb := mulb (t := t0 - c) (m := m + 1) (by omega) (by omega)
   obtain ⟨P, hP⟩ : ∃ P, (t0 - c) * ((m + 1 : Nat) : Int) = P := ⟨_, rfl⟩
   rw [hP] at hout hmb
   have w0 : ∀ _ : Unit, wrp .i64 ((t0 - c) * ((m + 1 : Nat) : Int)) = P := fun _ => by rw [hP]; exact Z9 (by omega)
   clear hP
   have h9c : ∀ _ : Unit, 9 ^ (m + 1) ≤ 531441 := fun _ => by have := Nat.pow_le_pow_right (n := 9) (by omega) (show m + 1 ≤ 6 by omega); omega
   have h9s : 9 ^ (m + 1) = 9 * 9 ^ m := by rw [Nat.pow_succ, Nat.mul_comm]
   have hfl : ∀ j, j < c → (eaP x n m l sum t0 j).length ≤ 8 * 9 ^ m := fun j hj => Nat.le_trans (Z3a x n m l sum t0 ht8 j) (Nat.mul_le_mul_right _ (by omega))
   have hA8 : ∀ j, j < c → (eaP x n m l sum t0 j).length + 9 ^ m ≤ 900000 := fun j hj => nineA (hfl j hj) (by rw [← h9s]; exact h9c ())
   have hB8 : ∀ (L : List (List Int)) j, L.length + 9 ^ (m + 1) ≤ 900000 → j < c → (L ++ eaP x n m l sum t0 j).length + 9 ^ m ≤ 900000 := fun L j h hj => by
     rw [List.length_append]
     rw [h9s] at h
     exact nineB h (hfl j hj)
   clear h9s
   constructor
   · rw [show d + (m + 1) + 3 = (d + m + 3) + 1 by omega, pF_s]
     have hloop := loopM (f := execA E (kF (d + m + 3)) (fg 116) 64 62 (ehA l (ics xs) n) 1000000 ZY) (E0 := ehA l (ics xs) n) (fun j => esA l xs n k sum (x n - sum) (t0 - j) (eaP x n m l sum t0 j)) c (fun j hj => by
         simp only [Z19, e2]
         exact ZKv hl hk (by omega) (by omega) (by omega) (hin j hj) (hrec j hj) (eaP x n m l sum t0 j) (hA8 j hj)) (by
         have e0 : eaP x n m l sum t0 0 = [] := rfl
         simp only [esA, e0]; rfl) (by omega)
       (e := .exit 0) (se := ([(46, .bool false), (12, .int .i64 (t0 - c)), (11, .int .i64 (x n - sum)), (10, .int .i64 k), (6, .ptr 6 0 1), (3, .ptr 1 0 1), (1, .int .i64 sum), (0, .ref 0 0 k k k 1 false)], (0, ⟨.row, ics l⟩) :: (1, ⟨.box, [.int .i64 n]⟩) :: (2, ⟨.box, [vB 3]⟩) :: (3, ⟨.box, [oV 560 1 (eaR x n (m + 1) l sum most).length]⟩) :: (4, ⟨.box, [.ref 5 0 (n + 1) (n + 1) (n + 1) 1 false]⟩) :: (5, ⟨.row, ics xs⟩) :: (6, ⟨.box, [puK 1 2 4 6]⟩) :: oH 560 (lcs (eaR x n (m + 1) l sum most))))
       (by
         simp only [esA, hall, ehA]
         generalize x n - sum = lf at *
         by_cases g1 : P ≥ lf
         · have g2 : ¬ t0 - c ≥ 0 := fun h => hout ⟨g1, h⟩
           rcases ocvL 560 (eaR x n (m + 1) l sum most) with ⟨_, o1, o2⟩ | ⟨_, o1, o2⟩ <;> rw [o1, o2] <;>
             simp (disch := omega) only [ZF, ↓gd, stp, opPick, just, Rd.bind, Rd.run, Rd.opt, upds, rdCells, aLoad, aBin, aInt, Nat.reduceBEq, Nat.reduceEqDiff, Nat.reduceLeDiff, ↓reduceIte, reduceCtorEq, ZT, ZG, hnk (), w0 (), g1, g2]
         · rcases ocvL 560 (eaR x n (m + 1) l sum most) with ⟨_, o1, o2⟩ | ⟨_, o1, o2⟩ <;> rw [o1, o2] <;>
             simp (disch := omega) only [ZF, ↓gd, stp, opPick, just, Rd.bind, Rd.run, Rd.opt, upds, rdCells, aLoad, aBin, aInt, Nat.reduceBEq, Nat.reduceEqDiff, Nat.reduceLeDiff, ↓reduceIte, reduceCtorEq, ZT, ZG, hnk (), w0 (), g1]) (by simp)
     have e0 : eaP x n m l sum t0 0 = [] := rfl
     have v0 : oV 560 1 ([] : List (List Int)).length = .nilsl := rfl
     have o0 : oH 560 (lcs []) = [] := rfl
     simp only [esA, e0, v0, o0, z0, ehA] at hloop
     simp only [ehA]
     generalize eaR x n (m + 1) l sum most = R at *
     generalize kF (d + m + 3) = C at *
     rcases ocvL 560 R with ⟨hn1, o1, o2⟩ | ⟨hp1, o1, o2⟩ <;> rw [o1, o2] at hloop
     · simp (disch := omega) only [ZF, Z3, stp, justO, just, Rd.bind, Rd.run, Rd.opt, upds, tsz, rdCells, aLoad, resA, resL, Z4, aNum, aLen, Z1, aMin, aBin, aInt, Nat.reduceAdd, Nat.reduceMul, Nat.reduceLT, Nat.reduceBEq, Nat.reduceEqDiff, Nat.reduceLeDiff, ↓reduceIte, reduceCtorEq, ZT, ZG, hlen, hxlen, hx1, hxn, w1 (), w2 (), w3 (), b1, bn, gk', emin, hloop]
       exact ⟨_, 560, .row, rfl, ⟨rfl, .inl rfl, rfl, rfl, by rw [o1]; rfl, rfl, rfl, rfl, by omega, fun h => by rw [hn1] at h; simp at h⟩⟩
     · simp (disch := omega) only [ZF, Z3, stp, justO, just, Rd.bind, Rd.run, Rd.opt, upds, tsz, rdCells, aLoad, resA, resL, Z4, aNum, aLen, Z1, aMin, aBin, aInt, Nat.reduceAdd, Nat.reduceMul, Nat.reduceLT, Nat.reduceBEq, Nat.reduceEqDiff, Nat.reduceLeDiff, ↓reduceIte, reduceCtorEq, ZT, ZG, hlen, hxlen, hx1, hxn, w1 (), w2 (), w3 (), b1, bn, gk', emin, hloop]
       exact ⟨_, 560, .row, rfl, ⟨rfl, .inl rfl, rfl, rfl, by rw [o1]; rfl, rfl, rfl, rfl, by omega, fun h => rfl⟩⟩
   · intro L h0 h8
     rw [show d + (m + 1) + 3 = (d + m + 3) + 1 by omega, pF_s]
     have hloop := loopM (f := execA E (kF (d + m + 3)) (fg 116) 64 62 (ehB l (ics xs) n L) 1000000 ZY) (E0 := ehB l (ics xs) n L) (fun j => esB l xs n k sum (x n - sum) (t0 - j) (L ++ eaP x n m l sum t0 j)) c (fun j hj => by
         simp only [Z19, e2, ← List.append_assoc]
         exact ZLo hl hk (by omega) (by omega) (by omega) (hin j hj) (hrec j hj) L (L ++ eaP x n m l sum t0 j) (by rw [List.length_append]; omega) (hB8 L j h8 hj)) (Z25 (by simp [ehB, Zj])) (by omega)
       (e := .exit 0) (se := ([(46, .bool false), (12, .int .i64 (t0 - c)), (11, .int .i64 (x n - sum)), (10, .int .i64 k), (6, .ptr 7 0 1), (3, .ptr 1 0 1), (1, .int .i64 sum), (0, .ref 0 0 k k k 1 false)], [(0, ⟨.row, ics l⟩), (1, ⟨.box, [.int .i64 n]⟩), (2, ⟨.box, [vB 3]⟩), (3, ⟨.box, [.ref 4 0 (L ++ eaR x n (m + 1) l sum most).length (L ++ eaR x n (m + 1) l sum most).length (L ++ eaR x n (m + 1) l sum most).length 1 false]⟩), (4, ⟨.row, lcs (L ++ eaR x n (m + 1) l sum most)⟩), (5, ⟨.box, [.ref 6 0 (n + 1) (n + 1) (n + 1) 1 false]⟩), (6, ⟨.row, ics xs⟩), (7, ⟨.box, [puK 1 2 5 7]⟩)]))
       (by
         simp only [esB, hall, ehB]
         generalize x n - sum = lf at *
         by_cases g1 : P ≥ lf
         · have g2 : ¬ t0 - c ≥ 0 := fun h => hout ⟨g1, h⟩
           simp (disch := omega) only [ZF, ↓gd, stp, opPick, just, Rd.bind, Rd.run, Rd.opt, upds, rdCells, aLoad, aBin, aInt, Nat.reduceBEq, Nat.reduceEqDiff, Nat.reduceLeDiff, ↓reduceIte, reduceCtorEq, ZT, ZG, hnk (), w0 (), g1, g2]
         · simp (disch := omega) only [ZF, ↓gd, stp, opPick, just, Rd.bind, Rd.run, Rd.opt, upds, rdCells, aLoad, aBin, aInt, Nat.reduceBEq, Nat.reduceEqDiff, Nat.reduceLeDiff, ↓reduceIte, reduceCtorEq, ZT, ZG, hnk (), w0 (), g1]) (by simp)
     have e0 : eaP x n m l sum t0 0 = [] := rfl
     simp only [esB, e0, z0, ehB, List.append_nil] at hloop
     simp only [ehB]
     generalize L ++ eaR x n (m + 1) l sum most = R at *
     generalize kF (d + m + 3) = C at *
     simp (disch := omega) only [ZF, Z3, stp, justO, just, Rd.bind, Rd.run, Rd.opt, upds, tsz, rdCells, aLoad, resA, resL, Z4, aNum, aLen, Z1, aMin, aBin, aInt, Nat.reduceAdd, Nat.reduceMul, Nat.reduceLT, Nat.reduceBEq, Nat.reduceEqDiff, Nat.reduceLeDiff, ↓reduceIte, reduceCtorEq, ZT, ZG, hlen, hxlen, hx1, hxn, w1 (), w2 (), w3 (), b1, bn, gk', emin, hloop]
     exact ⟨_, .row, rfl, ⟨rfl, .inl rfl, rfl, rfl, rfl, rfl, rfl, rfl, rfl⟩⟩
end Go.AM.Ytfmnoohhhokicaa
end
noncomputable section
namespace Go.AM.Ytfmnoohhhokicaa
open Go Go.AM Go.AM.Rub
abbrev vC (p : Nat) : AV := .clo 104 [.ptr p 0 1]
abbrev chA (l : List Int) (X : List AV) (n : Nat) (c : Int) : AHeap := [(0, ⟨.row, ics l⟩), (1, ⟨.box, [.int .i64 n]⟩), (2, ⟨.box, [vC 3]⟩), (3, ⟨.box, [.int .i64 c]⟩), (4, ⟨.box, [.ref 5 0 (n + 1) (n + 1) (n + 1) 1 false]⟩), (5, ⟨.row, X⟩), (6, ⟨.box, [puK 1 2 4 6]⟩)]
theorem visc {d : Nat} {l : List Int} {k : Nat} {c : Int} (hc : 0 ≤ c ∧ c ≤ 1000000) : pF (d + 1) 104 [.ref 0 0 k k k 1 false, .ptr 1 0 1] [(0, ⟨.row, ics l⟩), (1, ⟨.box, [.int .i64 c]⟩)] 64 = some (.tup [], [(0, ⟨.row, ics l⟩), (1, ⟨.box, [.int .i64 (c + 1)]⟩)]) := by
 rw [pF_s]
 have w : wrp .i64 (c + 1) = c + 1 := Z9 (by omega)
 generalize kF d = C at *
 simp (disch := omega) only [ZF, Z3, stp, just, Rd.bind, Rd.run, Rd.opt, upds, acells, tsz, rdCells, aLoad, aStore, opStore, resA, resL, aBin, aInt, putC, Nat.reduceBEq, Nat.reduceEqDiff, Nat.reduceLeDiff, ↓reduceIte, reduceCtorEq, snaps, ZT, ZRg, w]
theorem Zsn {d : Nat} {l : List Int} {X : List AV} {k n : Nat} {c : Int} (hc : 0 ≤ c ∧ c ≤ 1000000) : kF (d + 1) 104 [.ref 0 0 k k k 1 false, .ptr 3 0 1] (chA l X n c) 560 = some (.tup [], chA l X n (c + 1)) := by
 have hp := visc (d := d) (l := l) (k := k) hc
 rw [Z0b rfl]
 have hks : (mark (chA l X n c) 1000 (refsL [.ref 0 0 k k k 1 false, .ptr 3 0 1]) []).reverse = [0, 3] := rfl
 have hap : AM.apart [0, 3] = true := rfl
 have e1 : renL (posF [0, 3] 0) [.ref 0 0 k k k 1 false, .ptr 3 0 1] = some [.ref 0 0 k k k 1 false, .ptr 1 0 1] := rfl
 have e2 : foc (posF [0, 3] 0) (chA l X n c) 0 [0, 3] = some [(0, ⟨.row, ics l⟩), (1, ⟨.box, [.int .i64 c]⟩)] := rfl
 have hn : newsF [(0, ⟨.row, ics l⟩), (1, ⟨.box, [.int .i64 (c + 1)]⟩)] (.tup []) 2 = [] := rfl
 have hl2 : ([0, 3] : List Nat).length = 2 := rfl
 have er : List.range 2 = [0, 1] := rfl
 rw [hks]
 unfold focus
 rw [if_pos hap]
 simp only [e1, e2, hp, backF, hl2, hn, er]
 simp only [List.length_nil, baseF, freeL, AM.apart, if_true, if_false, List.append_nil, ren, renL, unf, outF, posF, List.getElem?_cons_zero, List.getElem?_cons_succ, Nat.reduceLT, goodB, BS.open_, Bool.true_or, chA, Zj, decide_true, Bool.and_self, renB, hl2, upds, Zi, Zl, Nat.reduceEqDiff, Nat.reduceLeDiff, Nat.reduceAdd, reduceCtorEq]
structure EcA (l xs : List Int) (n : Nat) (c : Int) (H : AHeap) : Prop where
 h0 : hget H 0 = some ⟨.row, ics l⟩
 h1 : hget H 1 = some ⟨.box, [.int .i64 n]⟩
 h2 : hget H 2 = some ⟨.box, [vC 3]⟩
 h3 : hget H 3 = some ⟨.box, [.int .i64 c]⟩
 h4 : hget H 4 = some ⟨.box, [.ref 5 0 (n + 1) (n + 1) (n + 1) 1 false]⟩
 h5 : hget H 5 = some ⟨.row, ics xs⟩
 h6 : hget H 6 = some ⟨.box, [puK 1 2 4 6]⟩
def EcC (d : Nat) (l xs : List Int) (x : Nat → Int) (n k m : Nat) (sum most : Int) : Prop :=
 ∀ c : Nat, c + 9 ^ m ≤ 900000 → ∃ H, pF d 116 [.ref 0 0 k k k 1 false, .int .i64 sum, .int .i64 most, .ptr 1 0 1, .ptr 2 0 1, .ptr 4 0 1, .ptr 6 0 1] (chA l (ics xs) n c) 64 = some (.tup [], H) ∧ EcA l xs n ((c + (eaR x n m l sum most).length : Nat) : Int) H
theorem newsEc {l xs : List Int} {n : Nat} {c : Int} {H : AHeap} (h : EcA l xs n c H) : newsF H (.tup []) 7 = [] := by
 obtain ⟨h0, h1, h2, h3, h4, h5, h6⟩ := h
 have e : refsOf (.tup []) ++ List.range 7 = [0, 1, 2, 3, 4, 5, 6] := rfl
 unfold newsF
 rw [e]
 simp [mark, h0, h1, h2, h3, h4, h5, h6, refsL, refsOf]
noncomputable section
variable {d : Nat} {l l' xs : List Int} {x : Nat → Int} {n k m : Nat} {sum most : Int} {v : List AV}
theorem ZIv (hC : EcC d l' xs x n k m sum most) {c : Nat} (h8 : c + 9 ^ m ≤ 900000) : kF d 116 [.ref 120 0 k k k 1 false, .int .i64 sum, .int .i64 most, .ptr 1 0 1, .ptr 2 0 1, .ptr 4 0 1, .ptr 6 0 1]
     [(0, ⟨.row, ics l⟩), (1, ⟨.box, [.int .i64 n]⟩), (2, ⟨.box, [vC 3]⟩), (3, ⟨.box, [.int .i64 c]⟩), (4, ⟨.box, [.ref 5 0 (n + 1) (n + 1) (n + 1) 1 false]⟩), (5, ⟨.row, ics xs⟩), (6, ⟨.box, [puK 1 2 4 6]⟩), (119, ⟨.row, v⟩), (120, ⟨.row, ics l'⟩)] 560 =
   some (.tup [], [(0, ⟨.row, ics l⟩), (1, ⟨.box, [.int .i64 n]⟩), (2, ⟨.box, [vC 3]⟩), (3, ⟨.box, [.int .i64 ((c + (eaR x n m l' sum most).length : Nat) : Int)]⟩), (4, ⟨.box, [.ref 5 0 (n + 1) (n + 1) (n + 1) 1 false]⟩), (5, ⟨.row, ics xs⟩), (6, ⟨.box, [puK 1 2 4 6]⟩), (119, ⟨.row, v⟩), (120, ⟨.row, ics l'⟩)]) := by
 obtain ⟨H, hp, ro⟩ := hC c h8
 rw [Z0b rfl]
 have hks : (mark [(0, ⟨.row, ics l⟩), (1, ⟨.box, [.int .i64 n]⟩), (2, ⟨.box, [vC 3]⟩), (3, ⟨.box, [.int .i64 c]⟩), (4, ⟨.box, [.ref 5 0 (n + 1) (n + 1) (n + 1) 1 false]⟩), (5, ⟨.row, ics xs⟩), (6, ⟨.box, [puK 1 2 4 6]⟩), (119, ⟨.row, v⟩), (120, ⟨.row, ics l'⟩)] 1000 (refsL [.ref 120 0 k k k 1 false, .int .i64 sum, .int .i64 most, .ptr 1 0 1, .ptr 2 0 1, .ptr 4 0 1, .ptr 6 0 1]) []).reverse = [120, 1, 2, 3, 4, 5, 6] := rfl
 have hap : AM.apart [120, 1, 2, 3, 4, 5, 6] = true := rfl
 have e1 : renL (posF [120, 1, 2, 3, 4, 5, 6] 0) [.ref 120 0 k k k 1 false, .int .i64 sum, .int .i64 most, .ptr 1 0 1, .ptr 2 0 1, .ptr 4 0 1, .ptr 6 0 1] = some [.ref 0 0 k k k 1 false, .int .i64 sum, .int .i64 most, .ptr 1 0 1, .ptr 2 0 1, .ptr 4 0 1, .ptr 6 0 1] := rfl
 have e2 : foc (posF [120, 1, 2, 3, 4, 5, 6] 0) [(0, ⟨.row, ics l⟩), (1, ⟨.box, [.int .i64 n]⟩), (2, ⟨.box, [vC 3]⟩), (3, ⟨.box, [.int .i64 c]⟩), (4, ⟨.box, [.ref 5 0 (n + 1) (n + 1) (n + 1) 1 false]⟩), (5, ⟨.row, ics xs⟩), (6, ⟨.box, [puK 1 2 4 6]⟩), (119, ⟨.row, v⟩), (120, ⟨.row, ics l'⟩)] 0 [120, 1, 2, 3, 4, 5, 6] = some (chA l' (ics xs) n c) := rfl
 have hn := newsEc ro
 obtain ⟨h0, h1, h2, h3, h4, h5, h6⟩ := ro
 have hl7 : ([120, 1, 2, 3, 4, 5, 6] : List Nat).length = 7 := rfl
 have er : List.range 7 = [0, 1, 2, 3, 4, 5, 6] := rfl
 rw [hks]
 unfold focus
 rw [if_pos hap]
 simp only [e1, e2, hp, backF, hl7, hn, er]
 simp only [List.length_nil, baseF, freeL, List.append_nil, AM.apart, ren, renL, unf, outF, posF, h0, h1, h2, h3, h4, h5, h6, List.getElem?_cons_zero, List.getElem?_cons_succ, Nat.reduceLT, goodB, BS.open_, Bool.true_or, chA, Zj, decide_true, Bool.and_self, renB, hl7, upds, Zi, Zl, Nat.reduceEqDiff, Nat.reduceLeDiff, if_true, if_false, Nat.reduceAdd, reduceCtorEq]
theorem Zyq (hC : EcC d l' xs x n k m sum most) {c : Nat} (h8 : c + 9 ^ m ≤ 900000) : kF d 116 [.ref 120 0 k k k 1 false, .int .i64 sum, .int .i64 most, .ptr 0 0 1, .ptr 1 0 1, .ptr 3 0 1, .ptr 5 0 1]
     [(0, ⟨.box, [.int .i64 n]⟩), (1, ⟨.box, [vC 2]⟩), (2, ⟨.box, [.int .i64 c]⟩), (3, ⟨.box, [.ref 4 0 (n + 1) (n + 1) (n + 1) 1 false]⟩), (4, ⟨.row, ics xs⟩), (5, ⟨.box, [puK 0 1 3 5]⟩), (119, ⟨.row, v⟩), (120, ⟨.row, ics l'⟩)] 560 =
   some (.tup [], [(0, ⟨.box, [.int .i64 n]⟩), (1, ⟨.box, [vC 2]⟩), (2, ⟨.box, [.int .i64 ((c + (eaR x n m l' sum most).length : Nat) : Int)]⟩), (3, ⟨.box, [.ref 4 0 (n + 1) (n + 1) (n + 1) 1 false]⟩), (4, ⟨.row, ics xs⟩), (5, ⟨.box, [puK 0 1 3 5]⟩), (119, ⟨.row, v⟩), (120, ⟨.row, ics l'⟩)]) := by
 obtain ⟨H, hp, ro⟩ := hC c h8
 rw [Z0b rfl]
 have hks : (mark [(0, ⟨.box, [.int .i64 n]⟩), (1, ⟨.box, [vC 2]⟩), (2, ⟨.box, [.int .i64 c]⟩), (3, ⟨.box, [.ref 4 0 (n + 1) (n + 1) (n + 1) 1 false]⟩), (4, ⟨.row, ics xs⟩), (5, ⟨.box, [puK 0 1 3 5]⟩), (119, ⟨.row, v⟩), (120, ⟨.row, ics l'⟩)] 1000 (refsL [.ref 120 0 k k k 1 false, .int .i64 sum, .int .i64 most, .ptr 0 0 1, .ptr 1 0 1, .ptr 3 0 1, .ptr 5 0 1]) []).reverse = [120, 0, 1, 2, 3, 4, 5] := rfl
 have hap : AM.apart [120, 0, 1, 2, 3, 4, 5] = true := rfl
 have e1 : renL (posF [120, 0, 1, 2, 3, 4, 5] 0) [.ref 120 0 k k k 1 false, .int .i64 sum, .int .i64 most, .ptr 0 0 1, .ptr 1 0 1, .ptr 3 0 1, .ptr 5 0 1] = some [.ref 0 0 k k k 1 false, .int .i64 sum, .int .i64 most, .ptr 1 0 1, .ptr 2 0 1, .ptr 4 0 1, .ptr 6 0 1] := rfl
 have e2 : foc (posF [120, 0, 1, 2, 3, 4, 5] 0) [(0, ⟨.box, [.int .i64 n]⟩), (1, ⟨.box, [vC 2]⟩), (2, ⟨.box, [.int .i64 c]⟩), (3, ⟨.box, [.ref 4 0 (n + 1) (n + 1) (n + 1) 1 false]⟩), (4, ⟨.row, ics xs⟩), (5, ⟨.box, [puK 0 1 3 5]⟩), (119, ⟨.row, v⟩), (120, ⟨.row, ics l'⟩)] 0 [120, 0, 1, 2, 3, 4, 5] = some (chA l' (ics xs) n c) := rfl
 have hn := newsEc ro
 obtain ⟨h0, h1, h2, h3, h4, h5, h6⟩ := ro
 have hl7 : ([120, 0, 1, 2, 3, 4, 5] : List Nat).length = 7 := rfl
 have er : List.range 7 = [0, 1, 2, 3, 4, 5, 6] := rfl
 rw [hks]
 unfold focus
 rw [if_pos hap]
 simp only [e1, e2, hp, backF, hl7, hn, er]
 simp only [List.length_nil, baseF, freeL, List.append_nil, AM.apart, ren, renL, unf, outF, posF, h0, h1, h2, h3, h4, h5, h6, List.getElem?_cons_zero, List.getElem?_cons_succ, Nat.reduceLT, goodB, BS.open_, Bool.true_or, chA, Zj, decide_true, Bool.and_self, renB, hl7, upds, Zi, Zl, Nat.reduceEqDiff, Nat.reduceLeDiff, if_true, if_false, Nat.reduceAdd, reduceCtorEq]
end
theorem ZuY (caps args : List AV) : mutV E (.clo 104 caps) args = some (104, args ++ caps) := rfl
theorem ZI8 {d : Nat} {l xs : List Int} {x : Nat → Int} {n : Nat} {sum most : Int} (hl : l.length = n) : EcC (d + 2) l xs x n n 0 sum most := by
 intro c h8
 have hlen : (ics l).length = n := by rw [Z7, hl]
 rw [pF_s]
 have hc := Zsn (d := d) (l := l) (X := ics xs) (k := n) (n := n) (c := c) (by omega)
 simp only [chA] at hc ⊢
 have e2 : (eaR x n 0 l sum most).length = 1 := rfl
 have e3 : ((c + 1 : Nat) : Int) = (c : Int) + 1 := by omega
 rw [e2, e3]
 generalize kF (d + 1) = C at *
 simp (disch := omega) only [ZF, Z3, stp, just, Rd.bind, Rd.run, Rd.opt, upds, rdCells, aLoad, resA, resL, aLen, Z1, aBin, aInt, Nat.reduceAdd, Nat.reduceMul, Nat.reduceBEq, Nat.reduceEqDiff, Nat.reduceLeDiff, ↓reduceIte, reduceCtorEq, mutX, ZT, ZG, callV, ZuY, hlen, hc]
 exact ⟨_, rfl, ⟨rfl, rfl, rfl, rfl, rfl, rfl, rfl⟩⟩
abbrev csA (l xs : List Int) (n k : Nat) (sum left t : Int) (c : Nat) : St :=
 ([(12, .int .i64 t), (11, .int .i64 left), (10, .int .i64 k), (6, .ptr 6 0 1), (3, .ptr 1 0 1), (1, .int .i64 sum), (0, .ref 0 0 k k k 1 false)], chA l (ics xs) n c)
abbrev chN (X : List AV) (n : Nat) (c : Int) : AHeap := [(0, ⟨.box, [.int .i64 n]⟩), (1, ⟨.box, [vC 2]⟩), (2, ⟨.box, [.int .i64 c]⟩), (3, ⟨.box, [.ref 4 0 (n + 1) (n + 1) (n + 1) 1 false]⟩), (4, ⟨.row, X⟩), (5, ⟨.box, [puK 0 1 3 5]⟩)]
abbrev csN (xs : List Int) (n : Nat) (sum left t : Int) (c : Nat) : St :=
 ([(12, .int .i64 t), (11, .int .i64 left), (10, .int .i64 0), (6, .ptr 5 0 1), (3, .ptr 0 0 1), (1, .int .i64 sum), (0, .nilsl)], chN (ics xs) n c)
theorem ZUg {d : Nat} {l xs : List Int} {x : Nat → Int} {n k m : Nat} {sum left t : Int} (hl : l.length = k) (hk : k + (m + 1) = n) (h9 : n ≤ 8) (ht : -1000 ≤ t ∧ t ≤ 1000) (hs : -1000 ≤ sum ∧ sum ≤ 1000) (g : t * ((m + 1 : Nat) : Int) ≥ left ∧ t ≥ 0) (hC : EcC d (l ++ [t]) xs x n (k + 1) m (sum + t) t) (c0 c : Nat) (h8 : c + 9 ^ m ≤ 900000) :
   ∃ s', execA E (kF d) (fg 116) 64 62 (chA l (ics xs) n c0) 1000000 ZY (csA l xs n k sum left t c) = some (.normal, s') ∧ headA (chA l (ics xs) n c0) s' = csA l xs n k sum left (t - 1) (c + (eaR x n m (l ++ [t]) (sum + t) t).length) := by
 have hlen : (ics l).length = k := by rw [Z7, hl]
 have htk : List.take k (ics l) = ics l := List.take_of_length_le (by omega)
 have hsn := Z1b l t
 obtain ⟨g1, g2⟩ := g
 have hnk : wrp .i64 ((n : Int) - k) = ((m + 1 : Nat) : Int) := by rw [Z9 (by omega)]; omega
 have hb := mulb (m := m + 1) ht (by omega)
 obtain ⟨P, hP⟩ : ∃ P, t * ((m + 1 : Nat) : Int) = P := ⟨_, rfl⟩
 rw [hP] at g1 hb
 have w0 : wrp .i64 (t * ((m + 1 : Nat) : Int)) = P := by rw [hP]; exact Z9 (by omega)
 clear hP
 have w1 : wrp .i64 (sum + t) = sum + t := Z9 (by omega)
 have w2 : wrp .i64 (t - 1) = t - 1 := Z9 (by omega)
 have gk : (0 : Int) ≤ (k : Int) ∧ (k : Int) ≤ (k : Int) := by omega
 have hno : ¬ k + 1 ≤ k := by omega
 generalize ((m + 1 : Nat) : Int) = M at *
 have hc := ZIv (l := l) (v := [.int .i64 t]) hC h8
 simp only [csA, chA]
 rw [← hsn] at hc
 generalize c + (eaR x n m (l ++ [t]) (sum + t) t).length = new at *
 generalize kF d = C at *
 simp (disch := omega) only [ZF, ↓gd, stp, opPick, just, Rd.bind, Rd.run, Rd.opt, upds, acells, zeroCells, tsz, elemT, rdCells, aLoad, fresh, aNum, Z1, aBin, aInt, putC, evO, Nat.reduceAdd, Nat.reduceMul, Nat.reduceLT, Nat.reduceBEq, Nat.reduceEqDiff, Nat.reduceLeDiff, ↓reduceIte, reduceCtorEq, stpT, Rd.foot, writing, Zb, Tr.empty, Zd, apartT, disj, Z6, Zg, partsOf, fillA, repC, Zh, aAppend, srcOf, window, mutX, snaps, aSlice, aBounds, bMax, bHigh, bLow, ZT, ZG, callVT, Z0U, hlen, htk, hno, g1, g2, hnk, w0, w1, w2, gk, hc, Z01 (show k + 1 ≤ 1000000 by omega)]
 exact ⟨_, rfl, rfl⟩
theorem ZKR {d : Nat} {xs : List Int} {x : Nat → Int} {n m : Nat} {sum left t : Int} (hk : m + 1 = n) (h9 : n ≤ 8) (ht : -1000 ≤ t ∧ t ≤ 1000) (hs : -1000 ≤ sum ∧ sum ≤ 1000) (g : t * ((m + 1 : Nat) : Int) ≥ left ∧ t ≥ 0) (hC : EcC d [t] xs x n 1 m (sum + t) t) (c0 c : Nat) (h8 : c + 9 ^ m ≤ 900000) :
   ∃ s', execA E (kF d) (fg 116) 64 62 (chN (ics xs) n c0) 1000000 ZY (csN xs n sum left t c) = some (.normal, s') ∧ headA (chN (ics xs) n c0) s' = csN xs n sum left (t - 1) (c + (eaR x n m [t] (sum + t) t).length) := by
 have e1 : ics [t] = [.int .i64 t] := rfl
 obtain ⟨g1, g2⟩ := g
 have hnk : wrp .i64 ((n : Int) - 0) = ((m + 1 : Nat) : Int) := by rw [Z9 (by omega)]; omega
 have hb := mulb (m := m + 1) ht (by omega)
 obtain ⟨P, hP⟩ : ∃ P, t * ((m + 1 : Nat) : Int) = P := ⟨_, rfl⟩
 rw [hP] at g1 hb
 have w0 : wrp .i64 (t * ((m + 1 : Nat) : Int)) = P := by rw [hP]; exact Z9 (by omega)
 clear hP
 have w1 : wrp .i64 (sum + t) = sum + t := Z9 (by omega)
 have w2 : wrp .i64 (t - 1) = t - 1 := Z9 (by omega)
 generalize ((m + 1 : Nat) : Int) = M at *
 have hc := Zyq (v := [.int .i64 t]) hC h8
 simp only [csN, chN]
 rw [e1] at hc
 generalize c + (eaR x n m [t] (sum + t) t).length = new at *
 generalize kF d = C at *
 simp (disch := omega) only [ZF, ↓gd, stp, opPick, just, Rd.bind, Rd.run, Rd.opt, upds, acells, zeroCells, tsz, elemT, rdCells, aLoad, fresh, aNum, Z1, aBin, aInt, putC, evO, Nat.reduceAdd, Nat.reduceMul, Nat.reduceLT, Nat.reduceBEq, Nat.reduceEqDiff, Nat.reduceLeDiff, ↓reduceIte, reduceCtorEq, stpT, Rd.foot, writing, Zb, Tr.empty, Zd, apartT, disj, Z6, Zg, partsOf, fillA, repC, Zh, aAppend, srcOf, window, mutX, snaps, aSlice, aBounds, bMax, bHigh, bLow, Int.reduceLE, Int.reduceToNat, ZT, ZG, callVT, Z0U, g1, g2, hnk, w0, w1, w2, hc, Z01 (show 1 ≤ 1000000 by omega)]
 exact ⟨_, rfl, rfl⟩
end Go.AM.Ytfmnoohhhokicaa
end
noncomputable section
namespace Go.AM.Ytfmnoohhhokicaa
open Go Go.AM Go.AM.Rub
abbrev ehN (X : List AV) (n : Nat) : AHeap := [(0, ⟨.box, [.int .i64 n]⟩), (1, ⟨.box, [vB 2]⟩), (2, ⟨.box, [.nilsl]⟩), (3, ⟨.box, [.ref 4 0 (n + 1) (n + 1) (n + 1) 1 false]⟩), (4, ⟨.row, X⟩), (5, ⟨.box, [puK 0 1 3 5]⟩)]
noncomputable section
variable {d : Nat} {l' xs : List Int} {x : Nat → Int} {n k m : Nat} {sum most : Int} {c : List AV}
theorem ZrB (hC : EaC d l' xs x n k m sum most) : ∃ st, kF d 116 [.ref 120 0 k k k 1 false, .int .i64 sum, .int .i64 most, .ptr 0 0 1, .ptr 1 0 1, .ptr 3 0 1, .ptr 5 0 1]
     [(0, ⟨.box, [.int .i64 n]⟩), (1, ⟨.box, [vB 2]⟩), (2, ⟨.box, [.nilsl]⟩), (3, ⟨.box, [.ref 4 0 (n + 1) (n + 1) (n + 1) 1 false]⟩), (4, ⟨.row, ics xs⟩), (5, ⟨.box, [puK 0 1 3 5]⟩), (119, ⟨.row, c⟩), (120, ⟨.row, ics l'⟩)] 560 =
   some (.tup [], (0, ⟨.box, [.int .i64 n]⟩) :: (1, ⟨.box, [vB 2]⟩) :: (2, ⟨.box, [oV 560 1 (eaR x n m l' sum most).length]⟩) :: (3, ⟨.box, [.ref 4 0 (n + 1) (n + 1) (n + 1) 1 false]⟩) :: (4, ⟨.row, ics xs⟩) :: (5, ⟨.box, [puK 0 1 3 5]⟩) :: (119, ⟨.row, c⟩) :: (120, ⟨st, ics l'⟩) :: oH 560 (lcs (eaR x n m l' sum most))) := by
 obtain ⟨H, id, st, hp, ro⟩ := hC.a
 refine ⟨st, ?_⟩
 rw [Z0b rfl]
 have hks : (mark [(0, ⟨.box, [.int .i64 n]⟩), (1, ⟨.box, [vB 2]⟩), (2, ⟨.box, [.nilsl]⟩), (3, ⟨.box, [.ref 4 0 (n + 1) (n + 1) (n + 1) 1 false]⟩), (4, ⟨.row, ics xs⟩), (5, ⟨.box, [puK 0 1 3 5]⟩), (119, ⟨.row, c⟩), (120, ⟨.row, ics l'⟩)] 1000 (refsL [.ref 120 0 k k k 1 false, .int .i64 sum, .int .i64 most, .ptr 0 0 1, .ptr 1 0 1, .ptr 3 0 1, .ptr 5 0 1]) []).reverse = [120, 0, 1, 2, 3, 4, 5] := rfl
 have hap : AM.apart [120, 0, 1, 2, 3, 4, 5] = true := rfl
 have e1 : renL (posF [120, 0, 1, 2, 3, 4, 5] 0) [.ref 120 0 k k k 1 false, .int .i64 sum, .int .i64 most, .ptr 0 0 1, .ptr 1 0 1, .ptr 3 0 1, .ptr 5 0 1] = some [.ref 0 0 k k k 1 false, .int .i64 sum, .int .i64 most, .ptr 1 0 1, .ptr 2 0 1, .ptr 4 0 1, .ptr 6 0 1] := rfl
 have e2 : foc (posF [120, 0, 1, 2, 3, 4, 5] 0) [(0, ⟨.box, [.int .i64 n]⟩), (1, ⟨.box, [vB 2]⟩), (2, ⟨.box, [.nilsl]⟩), (3, ⟨.box, [.ref 4 0 (n + 1) (n + 1) (n + 1) 1 false]⟩), (4, ⟨.row, ics xs⟩), (5, ⟨.box, [puK 0 1 3 5]⟩), (119, ⟨.row, c⟩), (120, ⟨.row, ics l'⟩)] 0 [120, 0, 1, 2, 3, 4, 5] = some (ehA l' (ics xs) n) := rfl
 have hn := newsEA ro
 obtain ⟨h0, hs, h1, h2, h3, h4, h5, h6, hi, hr⟩ := ro
 have hl7 : ([120, 0, 1, 2, 3, 4, 5] : List Nat).length = 7 := rfl
 have er : List.range 7 = [0, 1, 2, 3, 4, 5, 6] := rfl
 rw [hks]
 unfold focus
 rw [if_pos hap]
 simp only [e1, e2, hp, backF, hl7, hn, er]
 rcases ocvL 560 (eaR x n m l' sum most) with ⟨hn0, o1, o2⟩ | ⟨hp0, o1, o2⟩
 · rw [o1, o2]
   rw [hn0] at h3
   have hv : oV id 1 ([] : List (List Int)).length = .nilsl := rfl
   rw [hv] at h3
   rcases hs with rfl | rfl <;>
   simp only [hn0, if_true, List.length_nil, baseF, freeL, List.append_nil, AM.apart, ren, renL, unf, outF, posF, h0, h1, h2, h3, h4, h5, h6, List.getElem?_cons_zero, List.getElem?_cons_succ, Nat.reduceLT, goodB, BS.open_, Bool.true_or, Bool.false_or, ehA, Zj, decide_true, Bool.and_self, renB, hl7, upds, Zi, Zl, Nat.reduceEqDiff, Nat.reduceLeDiff, if_true, if_false, Nat.reduceAdd, reduceCtorEq]
 · rw [o1, o2]
   rw [ZR hp0] at h3
   have hr := hr hp0
   have hne : ¬ eaR x n m l' sum most = [] := fun e => by rw [e] at hp0; simp at hp0
   have c7 : ¬ id < 7 := by omega
   have hbase : baseF [(0, ⟨.box, [.int .i64 n]⟩), (1, ⟨.box, [vB 2]⟩), (2, ⟨.box, [.nilsl]⟩), (3, ⟨.box, [.ref 4 0 (n + 1) (n + 1) (n + 1) 1 false]⟩), (4, ⟨.row, ics xs⟩), (5, ⟨.box, [puK 0 1 3 5]⟩), (119, ⟨.row, c⟩), (120, ⟨.row, ics l'⟩)] 1 8 560 = some 560 := rfl
   rcases hs with rfl | rfl <;>
   simp only [hne, List.length_cons, List.length_nil, Nat.zero_add, hbase, List.elem_nil, Bool.not_false, List.cons_append, List.nil_append, hr, c7, Nat.add_zero, AM.apart, ren, renL, unf, outF, posF, h0, h1, h2, h3, h4, h5, h6, List.getElem?_cons_zero, List.getElem?_cons_succ, Nat.reduceLT, goodB, BS.open_, Bool.true_or, Bool.false_or, ehA, Zj, decide_true, Bool.and_self, renB, hl7, upds, Zi, Zl, Nat.reduceEqDiff, Nat.reduceLeDiff, if_true, if_false, reduceCtorEq]
theorem ZqJ (hC : EaC d l' xs x n k m sum most) {L : List (List Int)} (h0 : 0 < L.length) (h8 : L.length + 9 ^ m ≤ 900000) : ∃ st, kF d 116 [.ref 120 0 k k k 1 false, .int .i64 sum, .int .i64 most, .ptr 0 0 1, .ptr 1 0 1, .ptr 3 0 1, .ptr 5 0 1]
     [(0, ⟨.box, [.int .i64 n]⟩), (1, ⟨.box, [vB 2]⟩), (2, ⟨.box, [.ref 560 0 L.length L.length L.length 1 false]⟩), (3, ⟨.box, [.ref 4 0 (n + 1) (n + 1) (n + 1) 1 false]⟩), (4, ⟨.row, ics xs⟩), (5, ⟨.box, [puK 0 1 3 5]⟩), (119, ⟨.row, c⟩), (120, ⟨.row, ics l'⟩), (560, ⟨.row, lcs L⟩)] 560 =
   some (.tup [], [(0, ⟨.box, [.int .i64 n]⟩), (1, ⟨.box, [vB 2]⟩), (2, ⟨.box, [.ref 560 0 (L ++ eaR x n m l' sum most).length (L ++ eaR x n m l' sum most).length (L ++ eaR x n m l' sum most).length 1 false]⟩), (3, ⟨.box, [.ref 4 0 (n + 1) (n + 1) (n + 1) 1 false]⟩), (4, ⟨.row, ics xs⟩), (5, ⟨.box, [puK 0 1 3 5]⟩), (119, ⟨.row, c⟩), (120, ⟨st, ics l'⟩), (560, ⟨.row, lcs (L ++ eaR x n m l' sum most)⟩)]) := by
 obtain ⟨H, st, hp, ro⟩ := hC.b L h0 h8
 refine ⟨st, ?_⟩
 rw [Z0b rfl]
 have hks : (mark [(0, ⟨.box, [.int .i64 n]⟩), (1, ⟨.box, [vB 2]⟩), (2, ⟨.box, [.ref 560 0 L.length L.length L.length 1 false]⟩), (3, ⟨.box, [.ref 4 0 (n + 1) (n + 1) (n + 1) 1 false]⟩), (4, ⟨.row, ics xs⟩), (5, ⟨.box, [puK 0 1 3 5]⟩), (119, ⟨.row, c⟩), (120, ⟨.row, ics l'⟩), (560, ⟨.row, lcs L⟩)] 1000 (refsL [.ref 120 0 k k k 1 false, .int .i64 sum, .int .i64 most, .ptr 0 0 1, .ptr 1 0 1, .ptr 3 0 1, .ptr 5 0 1]) []).reverse = [120, 0, 1, 2, 560, 3, 4, 5] := rfl
 have hap : AM.apart [120, 0, 1, 2, 560, 3, 4, 5] = true := rfl
 have e1 : renL (posF [120, 0, 1, 2, 560, 3, 4, 5] 0) [.ref 120 0 k k k 1 false, .int .i64 sum, .int .i64 most, .ptr 0 0 1, .ptr 1 0 1, .ptr 3 0 1, .ptr 5 0 1] = some [.ref 0 0 k k k 1 false, .int .i64 sum, .int .i64 most, .ptr 1 0 1, .ptr 2 0 1, .ptr 5 0 1, .ptr 7 0 1] := rfl
 have e2 : foc (posF [120, 0, 1, 2, 560, 3, 4, 5] 0) [(0, ⟨.box, [.int .i64 n]⟩), (1, ⟨.box, [vB 2]⟩), (2, ⟨.box, [.ref 560 0 L.length L.length L.length 1 false]⟩), (3, ⟨.box, [.ref 4 0 (n + 1) (n + 1) (n + 1) 1 false]⟩), (4, ⟨.row, ics xs⟩), (5, ⟨.box, [puK 0 1 3 5]⟩), (119, ⟨.row, c⟩), (120, ⟨.row, ics l'⟩), (560, ⟨.row, lcs L⟩)] 0 [120, 0, 1, 2, 560, 3, 4, 5] = some (ehB l' (ics xs) n L) := rfl
 have hn := newsEB ro
 obtain ⟨h0, hs, h1, h2, h3, h4, h5, h6, h7⟩ := ro
 have hl7 : ([120, 0, 1, 2, 560, 3, 4, 5] : List Nat).length = 8 := rfl
 have er : List.range 8 = [0, 1, 2, 3, 4, 5, 6, 7] := rfl
 rw [hks]
 unfold focus
 rw [if_pos hap]
 simp only [e1, e2, hp, backF, hl7, hn, er]
 rcases hs with rfl | rfl <;>
 simp only [List.length_nil, baseF, freeL, List.append_nil, AM.apart, ren, renL, unf, outF, posF, h0, h1, h2, h3, h4, h5, h6, h7, List.getElem?_cons_zero, List.getElem?_cons_succ, Nat.reduceLT, goodB, BS.open_, Bool.true_or, Bool.false_or, ehB, Zj, decide_true, Bool.and_self, renB, hl7, upds, Zi, Zl, Nat.reduceEqDiff, Nat.reduceLeDiff, if_true, if_false, Nat.reduceAdd, reduceCtorEq]
end
abbrev esN (xs : List Int) (n : Nat) (sum left t : Int) (L : List (List Int)) : St :=
 ([(12, .int .i64 t), (11, .int .i64 left), (10, .int .i64 0), (6, .ptr 5 0 1), (3, .ptr 0 0 1), (1, .int .i64 sum), (0, .nilsl)], (0, ⟨.box, [.int .i64 n]⟩) :: (1, ⟨.box, [vB 2]⟩) :: (2, ⟨.box, [oV 560 1 L.length]⟩) :: (3, ⟨.box, [.ref 4 0 (n + 1) (n + 1) (n + 1) 1 false]⟩) :: (4, ⟨.row, ics xs⟩) :: (5, ⟨.box, [puK 0 1 3 5]⟩) :: oH 560 (lcs L))
theorem ZKl {d : Nat} {xs : List Int} {x : Nat → Int} {n m : Nat} {sum left t : Int} (hk : m + 1 = n) (h9 : n ≤ 8) (ht : -1000 ≤ t ∧ t ≤ 1000) (hs : -1000 ≤ sum ∧ sum ≤ 1000) (g : t * ((m + 1 : Nat) : Int) ≥ left ∧ t ≥ 0) (hC : EaC d [t] xs x n 1 m (sum + t) t) (L : List (List Int)) (h8 : L.length + 9 ^ m ≤ 900000) :
   ∃ s', execA E (kF d) (fg 116) 64 62 (ehN (ics xs) n) 1000000 ZY (esN xs n sum left t L) = some (.normal, s') ∧ headA (ehN (ics xs) n) s' = esN xs n sum left (t - 1) (L ++ eaR x n m [t] (sum + t) t) := by
 have e1 : ics [t] = [.int .i64 t] := rfl
 obtain ⟨g1, g2⟩ := g
 have hnk : wrp .i64 ((n : Int) - 0) = ((m + 1 : Nat) : Int) := by rw [Z9 (by omega)]; omega
 have hb := mulb (m := m + 1) ht (by omega)
 obtain ⟨P, hP⟩ : ∃ P, t * ((m + 1 : Nat) : Int) = P := ⟨_, rfl⟩
 rw [hP] at g1 hb
 have w0 : wrp .i64 (t * ((m + 1 : Nat) : Int)) = P := by rw [hP]; exact Z9 (by omega)
 clear hP
 have w1 : wrp .i64 (sum + t) = sum + t := Z9 (by omega)
 have w2 : wrp .i64 (t - 1) = t - 1 := Z9 (by omega)
 generalize ((m + 1 : Nat) : Int) = M at *
 rcases ocvL 560 L with ⟨hn0, o1, o2⟩ | ⟨hp0, o1, o2⟩
 · obtain ⟨st, hc⟩ := ZrB (c := [.int .i64 t]) hC
   subst hn0
   rw [List.nil_append]
   simp only [esN, ehN]
   rw [o1, o2]
   rw [e1] at hc
   generalize eaR x n m [t] (sum + t) t = new at *
   generalize kF d = C at *
   rcases ocvL 560 new with ⟨hn1, p1, p2⟩ | ⟨hp1, p1, p2⟩ <;> rw [p1, p2] at hc ⊢ <;>
     simp (disch := omega) only [ZF, ↓gd, stp, opPick, just, Rd.bind, Rd.run, Rd.opt, upds, acells, zeroCells, tsz, elemT, rdCells, aLoad, fresh, aNum, Z1, aBin, aInt, putC, evO, Nat.reduceAdd, Nat.reduceMul, Nat.reduceLT, Nat.reduceBEq, Nat.reduceEqDiff, Nat.reduceLeDiff, ↓reduceIte, reduceCtorEq, stpT, Rd.foot, writing, Zb, Tr.empty, Zd, apartT, disj, Z6, Zg, partsOf, fillA, repC, Zh, aAppend, srcOf, window, mutX, snaps, aSlice, aBounds, bMax, bHigh, bLow, Int.reduceLE, Int.reduceToNat, ZT, ZG, callVT, Z0U, g1, g2, hnk, w0, w1, w2, hc, Z01 (show 1 ≤ 1000000 by omega)] <;> exact ⟨_, rfl, rfl⟩
 · obtain ⟨st, hc⟩ := ZqJ (c := [.int .i64 t]) hC hp0 h8
   simp only [esN, ehN]
   rw [o1, o2, ZR (show 0 < (L ++ eaR x n m [t] (sum + t) t).length by rw [List.length_append]; omega), Z3e (show 0 < (L ++ eaR x n m [t] (sum + t) t).length by rw [List.length_append]; omega)]
   rw [e1] at hc
   generalize L ++ eaR x n m [t] (sum + t) t = new at *
   generalize lcs new = LN at *
   generalize new.length = nn at *
   generalize lcs L = LL at *
   generalize L.length = ll at *
   generalize kF d = C at *
   simp (disch := omega) only [ZF, ↓gd, stp, opPick, just, Rd.bind, Rd.run, Rd.opt, upds, acells, zeroCells, tsz, elemT, rdCells, aLoad, fresh, aNum, Z1, aBin, aInt, putC, evO, Nat.reduceAdd, Nat.reduceMul, Nat.reduceLT, Nat.reduceBEq, Nat.reduceEqDiff, Nat.reduceLeDiff, ↓reduceIte, reduceCtorEq, stpT, Rd.foot, writing, Zb, Tr.empty, Zd, apartT, disj, Z6, Zg, partsOf, fillA, repC, Zh, aAppend, srcOf, window, mutX, snaps, aSlice, aBounds, bMax, bHigh, bLow, Int.reduceLE, Int.reduceToNat, ZT, ZG, callVT, Z0U, g1, g2, hnk, w0, w1, w2, hc, Z01 (show 1 ≤ 1000000 by omega)]
   exact ⟨_, rfl, rfl⟩
structure EaN (xs : List Int) (n : Nat) (new : List (List Int)) (H : AHeap) : Prop where
 h0 : hget H 0 = some ⟨.box, [.int .i64 n]⟩
 h1 : hget H 1 = some ⟨.box, [vB 2]⟩
 h2 : hget H 2 = some ⟨.box, [oV 560 1 new.length]⟩
 h3 : hget H 3 = some ⟨.box, [.ref 4 0 (n + 1) (n + 1) (n + 1) 1 false]⟩
 h4 : hget H 4 = some ⟨.row, ics xs⟩
 h5 : hget H 5 = some ⟨.box, [puK 0 1 3 5]⟩
 hr : 0 < new.length → hget H 560 = some ⟨.row, lcs new⟩
theorem ZD4 {d n : Nat} {xs : List Int} {x : Nat → Int} (hn0 : 0 < n) (h6 : n ≤ 6) (hxl : xs.length = n + 1) (hxx : ∀ j, j ≤ n → (ics xs)[j]? = some (.int .i64 (x j))) (hxb : ∀ j, j ≤ n → 0 ≤ x j ∧ x j ≤ 500) {sum : Int} (hs : sum = 0) :
   ∃ H, pF (d + n + 3) 116 [.nilsl, .int .i64 sum, .int .i64 8, .ptr 0 0 1, .ptr 1 0 1, .ptr 3 0 1, .ptr 5 0 1] (ehN (ics xs) n) 64 = some (.tup [], H) ∧ EaN xs n (eaR x n n [] sum 8) H := by
 obtain ⟨m, rfl⟩ : ∃ m, n = m + 1 := ⟨n - 1, by omega⟩
 have hb1 := hxb 1 (by omega)
 have hbn := hxb (m + 1) (Nat.le_refl _)
 obtain ⟨t0, ht0⟩ : ∃ t0 : Int, min 8 (x 1 - sum) = t0 := ⟨_, rfl⟩
 have ht8 : t0 ≤ 8 := by omega
 have ht1 : t0 < ((100 : Nat) : Int) := by omega
 have hc9 := Z3b (x (m + 1) - sum) (m + 1) 100 t0 ht8
 obtain ⟨hin, hout⟩ := Z1e (x (m + 1) - sum) (m + 1) 100 t0 ht1
 clear ht1
 obtain ⟨c, hcc⟩ : ∃ c : Nat, cntE (x (m + 1) - sum) (m + 1) 100 t0 = c := ⟨_, rfl⟩
 rw [hcc] at hin hout hc9
 have hall : eaP x (m + 1) m [] sum t0 c = eaR x (m + 1) (m + 1) [] sum 8 := by rw [Z1y, List.length_nil, Nat.zero_add, ht0, hcc]
 clear hcc
 have hrec : ∀ j : Nat, j < c → EaC (d + m + 3) [t0 - j] xs x (m + 1) 1 m (sum + (t0 - j)) (t0 - j) := fun j hj => by
   have := (hin j hj).2
   exact ZqK hn0 h6 hxl hxx hxb m [t0 - j] 1 (sum + (t0 - j)) (t0 - j) rfl (by omega) (by omega) (by omega)
 have hxlen : (ics xs).length = m + 1 + 1 := by rw [Z7, hxl]
 have hx1 : (ics xs)[1]? = some (.int .i64 (x 1)) := hxx 1 (by omega)
 have hxn : (ics xs)[m + 1]? = some (.int .i64 (x (m + 1))) := hxx (m + 1) (Nat.le_refl _)
 have gk : ¬ (0 : Int) = ((m + 1 : Nat) : Int) := by omega
 have gk' : ((0 : Int) == ((m + 1 : Nat) : Int)) = false := by rw [beq_eq_false_iff_ne]; exact gk
 have b1 : (0 : Int) ≤ 1 ∧ (1 : Int) < ((m + 1 + 1 : Nat) : Int) := by omega
 have bn : (0 : Int) ≤ ((m + 1 : Nat) : Int) ∧ ((m + 1 : Nat) : Int) < ((m + 1 + 1 : Nat) : Int) := by omega
 have w1 : ∀ _ : Unit, wrp .i64 (x (m + 1) - sum) = x (m + 1) - sum := fun _ => Z9 (by omega)
 have w2 : ∀ _ : Unit, wrp .i64 (x 1 - sum) = x 1 - sum := fun _ => Z9 (by omega)
 have w3 : wrp .i64 (0 + 1) = 1 := rfl
 have emin : (if x 1 - sum < 8 then x 1 - sum else 8) = t0 := by rw [← ht0]; split <;> omega
 have e2 : ∀ j : Nat, t0 - ((j + 1 : Nat) : Int) = t0 - j - 1 := fun j => by omega
 have z0 : t0 - ((0 : Nat) : Int) = t0 := by omega
 have hnk : ∀ _ : Unit, wrp .i64 (((m + 1 : Nat) : Int) - 0) = ((m + 1 : Nat) : Int) := fun _ => by rw [Z9 (by omega)]; omega
 have hmb := mulb (t := t0 - c) (m := m + 1) (by omega) (by omega)
 obtain ⟨P, hP⟩ : ∃ P, (t0 - c) * ((m + 1 : Nat) : Int) = P := ⟨_, rfl⟩
 rw [hP] at hout hmb
 have w0 : ∀ _ : Unit, wrp .i64 ((t0 - c) * ((m + 1 : Nat) : Int)) = P := fun _ => by rw [hP]; exact Z9 (by omega)
 clear hP
 have h9c : ∀ _ : Unit, 9 ^ (m + 1) ≤ 531441 := fun _ => by have := Nat.pow_le_pow_right (n := 9) (by omega) (show m + 1 ≤ 6 by omega); omega
 have h9s : 9 ^ (m + 1) = 9 * 9 ^ m := by rw [Nat.pow_succ, Nat.mul_comm]
 have hfl : ∀ j, j < c → (eaP x (m + 1) m [] sum t0 j).length ≤ 8 * 9 ^ m := fun j hj => Nat.le_trans (Z3a x (m + 1) m [] sum t0 ht8 j) (Nat.mul_le_mul_right _ (by omega))
 have hA8 : ∀ j, j < c → (eaP x (m + 1) m [] sum t0 j).length + 9 ^ m ≤ 900000 := fun j hj => nineA (hfl j hj) (by rw [← h9s]; exact h9c ())
 clear h9s
 rw [show d + (m + 1) + 3 = (d + m + 3) + 1 by omega, pF_s]
 have hloop := loopM (f := execA E (kF (d + m + 3)) (fg 116) 64 62 (ehN (ics xs) (m + 1)) 1000000 ZY) (E0 := ehN (ics xs) (m + 1)) (fun j => esN xs (m + 1) sum (x (m + 1) - sum) (t0 - j) (eaP x (m + 1) m [] sum t0 j)) c (fun j hj => by
     simp only [Z19, e2]
     exact ZKl rfl (by omega) (by omega) (by omega) (hin j hj) (hrec j hj) (eaP x (m + 1) m [] sum t0 j) (hA8 j hj)) (by
     have e0 : eaP x (m + 1) m [] sum t0 0 = [] := rfl
     simp only [esN, e0]; rfl) (by omega)
   (e := .exit 0) (se := ([(46, .bool false), (12, .int .i64 (t0 - c)), (11, .int .i64 (x (m + 1) - sum)), (10, .int .i64 0), (6, .ptr 5 0 1), (3, .ptr 0 0 1), (1, .int .i64 sum), (0, .nilsl)], (0, ⟨.box, [.int .i64 ((m + 1 : Nat) : Int)]⟩) :: (1, ⟨.box, [vB 2]⟩) :: (2, ⟨.box, [oV 560 1 (eaR x (m + 1) (m + 1) [] sum 8).length]⟩) :: (3, ⟨.box, [.ref 4 0 (m + 1 + 1) (m + 1 + 1) (m + 1 + 1) 1 false]⟩) :: (4, ⟨.row, ics xs⟩) :: (5, ⟨.box, [puK 0 1 3 5]⟩) :: oH 560 (lcs (eaR x (m + 1) (m + 1) [] sum 8))))
   (by
     simp only [esN, hall, ehN]
     generalize x (m + 1) - sum = lf at *
     by_cases g1 : P ≥ lf
     · have g2 : ¬ t0 - c ≥ 0 := fun h => hout ⟨g1, h⟩
       rcases ocvL 560 (eaR x (m + 1) (m + 1) [] sum 8) with ⟨_, o1, o2⟩ | ⟨_, o1, o2⟩ <;> rw [o1, o2] <;>
         simp (disch := omega) only [ZF, ↓gd, stp, opPick, just, Rd.bind, Rd.run, Rd.opt, upds, rdCells, aLoad, aBin, aInt, Nat.reduceBEq, Nat.reduceEqDiff, Nat.reduceLeDiff, ↓reduceIte, ZT, ZG, hnk (), w0 (), g1, g2]
     · rcases ocvL 560 (eaR x (m + 1) (m + 1) [] sum 8) with ⟨_, o1, o2⟩ | ⟨_, o1, o2⟩ <;> rw [o1, o2] <;>
         simp (disch := omega) only [ZF, ↓gd, stp, opPick, just, Rd.bind, Rd.run, Rd.opt, upds, rdCells, aLoad, aBin, aInt, Nat.reduceBEq, Nat.reduceEqDiff, Nat.reduceLeDiff, ↓reduceIte, ZT, ZG, hnk (), w0 (), g1]) (by simp)
 have e0 : eaP x (m + 1) m [] sum t0 0 = [] := rfl
 have v0 : oV 560 1 ([] : List (List Int)).length = .nilsl := rfl
 have o0 : oH 560 (lcs []) = [] := rfl
 simp only [esN, e0, v0, o0, z0, ehN] at hloop
 simp only [ehN]
 generalize eaR x (m + 1) (m + 1) [] sum 8 = R at *
 generalize kF (d + m + 3) = C at *
 rcases ocvL 560 R with ⟨hn1, o1, o2⟩ | ⟨hp1, o1, o2⟩ <;> rw [o1, o2] at hloop
 · simp (disch := omega) only [ZF, Z3, stp, justO, just, Rd.bind, Rd.run, Rd.opt, upds, tsz, rdCells, aLoad, resA, resL, Z4, aNum, aLen, Z1, aMin, aBin, aInt, Nat.reduceAdd, Nat.reduceMul, Nat.reduceLT, Nat.reduceBEq, Nat.reduceEqDiff, Nat.reduceLeDiff, ↓reduceIte, reduceCtorEq, Int.reduceToNat, ZT, ZG, hxlen, hx1, hxn, w1 (), w2 (), w3, b1, bn, gk', emin, hloop]
   refine ⟨_, rfl, ?_⟩
   exact ⟨rfl, rfl, by rw [o1]; rfl, rfl, rfl, rfl, fun h => by rw [hn1] at h; simp at h⟩
 · simp (disch := omega) only [ZF, Z3, stp, justO, just, Rd.bind, Rd.run, Rd.opt, upds, tsz, rdCells, aLoad, resA, resL, Z4, aNum, aLen, Z1, aMin, aBin, aInt, Nat.reduceAdd, Nat.reduceMul, Nat.reduceLT, Nat.reduceBEq, Nat.reduceEqDiff, Nat.reduceLeDiff, ↓reduceIte, reduceCtorEq, Int.reduceToNat, ZT, ZG, hxlen, hx1, hxn, w1 (), w2 (), w3, b1, bn, gk', emin, hloop]
   refine ⟨_, rfl, ?_⟩
   exact ⟨rfl, rfl, by rw [o1]; rfl, rfl, rfl, rfl, fun h => rfl⟩
end Go.AM.Ytfmnoohhhokicaa
end
noncomputable section
namespace Go.AM.Rub
theorem Z82 : ∀ (m : Nat) (s t : Int), s > t * (m : Int) → rowsL m s t = []
 | 0, s, t, h => by
   simp only [rowsL]
   rw [if_neg (by intro e; simp [e] at h)]
 | m + 1, s, t, h => by
   simp only [rowsL]
   rw [List.flatMap_eq_nil_iff]
   intro u hu
   have hu := (Z7D _ _).1 hu
   rw [Z82 m (s - u) u]
   · rfl
   · have h1 : u * ((m : Int) + 1) ≤ t * ((m : Int) + 1) := Int.mul_le_mul_of_nonneg_right (by omega) (by omega)
     have h2 : ((m + 1 : Nat) : Int) = (m : Int) + 1 := by omega
     rw [h2] at h
     rw [Int.mul_add, Int.mul_one] at h1
     omega
def okE (x : Nat → Int) : Nat → Int → List Int → Bool
 | _, _, [] => true
 | k, s, t :: r => decide (s + t ≤ x (k + 1)) && okE x (k + 1) (s + t) r
theorem Zrw {x : Nat → Int} : ∀ (r : List Int) (k : Nat) (s : Int), okE x k s r = true ↔ ∀ j, j < r.length → s + ps (rowF r) (j + 1) ≤ x (k + j + 1)
 | [], k, s => by simp [okE]
 | t :: r, k, s => by
   simp only [okE, Bool.and_eq_true, decide_eq_true_eq, Zrw r (k + 1) (s + t)]
   constructor
   · rintro ⟨h1, h2⟩ j hj
     cases j with
     | zero => simpa [ps, rowF] using h1
     | succ j =>
       have := h2 j (by simpa using hj)
       rw [Z2d]
       rw [show k + (j + 1) + 1 = k + 1 + j + 1 by omega]
       omega
   · intro h
     refine ⟨by simpa [ps, rowF] using h 0 (by simp), fun j hj => ?_⟩
     have := h (j + 1) (by simpa using hj)
     rw [Z2d] at this
     rw [show k + (j + 1) + 1 = k + 1 + j + 1 by omega] at this
     omega
theorem Zs6 : ∀ (n k : Nat), k ≤ n + 1 → dnN n = ((List.range (n + 1 - k)).map fun (i : Nat) => (n : Int) - i) ++ (if k = 0 then [] else dnN (k - 1)) := by
 intro n k hk
 cases k with
 | zero => simp [Z1W]
 | succ k =>
   rw [if_neg (by omega), Z1W, Z1W, show n + 1 = (n - k) + (k + 1) by omega, List.range_add, List.map_append, List.map_map]
   rw [show n - k + (k + 1) - (k + 1) = n - k by omega]
   congr 1
   rw [show k + 1 - 1 + 1 = k + 1 by omega]
   apply List.map_congr_left
   intro a ha
   simp only [Function.comp_apply]
   omega
theorem ZeU {k c : Int} (h : c ≤ k) (h0 : -1 ≤ c) : dn k = ((List.range (k - c).toNat).map fun (i : Nat) => k - i) ++ dn c := by
 unfold dn
 by_cases hk : k < 0
 · rw [if_pos hk, if_pos (by omega), show (k - c).toNat = 0 by omega]; rfl
 · rw [if_neg hk, Zs6 k.toNat (c + 1).toNat (by omega), show k.toNat + 1 - (c + 1).toNat = (k - c).toNat by omega]
   congr 1
   · apply List.map_congr_left
     intro a _
     omega
   · by_cases hc : c < 0
     · rw [if_pos (by omega), if_pos hc]
     · rw [if_neg (by omega), if_neg hc]; congr 1; omega
theorem Z3z {α β : Type} {f : α → List β} {l : List α} (h : ∀ a ∈ l, f a = []) : l.flatMap f = [] := List.flatMap_eq_nil_iff.2 h
theorem Z8d {α β : Type} {f g : α → List β} : ∀ {l : List α}, (∀ a ∈ l, f a = g a) → l.flatMap f = l.flatMap g
 | [], _ => rfl
 | a :: l, h => by rw [List.flatMap_cons, List.flatMap_cons, h a (by simp), Z8d fun b hb => h b (by simp [hb])]
theorem Z5h {α β : Type} {f : α → List β} {p : β → Bool} : ∀ {l : List α}, (l.flatMap f).filter p = l.flatMap fun a => (f a).filter p
 | [] => rfl
 | a :: l => by rw [List.flatMap_cons, List.flatMap_cons, List.filter_append, Z5h]
theorem ZrR {x : Nat → Int} {n : Nat} (hx : ∀ j, j ≤ n → x j ≤ x n) : ∀ (m : Nat) (l : List Int) (sum most : Int), l.length + m = n → most ≤ 8 → (m = 0 → sum = x n) →
   eaR x n m l sum most = ((rowsL m (x n - sum) most).filter (okE x l.length sum)).map (l ++ ·)
 | 0, l, sum, most, _, _, h => by
   have := h rfl
   simp [eaR, rowsL, this, okE, List.filter_cons]
 | m + 1, l, sum, most, hl, hm, _ => by
   obtain ⟨t0, ht0⟩ : ∃ t0 : Int, min most (x (l.length + 1) - sum) = t0 := ⟨_, rfl⟩
   obtain ⟨c, hc⟩ : ∃ c : Nat, cntE (x n - sum) (m + 1) 100 t0 = c := ⟨_, rfl⟩
   obtain ⟨hin, hout⟩ := Z1e (x n - sum) (m + 1) 100 t0 (by omega)
   have hxk := hx (l.length + 1) (by omega)
   rw [hc] at hin hout
   rw [Z1y, ht0, hc, eaP]
   have hc0 : c = 0 ∨ t0 - c ≥ -1 := by
     rcases Nat.eq_zero_or_pos c with h | h
     · exact .inl h
     · right
       have := (hin (c - 1) (by omega)).2
       omega
   have hle : t0 ≤ min most (x n - sum) := by omega
   have hbad : ∀ t : Int, t ≤ t0 - c → 0 ≤ t → rowsL m (x n - sum - t) t = [] := by
     intro t h1 h2
     apply Z82
     have h3 : ¬ (t0 - c) * ((m + 1 : Nat) : Int) ≥ x n - sum := fun h => hout ⟨h, by omega⟩
     have h4 : t * ((m : Int) + 1) ≤ (t0 - c) * ((m : Int) + 1) := Int.mul_le_mul_of_nonneg_right h1 (by omega)
     have h5 : ((m + 1 : Nat) : Int) = (m : Int) + 1 := by omega
     rw [h5] at h3
     rw [Int.mul_add t, Int.mul_one] at h4
     omega
   simp only [rowsL]
   rw [Z5h, List.map_flatMap]
   have hgo : ∀ t : Int, t ≤ t0 → (((rowsL m (x n - sum - t) t).map (t :: ·)).filter (okE x l.length sum)).map (l ++ ·) = ((rowsL m (x n - (sum + t)) t).filter (okE x (l ++ [t]).length (sum + t))).map ((l ++ [t]) ++ ·) := by
     intro t ht
     rw [show x n - (sum + t) = x n - sum - t by omega]
     rw [List.filter_map, List.map_map]
     have e1 : (okE x l.length sum) ∘ (t :: ·) = okE x (l ++ [t]).length (sum + t) := by
       funext r
       simp only [Function.comp_apply, okE, List.length_append, List.length_singleton]
       rw [decide_eq_true (by omega)]
       simp
     rw [e1]
     apply List.map_congr_left
     intro r _
     simp
   by_cases hneg : min most (x n - sum) < 0
   · have : dn (min most (x n - sum)) = [] := by unfold dn; rw [if_pos hneg]
     rw [this, List.flatMap_nil]
     apply Z3z
     intro i hi
     have := (hin i (List.mem_range.1 hi)).2
     omega
   · have hsp : dn (min most (x n - sum)) = ((List.range (min most (x n - sum) - max t0 (-1)).toNat).map fun (i : Nat) => min most (x n - sum) - i) ++ dn (max t0 (-1)) := ZeU (by omega) (by omega)
     rw [hsp, List.flatMap_append]
     have z1 : (((List.range (min most (x n - sum) - max t0 (-1)).toNat).map fun (i : Nat) => min most (x n - sum) - i).flatMap fun t => (((rowsL m (x n - sum - t) t).map (t :: ·)).filter (okE x l.length sum)).map (l ++ ·)) = [] := by
       apply Z3z
       intro t ht
       obtain ⟨i, hi, rfl⟩ := List.mem_map.1 ht
       have hi := List.mem_range.1 hi
       rw [List.map_eq_nil_iff, List.filter_eq_nil_iff]
       intro r hr
       obtain ⟨r', hr', rfl⟩ := List.mem_map.1 hr
       simp only [okE]
       rw [decide_eq_false (by omega)]
       simp
     rw [z1, List.nil_append]
     by_cases ht : t0 < 0
     · have : dn (max t0 (-1)) = [] := by unfold dn; rw [if_pos (by omega)]
       rw [this, List.flatMap_nil]
       apply Z3z
       intro i hi
       have := (hin i (List.mem_range.1 hi)).2
       omega
     · rw [show max t0 (-1) = t0 by omega]
       have hsp2 : dn t0 = ((List.range c).map fun (i : Nat) => t0 - i) ++ dn (t0 - c) := by
         have := ZeU (k := t0) (c := t0 - c) (by omega) (by omega)
         rw [show (t0 - (t0 - c)).toNat = c by omega] at this
         exact this
       rw [hsp2, List.flatMap_append, List.flatMap_map]
       have z2 : ((dn (t0 - c)).flatMap fun t => (((rowsL m (x n - sum - t) t).map (t :: ·)).filter (okE x l.length sum)).map (l ++ ·)) = [] := by
         apply Z3z
         intro t ht
         have := (Z7D _ _).1 ht
         rw [hbad t (by omega) this.1]
         rfl
       rw [z2, List.append_nil]
       apply Z8d
       intro i hi
       have hi2 := hin i (List.mem_range.1 hi)
       rw [hgo (t0 - i) (by omega)]
       refine ZrR hx m (l ++ [t0 - i]) (sum + (t0 - i)) (t0 - i) (by simp; omega) (by omega) fun hm0 => ?_
       subst hm0
       have e : l.length + 1 = n := by omega
       rw [e] at ht0
       have h1 := hi2.1
       rw [show ((0 + 1 : Nat) : Int) = 1 from rfl, Int.mul_one] at h1
       omega
end Go.AM.Rub
end
noncomputable section
namespace Go.AM.Ytfmnoohhhokicaa
open Go Go.AM Go.AM.Rub
theorem newsEN {xs : List Int} {n : Nat} {new : List (List Int)} {H : AHeap} (h : EaN xs n new H) : newsF H (.tup []) 6 = if new = [] then [] else [560] := by
 obtain ⟨h0, h1, h2, h3, h4, h5, hr⟩ := h
 have e : refsOf (.tup []) ++ List.range 6 = [0, 1, 2, 3, 4, 5] := rfl
 unfold newsF
 rw [e]
 cases hn : new with
 | nil =>
   subst hn
   rw [if_pos rfl]
   have hv : oV 560 1 ([] : List (List Int)).length = .nilsl := rfl
   rw [hv] at h2
   simp [mark, h0, h1, h2, h3, h4, h5, refsL, refsOf]
 | cons x xs =>
   rw [← hn]
   have hp : 0 < new.length := by rw [hn]; simp
   rw [if_neg (by rw [hn]; simp)]
   rw [ZR hp] at h2
   have hr := hr hp
   simp [mark, h0, h1, h2, h3, h4, h5, hr, refsL, refsOf]
theorem ZMv {d n : Nat} {xs : List Int} {x : Nat → Int} (hn0 : 0 < n) (h6 : n ≤ 6) (hxl : xs.length = n + 1) (hxx : ∀ j, j ≤ n → (ics xs)[j]? = some (.int .i64 (x j))) (hxb : ∀ j, j ≤ n → 0 ≤ x j ∧ x j ≤ 500) :
   kF (d + n + 3) 116 [.nilsl, .int .i64 0, .int .i64 8, .ptr 125 0 1, .ptr 123 0 1, .ptr 124 0 1, .ptr 126 0 1] [(5, ⟨.box, [.nilsl]⟩), (123, ⟨.box, [vB 5]⟩), (124, ⟨.box, [.ref 128 0 (n + 1) (n + 1) (n + 1) 1 false]⟩), (125, ⟨.box, [.int .i64 n]⟩), (126, ⟨.box, [puK 125 123 124 126]⟩), (128, ⟨.row, ics xs⟩)] 232 =
   some (.tup [], (5, ⟨.box, [oV 232 1 (eaR x n n [] 0 8).length]⟩) :: (123, ⟨.box, [vB 5]⟩) :: (124, ⟨.box, [.ref 128 0 (n + 1) (n + 1) (n + 1) 1 false]⟩) :: (125, ⟨.box, [.int .i64 n]⟩) :: (126, ⟨.box, [puK 125 123 124 126]⟩) :: (128, ⟨.row, ics xs⟩) :: oH 232 (lcs (eaR x n n [] 0 8))) := by
 obtain ⟨H, hp, ro⟩ := ZD4 (d := d) hn0 h6 hxl hxx hxb (sum := 0) rfl
 rw [Z0b rfl]
 have hks : (mark [(5, ⟨.box, [.nilsl]⟩), (123, ⟨.box, [vB 5]⟩), (124, ⟨.box, [.ref 128 0 (n + 1) (n + 1) (n + 1) 1 false]⟩), (125, ⟨.box, [.int .i64 n]⟩), (126, ⟨.box, [puK 125 123 124 126]⟩), (128, ⟨.row, ics xs⟩)] 1000 (refsL [.nilsl, .int .i64 0, .int .i64 8, .ptr 125 0 1, .ptr 123 0 1, .ptr 124 0 1, .ptr 126 0 1]) []).reverse = [125, 123, 5, 124, 128, 126] := rfl
 have hap : AM.apart [125, 123, 5, 124, 128, 126] = true := rfl
 have e1 : renL (posF [125, 123, 5, 124, 128, 126] 0) [.nilsl, .int .i64 0, .int .i64 8, .ptr 125 0 1, .ptr 123 0 1, .ptr 124 0 1, .ptr 126 0 1] = some [.nilsl, .int .i64 0, .int .i64 8, .ptr 0 0 1, .ptr 1 0 1, .ptr 3 0 1, .ptr 5 0 1] := rfl
 have e2 : foc (posF [125, 123, 5, 124, 128, 126] 0) [(5, ⟨.box, [.nilsl]⟩), (123, ⟨.box, [vB 5]⟩), (124, ⟨.box, [.ref 128 0 (n + 1) (n + 1) (n + 1) 1 false]⟩), (125, ⟨.box, [.int .i64 n]⟩), (126, ⟨.box, [puK 125 123 124 126]⟩), (128, ⟨.row, ics xs⟩)] 0 [125, 123, 5, 124, 128, 126] = some (ehN (ics xs) n) := rfl
 have hn := newsEN ro
 obtain ⟨h0, h1, h2, h3, h4, h5, hr⟩ := ro
 have hl6 : ([125, 123, 5, 124, 128, 126] : List Nat).length = 6 := rfl
 have er : List.range 6 = [0, 1, 2, 3, 4, 5] := rfl
 rw [hks]
 unfold focus
 rw [if_pos hap]
 simp only [e1, e2, hp, backF, hl6, hn, er]
 generalize eaR x n n [] 0 8 = R at *
 rcases ocvL 232 R with ⟨hn0, o1, o2⟩ | ⟨hp0, o1, o2⟩
 · rw [o1, o2]
   rw [hn0] at h2
   have hv : oV 560 1 ([] : List (List Int)).length = .nilsl := rfl
   rw [hv] at h2
   simp only [hn0, if_true, List.length_nil, baseF, freeL, AM.apart, List.append_nil, ren, renL, unf, outF, posF, h0, h1, h2, h3, h4, h5, List.getElem?_cons_zero, List.getElem?_cons_succ, Nat.reduceLT, if_true, goodB, BS.open_, Bool.true_or, renB, hl6, upds, Zi, Zl, Nat.reduceEqDiff, Nat.reduceLeDiff, if_false, Nat.reduceAdd]
 · rw [o1, o2]
   rw [ZR hp0] at h2
   have hr := hr hp0
   have hne : ¬ R = [] := fun e => by rw [e] at hp0; simp at hp0
   have hbase : baseF [(5, ⟨.box, [.nilsl]⟩), (123, ⟨.box, [vB 5]⟩), (124, ⟨.box, [.ref 128 0 (n + 1) (n + 1) (n + 1) 1 false]⟩), (125, ⟨.box, [.int .i64 n]⟩), (126, ⟨.box, [puK 125 123 124 126]⟩), (128, ⟨.row, ics xs⟩)] 1 8 232 = some 232 := rfl
   simp only [hne, if_false, List.length_cons, List.length_nil, Nat.zero_add, hbase, AM.apart, List.elem_nil, Bool.not_false, Bool.and_self, if_true, List.cons_append, List.nil_append, ren, renL, unf, outF, posF, h0, h1, h2, h3, h4, h5, hr, List.getElem?_cons_zero, List.getElem?_cons_succ, Nat.reduceLT, goodB, BS.open_, Bool.true_or, renB, hl6, upds, Zi, Zl, Nat.reduceEqDiff, Nat.reduceLeDiff, Nat.add_zero, reduceCtorEq]
def beL (row : List Int) : List (List Int) := eaR (ps (rowF row)) row.length row.length [] 0 8
theorem ZxB {d n : Nat} {row : List Int} {a : AV} (ha : IV row a) (h : Rw n row) (h0 : 0 < n) (h6 : n ≤ 6) : ∃ H, bodyA E (kF (d + n + 3)) fg 1000000 92 [a, vB 5] [(5, ⟨.box, [.nilsl]⟩)] 120 = some (.tup [], H) ∧ hget H 5 = some ⟨.box, [oV 232 1 (beL row).length]⟩ ∧ (0 < (beL row).length → hget H 232 = some ⟨.row, lcs (beL row)⟩) := by
 have hl := h.len
 obtain ⟨ex, rfl⟩ := Z67 ha (by omega)
 have hb := ps_b h
 have hri := fun (site : Nat → Nat) seen => Z3E (d := d + n + 2) (site := site) (seen := seen) (Z3V row ex) h (by omega)
 have hc := ZMv (d := d) (n := n) (xs := riL row) (x := ps (rowF row)) h0 h6 (by unfold riL; rw [Z4X, hl]) (fun j hj => Z3U (Z6I (by omega))) (fun j hj => by have := hb j hj; omega)
 have e : eaR (ps (rowF row)) n n [] 0 8 = beL row := by unfold beL; rw [hl]
 rw [e] at hc
 rw [hl] at hri
 have hlen := Z7 row
 simp only [hl] at hri ⊢
 generalize beL row = R at *
 generalize kF (d + n + 3) = C at *
 rcases ocvL 232 R with ⟨hn1, o1, o2⟩ | ⟨hp1, o1, o2⟩ <;> rw [o1, o2] at hc
 · simp (disch := omega) only [ZF, Z3, stp, opBox, just, Rd.bind, Rd.run, Rd.opt, upds, acells, zeroCells, tsz, rdCells, aLoad, aStore, opStore, resA, resL, fresh, aLen, Z1, putC, Nat.reduceAdd, Nat.reduceMul, Nat.reduceBEq, Nat.reduceEqDiff, Nat.reduceLeDiff, ↓reduceIte, reduceCtorEq, mutX, aCall, snaps, ZT, F_92, callV, Z0U, hri, hc]
   refine ⟨_, rfl, ?_⟩
   exact ⟨by rw [o1]; rfl, fun h => by rw [hn1] at h; simp at h⟩
 · simp (disch := omega) only [ZF, Z3, stp, opBox, just, Rd.bind, Rd.run, Rd.opt, upds, acells, zeroCells, tsz, rdCells, aLoad, aStore, opStore, resA, resL, fresh, aLen, Z1, putC, Nat.reduceAdd, Nat.reduceMul, Nat.reduceBEq, Nat.reduceEqDiff, Nat.reduceLeDiff, ↓reduceIte, reduceCtorEq, mutX, aCall, snaps, ZT, F_92, callV, Z0U, hri, hc]
   refine ⟨_, rfl, ?_⟩
   exact ⟨by rw [o1]; rfl, fun h => rfl⟩
end Go.AM.Ytfmnoohhhokicaa
end
end
