/- A part of the proof of rubFirst_holds: RpK. Own work of this project; texts printed by own programs among it. -/
import Derived.KernelRfl
import Derived.Test.YtfmnoohhhokicaaZvJ
set_option maxRecDepth 1000000
set_option maxHeartbeats 16000000
noncomputable section
noncomputable section
namespace Go.AM.Ytfmnoohhhokicaa
open Go Go.AM Go.AM.Rub
def joE (a b : List Int) : Int := if pairE a b ≠ 0 then pairE a b else if whV a b < 0 then 0 else 12
theorem ZlV {a b : List Int} : joE a b = 0 ↔ pairE a b = 0 ∧ whV a b < 0 := by
 unfold joE
 by_cases h : pairE a b = 0
 · rw [if_neg (fun e => e h)]
   by_cases hw : whV a b < 0
   · rw [if_pos hw]; exact ⟨fun _ => ⟨h, hw⟩, fun _ => rfl⟩
   · rw [if_neg hw]; exact ⟨fun e => absurd e (by decide), fun e => absurd e.2 hw⟩
 · rw [if_pos h]; exact ⟨fun e => absurd e h, fun e => absurd e.1 h⟩
theorem ZDN {d : Nat} {l m : List Int} {a b : AV} (ha : IV l a) (hb : IV m b) (hl : l.length ≤ 1000) (hm : m.length ≤ 1000) : rsOf (bodyA E (kF (d + 2)) fg 1000000 89 [a, b] [] 0) = some (.int .i64 (joE l m)) := by
 have hp := paC (d := d) ha hb hl hm
 have sa := Z2p ha
 have sb := Z2p hb
 unfold joE
 rcases hp with ⟨h, hp⟩ | ⟨h, hp⟩
 · rw [if_pos h]
   generalize kF (d + 2) = C at *
   generalize pairE l m = z at *
   have h0' : (z == 0) = false := by rw [beq_eq_false_iff_ne]; exact h
   simp (disch := omega) only [ZF, ↓gd, Z8, stp, opPick, justO, just, Rd.bind, Rd.run, Rd.opt, upds, Zs, resA, resL, aBin, aInt, Nat.reduceBEq, Nat.reduceEqDiff, Nat.reduceLeDiff, ↓reduceIte, reduceCtorEq, aCall, snaps, F_89, hp, h0', sa 198, sb 197]
 · obtain ⟨n, n0, n6, r1, r2, re⟩ := Z5q.1 h
   have ho := fun (site : Nat → Nat) seen x y => ZLb (d := d + 1) (site := site) (seen := seen) (a := riL l) (b := riL m) (n := n + 1) (x := x) (y := y) (by show (riP l l.length).length = _; rw [Z4N, r1.len]) (by show (riP m m.length).length = _; rw [Z4N, r2.len]) (by omega)
   have e1 : ovV (riL l) (riL m) = whV l m := rfl
   rw [e1] at ho
   rw [r1.len, r2.len] at hp
   have l1 := Z3K l
   have l2 := Z3K m
   rw [r1.len] at l1
   rw [r2.len] at l2
   have t1 : List.take (n + 1) (ics (riL l)) = ics (riL l) := List.take_of_length_le (by omega)
   have t2 : List.take (n + 1) (ics (riL m)) = ics (riL m) := List.take_of_length_le (by omega)
   rw [h, if_neg (fun e : (0 : Int) ≠ 0 => e rfl)]
   generalize kF (d + 2) = C at *
   generalize whV l m = w at *
   by_cases hw : w < 0
   · rw [if_pos hw]
     have g : ¬ w ≥ 0 := by omega
     simp (disch := omega) only [ZF, ↓gd, Z8, stp, opPick, justO, just, Rd.bind, Rd.run, Rd.opt, upds, Zs, resA, resL, aBin, aInt, Nat.reduceAdd, Nat.reduceMul, Nat.reduceBEq, Nat.reduceEqDiff, Nat.reduceLeDiff, ↓reduceIte, reduceCtorEq, aCall, snaps, F_89, hp, ho, g, l1, l2, t1, t2, sa 198, sb 197]
   · rw [if_neg hw]
     have g : w ≥ 0 := by omega
     simp (disch := omega) only [ZF, ↓gd, Z8, stp, opPick, justO, just, Rd.bind, Rd.run, Rd.opt, upds, Zs, resA, resL, aBin, aInt, Nat.reduceAdd, Nat.reduceMul, Nat.reduceBEq, Nat.reduceEqDiff, Nat.reduceLeDiff, ↓reduceIte, reduceCtorEq, aCall, snaps, F_89, hp, ho, g, l1, l2, t1, t2, sa 198, sb 197]
theorem Z8j {d : Nat} {site : Nat → Nat} {seen : List Nat} {l m : List Int} {a b : AV} (ha : IV l a) (hb : IV m b) (hl : l.length ≤ 1000) (hm : m.length ≤ 1000) : aBack site true seen (thaw (kF (d + 3)) 89 [a, b] [] 0) = .pure (.int .i64 (joE l m), []) :=
 Z0W (Z1u rfl (ZDN ha hb hl hm))
abbrev apS (a b : List Int) (n : Nat) (x y : Bool) (i : Nat) : St := ([(9, .int .i64 i), (8, .int .i64 n), (5, .int .i64 (ap (rowF a) (rowF b) i)), (1, .imm (ics b) n y), (0, .imm (ics a) n x)], [])
theorem ap_b {a b : List Int} {n : Nat} (ha : Rw n a) (hb : Rw n b) : ∀ i, i ≤ n → 0 ≤ ap (rowF a) (rowF b) i ∧ ap (rowF a) (rowF b) i ≤ 8 * i
 | 0, _ => by simp [ap, ps]
 | i + 1, hi => by
   have ih := ap_b ha hb i (by omega)
   have h1 := rw_b ha (k := i) (by omega)
   have h2 := rw_b hb (k := i) (by omega)
   have e : ap (rowF a) (rowF b) (i + 1) = ap (rowF a) (rowF b) i + max (rowF a i - rowF b i) 0 := rfl
   rw [e]
   omega
theorem ZHN {C : Callee} {a b : List Int} {n : Nat} {x y : Bool} (ha : Rw n a) (hb : Rw n b) (hn : n ≤ 8) : rsOf (bodyA E C fg 1000000 90 [.imm (ics a) n x, .imm (ics b) n y] [] 0) = some (.int .i64 (apL a b)) := by
 have la : (ics a).length = n := by rw [Z6, ha.len]
 have lb : (ics b).length = n := by rw [Z6, hb.len]
 rw [Z0k, ha.len]
 have hloop := loopM (f := (execA E C (fg 90) 0 26 [] 1000000 Zap)) (E0 := []) (apS a b n x y) n (fun i hi => by
     have a1 := Zu (l := a) (k := i) (by rw [ha.len]; exact hi)
     have a2 := Zu (l := b) (k := i) (by rw [hb.len]; exact hi)
     have b1 := rw_b ha (k := i) hi
     have b2 := rw_b hb (k := i) hi
     have b3 := ap_b ha hb i (by omega)
     have e : ap (rowF a) (rowF b) (i + 1) = ap (rowF a) (rowF b) i + max (rowF a i - rowF b i) 0 := rfl
     have g1 : (i : Int) < n := by omega
     simp only [apS, e]
     generalize ap (rowF a) (rowF b) i = P at *
     generalize rowF a i = u at *
     generalize rowF b i = v at *
     have w1 : wrp .i64 (u - v) = u - v := Zv (by omega)
     have w2 : wrp .i64 (P + max (u - v) 0) = P + max (u - v) 0 := Zv (by omega)
     have e1 : (if u - v > 0 then u - v else 0) = max (u - v) 0 := by split <;> omega
     have e2 : (if 0 > u - v then 0 else u - v) = max (u - v) 0 := by split <;> omega
     simp (disch := omega) only [ZF, stp, justO, just, Rd.bind, Rd.run, Rd.opt, upds, tsz, rdCells, aLoad, Z2, aNum, Z4, aMax, aBin, aInt, Nat.reduceAdd, Nat.reduceLT, Nat.reduceBEq, Nat.reduceEqDiff, Nat.reduceLeDiff, ↓reduceIte, reduceCtorEq, stpT, Rd.foot, writing, Z9, Tr.empty, Za, ZT, F_90, aMax, g1, a1, a2, la, lb, w1, w2, e2, Zl (show i < 1000000 by omega)]
     exact ⟨_, rfl, rfl⟩) rfl (by omega)
   (e := .exit 0) (se := ([(10, .bool false), (9, .int .i64 n), (8, .int .i64 n), (5, .int .i64 (ap (rowF a) (rowF b) n)), (1, .imm (ics b) n y), (0, .imm (ics a) n x)], []))
   (by simp (disch := omega) only [ZF, stp, just, Rd.bind, Rd.run, Rd.opt, upds, aBin, aInt, Nat.reduceEqDiff, Nat.reduceLeDiff, ↓reduceIte, F_90, apS]) (by simp)
 have e0 : ap (rowF a) (rowF b) 0 = 0 := rfl
 simp only [apS, cl0, e0] at hloop
 generalize ap (rowF a) (rowF b) n = P at *
 simp (disch := omega) only [ZF, Z8, stp, just, Rd.bind, Rd.run, upds, resA, resL, aLen, Z4, Nat.reduceBEq, Nat.reduceEqDiff, Nat.reduceLeDiff, ↓reduceIte, reduceCtorEq, ZT, F_90, hloop]
theorem ZEh {d : Nat} {site : Nat → Nat} {seen : List Nat} {a b : List Int} {n : Nat} {x y : Bool} (ha : Rw n a) (hb : Rw n b) (hn : n ≤ 8) : aBack site true seen (thaw (kF (d + 1)) 90 [.imm (ics a) n x, .imm (ics b) n y] [] 0) = .pure (.int .i64 (apL a b), []) :=
 Z0W (Z1u rfl (ZHN ha hb hn))
end Go.AM.Ytfmnoohhhokicaa
end
noncomputable section
namespace Go.AM.Ytfmnoohhhokicaa
open Go Go.AM
variable {C : Callee} {B N : Nat} {E0 : AHeap} (φ : AFr) (H : AHeap) (s : St)
def Z9J := kBody Proofs.Try.f33
def ZEE := kL Z9J
def Z46 := kO ZEE
def Zz5 := opN Z46 0
def ZAq := opN Z46 1
def ZAc := opN Z46 2
theorem Z0jv : XG 33 63 ZEE Z46 [4, 5, 6] := Z1 (by rfl) (by rfl) _
theorem Z07c : Z46.toList = [Zz5, ZAq, ZAc] := nf
theorem Z01p : stepA E C B 63 Z46 Zz5 (φ, H) = some (fput φ 4 (.int .i64 0), H) := nf
theorem ZXx : stepA E C B 63 Z46 ZAq (φ, H) = some (fput φ 5 (.int .i64 0), H) := nf
theorem ZZ4 : stepA E C B 63 Z46 ZAc (φ, H) = some (fput φ 6 (.int .i64 0), H) := nf
def ZiL := kR Z9J
def Zj1 := kL ZiL
def ZET := kL Zj1
def Z2P := kO ZET
def ZxT := opN Z2P 0
def ZCG := opN Z2P 1
def ZCH := opN Z2P 2
def ZBM := opN Z2P 3
theorem Z0kT : XG 33 63 ZET Z2P [11, 12, 13] := Z1 (by rfl) (by rfl) _
theorem Z01U : Z2P.toList = [ZxT, ZCG, ZCH, ZBM] := nf
theorem Z04u : stepA E C B 63 Z2P ZxT (φ, H) = some (fput φ 11 (fget φ 0), H) := nf
theorem Z05L : stepA E C B 63 Z2P ZCG (φ, H) = some (fput φ 12 (fget φ 1), H) := nf
theorem Z07n : stepA E C B 63 Z2P ZCH (φ, H) = stp (some 13) φ H (aCall C (fun j => B + j * 63 + 13) true 89 [(fget φ 11), (fget φ 12)]) := nf
theorem Z069 : stepA E C B 63 Z2P ZBM (φ, H) = some (fput φ 7 (fget φ 13), H) := nf
def ZiY := kR Zj1
def ZEa := kL ZiY
def Z6z := kO ZEa
def ZB0 := opN Z6z 0
def ZBh := opN Z6z 1
theorem Z0kr : XG 33 63 ZEa Z6z [14] := Z1 (by rfl) (by rfl) _
theorem ZZI : Z6z.toList = [ZB0, ZBh] := nf
theorem Z03r : stepA E C B 63 Z6z ZB0 (φ, H) = some (fput φ 14 (fget φ 7), H) := nf
theorem Z00l : stepA E C B 63 Z6z ZBh (φ, H) = stp (some 15) φ H (just (aBin E.T .neq 24 (fget φ 14) (.int .i64 0))) := nf
def Zjb := kR ZiY
def Zkd := kT Zjb
def ZFg := kL Zkd
def Z2U := kO ZFg
def ZwE := opN Z2U 0
def Zxo := opN Z2U 1
def ZDg := opN Z2U 2
def ZzD := opN Z2U 3
theorem Z0mD : XG 33 63 ZFg Z2U [0, 1, 7, 15, 16] := Z1 (by rfl) (by rfl) _
theorem Z05w : Z2U.toList = [ZwE, Zxo, ZDg, ZzD] := nf
theorem Z05a : stepA E C B 63 Z2U ZwE (φ, H) = some (fput φ 16 (fget φ 7), H) := nf
theorem Z0a3 : stepA E C B 63 Z2U Zxo (φ, H) = some (fput φ 4 (.int .i64 0), H) := nf
theorem Z0ad : stepA E C B 63 Z2U ZDg (φ, H) = some (fput φ 5 (.int .i64 0), H) := nf
theorem ZWN : stepA E C B 63 Z2U ZzD (φ, H) = some (fput φ 6 (fget φ 16), H) := nf
def ZLG := kR Zkd
theorem Z0dV : execA E C (fg 33) B 63 E0 N ZLG s = some (.ret, s) := Zq (by rfl) s
theorem Z0k5 : XQ 33 63 Zkd ZFg ZLG := Z0 (by rfl) _
def ZIT := kE Zjb
theorem Z0bx : execA E C (fg 33) B 63 E0 N ZIT s = some (.normal, s) := Zh (by rfl) s
theorem Z0mt : XC 33 63 Zjb 15 Zkd ZIT := Zf (by rfl) _
theorem Z0jc : XQ 33 63 ZiY ZEa Zjb := Z0 (by rfl) _
theorem Z0iU : XQ 33 63 Zj1 ZET ZiY := Z0 (by rfl) _
def Zb5 := kR ZiL
def Zba := kL Zb5
def Zql := kL Zba
def Z4y := kO Zql
def ZBD := opN Z4y 0
def Zyi := opN Z4y 1
def Zze := opN Z4y 2
theorem Z0dg : XG 33 63 Zql Z4y [7, 15, 17] := Z1 (by rfl) (by rfl) _
theorem Z076 : Z4y.toList = [ZBD, Zyi, Zze] := nf
theorem ZZ3 : stepA E C B 63 Z4y ZBD (φ, H) = some (fput φ 17 (fget φ 0), H) := nf
theorem Z03R : stepA E C B 63 Z4y Zyi (φ, H) = stp (some 18) φ H (Z4 E.T (B + 18) .len #[22] [(fget φ 17)]) := nf
theorem Z039 : stepA E C B 63 Z4y Zze (φ, H) = some (fput φ 19 (.int .i64 0), H) := nf
def ZkJ := kR Zba
def Zqb := kB ZkJ
def Z3S := kB Zqb
def ZmJ := kL Z3S
def ZjP := kO ZmJ
def ZwC := opN ZjP 0
theorem Z0ip : XG 33 63 ZmJ ZjP [] := Z1 (by rfl) (by rfl) _
theorem Z09U : ZjP.toList = [ZwC] := nf
theorem ZYT : stepA E C B 63 ZjP ZwC (φ, H) = stp (some 20) φ H (just (aBin E.T .lss 3 (fget φ 19) (fget φ 18))) := nf
def Z99 := kR Z3S
def Za7 := kL Z99
def ZKj := kT Za7
theorem Z0fc : execA E C (fg 33) B 63 E0 N ZKj s = some (.normal, s) := Zh (by rfl) s
def ZLD := kE Za7
theorem Z0bm : execA E C (fg 33) B 63 E0 N ZLD s = some (.exit 0, s) := ZI (by rfl) s
theorem Z0aG : XC 33 63 Za7 20 ZKj ZLD := Zf (by rfl) _
def Zbd := kR Z99
def Zr8 := kL Zbd
def Zc3 := kB Zr8
def ZkX := kL Zc3
def Z7t := kO ZkX
def Zv2 := opN Z7t 0
def Zyj := opN Z7t 1
theorem Z0hr : XG 33 63 ZkX Z7t [20, 21] := Z1 (by rfl) (by rfl) _
theorem Z04Q : Z7t.toList = [Zv2, Zyj] := nf
theorem ZZo : stepA E C B 63 Z7t Zv2 (φ, H) = some (fput φ 21 (fget φ 19), H) := nf
theorem Z00j : stepA E C B 63 Z7t Zyj (φ, H) = some (fput φ 8 (fget φ 21), H) := nf
def Zcj := kR Zc3
def Zl6 := kL Zcj
def Z4x := kO Zl6
def ZwO := opN Z4x 0
def Zvs := opN Z4x 1
def ZzZ := opN Z4x 2
theorem Z0gf : XG 33 63 Zl6 Z4x [22, 23] := Z1 (by rfl) (by rfl) _
theorem Z00o : Z4x.toList = [ZwO, Zvs, ZzZ] := nf
theorem Z093 : stepA E C B 63 Z4x ZwO (φ, H) = some (fput φ 22 (fget φ 8), H) := nf
theorem Z08e : stepA E C B 63 Z4x Zvs (φ, H) = stp (some 23) φ H (just (aBin E.T .add 3 (fget φ 22) (.int .i64 1))) := nf
theorem Z06k : stepA E C B 63 Z4x ZzZ (φ, H) = some (fput φ 9 (fget φ 23), H) := nf
def Zrg := kR Zcj
def Zs7 := kB Zrg
def Z3P := kB Zs7
def ZbJ := kL Z3P
def ZsG := kL ZbJ
def Z2F := kO ZsG
def ZyH := opN Z2F 0
def ZBF := opN Z2F 1
def ZwR := opN Z2F 2
def ZBn := opN Z2F 3
theorem Z0be : XG 33 63 ZsG Z2F [24, 25, 26] := Z1 (by rfl) (by rfl) _
theorem Z01T : Z2F.toList = [ZyH, ZBF, ZwR, ZBn] := nf
theorem Z0ar : stepA E C B 63 Z2F ZyH (φ, H) = some (fput φ 24 (fget φ 9), H) := nf
theorem Z068 : stepA E C B 63 Z2F ZBF (φ, H) = some (fput φ 25 (fget φ 0), H) := nf
theorem Z09m : stepA E C B 63 Z2F ZwR (φ, H) = stp (some 26) φ H (Z4 E.T (B + 26) .len #[22] [(fget φ 25)]) := nf
theorem Z06F : stepA E C B 63 Z2F ZBn (φ, H) = stp (some 27) φ H (just (aBin E.T .lss 3 (fget φ 24) (fget φ 26))) := nf
def Z97 := kR ZbJ
def ZGU := kT Z97
theorem Z0eF : execA E C (fg 33) B 63 E0 N ZGU s = some (.normal, s) := Zh (by rfl) s
def ZKL := kE Z97
theorem Z0gq : execA E C (fg 33) B 63 E0 N ZKL s = some (.exit 2, s) := ZI (by rfl) s
theorem Z0fi : XC 33 63 Z97 27 ZGU ZKL := Zf (by rfl) _
theorem Z0bq : XQ 33 63 ZbJ ZsG Z97 := Z0 (by rfl) _
def ZaS := kR Z3P
def ZpQ := kL ZaS
def ZbW := kB ZpQ
def Zcl := kL ZbW
def ZsY := kL Zcl
def ZH := kO ZsY
def ZmQ := opN ZH 0
def ZrX := opN ZH 1
def ZoE := opN ZH 2
def Zqq := opN ZH 3
def Zrr := opN ZH 4
def ZnY := opN ZH 5
def ZtA := opN ZH 6
def Zs2 := opN ZH 7
def ZmI := opN ZH 8
def Ztr := opN ZH 9
theorem Z0b3 : XD 33 63 ZsY ZH [27, 30, 31, 32, 33, 34, 35, 36, 37, 38] := Z0h (by rfl) (by rfl) _
theorem ZU3 : ZH.toList = [ZmQ, ZrX, ZoE, Zqq, Zrr, ZnY, ZtA, Zs2, ZmI, Ztr] := nf
theorem ZHW : statOk ZH = true := by kernel_rfl
theorem ZKx : drawA E C B 63 ZH s = if neat 63 s = true then drX ZH (runT E C B 63 ZH ZH.toList 0 s) else none := Z00 ZHW s
theorem ZLa (l : List (Nat × Tr)) : dynOk ZH l = (!writing l || Za [[], [], [0, 1], [0, 1, 2], [], [], [4, 5], [4, 5, 6], [0, 1, 2, 3, 4, 5, 6, 7], [0, 1, 2, 3, 4, 5, 6, 7, 8]] (Z9 l)) := ZQ (by kernel_rfl) l
theorem ZQx : stepT E C B 63 ZH ZmQ (φ, H) = some ((fput φ 30 (fget φ 0), H), ⟨false, [], []⟩) := Z3 rfl (Z7 rfl rfl)
theorem ZNC : stepT E C B 63 ZH ZrX (φ, H) = some ((fput φ 31 (fget φ 8), H), ⟨false, [], []⟩) := Z3 rfl (Z7 rfl rfl)
theorem ZVb : stepT E C B 63 ZH ZoE (φ, H) = stpT (some 32) φ H (just (Z2 E.T 22 (fget φ 30) (fget φ 31))) := Z3 rfl (Z5 rfl rfl)
theorem ZTX : stepT E C B 63 ZH Zqq (φ, H) = stpT (some 33) φ H (just (aLoad E.T 3 (fget φ 32))) := Z3 rfl (Z5 rfl rfl)
theorem ZR6 : stepT E C B 63 ZH Zrr (φ, H) = some ((fput φ 34 (fget φ 0), H), ⟨false, [], []⟩) := Z3 rfl (Z7 rfl rfl)
theorem ZNm : stepT E C B 63 ZH ZnY (φ, H) = some ((fput φ 35 (fget φ 9), H), ⟨false, [], []⟩) := Z3 rfl (Z7 rfl rfl)
theorem ZSx : stepT E C B 63 ZH ZtA (φ, H) = stpT (some 36) φ H (just (Z2 E.T 22 (fget φ 34) (fget φ 35))) := Z3 rfl (Z5 rfl rfl)
theorem ZP2 : stepT E C B 63 ZH Zs2 (φ, H) = stpT (some 37) φ H (just (aLoad E.T 3 (fget φ 36))) := Z3 rfl (Z5 rfl rfl)
theorem ZU8 : stepT E C B 63 ZH ZmI (φ, H) = stpT (some 38) φ H (just (aBin E.T .sub 3 (fget φ 33) (fget φ 37))) := Z3 rfl (Z5 rfl rfl)
theorem ZVr : stepT E C B 63 ZH Ztr (φ, H) = stpT (some 39) φ H (just (aBin E.T .lss 3 (fget φ 38) (.int .i64 2))) := Z3 rfl (Z5 rfl rfl)
def ZaR := kR Zcl
def ZHS := kT ZaR
theorem Z0cT : execA E C (fg 33) B 63 E0 N ZHS s = some (.exit 3, s) := ZI (by rfl) s
def ZM3 := kE ZaR
theorem Z0ey : execA E C (fg 33) B 63 E0 N ZM3 s = some (.normal, s) := Zh (by rfl) s
theorem Z0az : XC 33 63 ZaR 39 ZHS ZM3 := Zf (by rfl) _
theorem Z0cv : XQ 33 63 Zcl ZsY ZaR := Z0 (by rfl) _
def Zbf := kR ZbW
def Zls := kL Zbf
def Z0y := kO Zls
def ZmT := opN Z0y 0
def Zkw := opN Z0y 1
def Zot := opN Z0y 2
def ZpA := opN Z0y 3
def ZpB := opN Z0y 4
def ZnO := opN Z0y 5
def ZsK := opN Z0y 6
def Zs3 := opN Z0y 7
theorem Z0iI : XG 33 63 Zls Z0y [39, 40, 41, 42, 43, 44, 45, 46] := Z1 (by rfl) (by rfl) _
theorem ZPA : Z0y.toList = [ZmT, Zkw, Zot, ZpA, ZpB, ZnO, ZsK, Zs3] := nf
theorem ZNz : stepA E C B 63 Z0y ZmT (φ, H) = some (fput φ 40 (fget φ 0), H) := nf
theorem ZVI : stepA E C B 63 Z0y Zkw (φ, H) = stp (some 41) φ H (aCall C (fun j => B + j * 63 + 41) true 82 [(fget φ 40)]) := nf
theorem ZTz : stepA E C B 63 Z0y Zot (φ, H) = some (fput φ 42 (fget φ 0), H) := nf
theorem ZTK : stepA E C B 63 Z0y ZpA (φ, H) = stp (some 43) φ H (Z4 E.T (B + 43) .len #[22] [(fget φ 42)]) := nf
theorem ZQX : stepA E C B 63 Z0y ZpB (φ, H) = some (fput φ 44 (fget φ 8), H) := nf
theorem ZOx : stepA E C B 63 Z0y ZnO (φ, H) = some (fput φ 45 (fget φ 9), H) := nf
theorem ZO2 : stepA E C B 63 Z0y ZsK (φ, H) = stp (some 46) φ H (aCall C (fun j => B + j * 63 + 46) true 83 [(fget φ 41), (fget φ 43), (fget φ 44), (fget φ 45)]) := nf
theorem ZPs : stepA E C B 63 Z0y Zs3 (φ, H) = some (fput φ 10 (fget φ 46), H) := nf
def Zax := kR Zbf
def ZoJ := kL Zax
def ZE := kO ZoJ
def ZtC := opN ZE 0
def Zl4 := opN ZE 1
def Zuu := opN ZE 2
def Zre := opN ZE 3
def Z1a := opN ZE 4
def ZsE := opN ZE 5
def Zu2 := opN ZE 6
def ZmM := opN ZE 7
def ZpJ := opN ZE 8
def ZqY := opN ZE 9
def ZfA := opN ZE 10
def ZfK := opN ZE 11
def ZfT := opN ZE 12
theorem Z0hk : XG 33 63 ZoJ ZE [10, 47, 48, 49, 50, 51, 52, 53, 54, 55, 56, 57, 58] := Z1 (by rfl) (by rfl) _
theorem ZQ4 : ZE.toList = [ZtC, Zl4, Zuu, Zre, Z1a, ZsE, Zu2, ZmM, ZpJ, ZqY, ZfA, ZfK, ZfT] := nf
theorem ZUx : stepA E C B 63 ZE ZtC (φ, H) = some (fput φ 47 (fget φ 10), H) := nf
theorem ZVK : stepA E C B 63 ZE Zl4 (φ, H) = some (fput φ 48 (fget φ 1), H) := nf
theorem ZWe : stepA E C B 63 ZE Zuu (φ, H) = stp (some 49) φ H (aCall C (fun j => B + j * 63 + 49) true 89 [(fget φ 47), (fget φ 48)]) := nf
theorem ZRz : stepA E C B 63 ZE Zre (φ, H) = stp (some 50) φ H (just (aBin E.T .eql 24 (fget φ 49) (.int .i64 0))) := nf
theorem ZNG : stepA E C B 63 ZE Z1a (φ, H) = some (fput φ 51 (fget φ 50), H) := nf
theorem ZT2 : stepA E C B 63 ZE ZsE (φ, H) = gd φ 51 true (fun φ => some (fput φ 52 (.tup []), H)) (fun φ => some (fput φ 52 (fget φ 10), H)) := s_gd (j := 4) (oj := Z1a) rfl rfl rfl (fun _ => rfl) (fun _ => rfl)
theorem ZRI : stepA E C B 63 ZE Zu2 (φ, H) = gd φ 51 true (fun φ => some (fput φ 53 (.tup []), H)) (fun φ => some (fput φ 53 (fget φ 1), H)) := s_gd (j := 4) (oj := Z1a) rfl rfl rfl (fun _ => rfl) (fun _ => rfl)
theorem ZV2 : stepA E C B 63 ZE ZmM (φ, H) = gd φ 51 true (fun φ => some (fput φ 54 (.tup []), H)) (fun φ => stp (some 54) φ H (aCall C (fun j => B + j * 63 + 54) true 90 [(fget φ 52), (fget φ 53)])) := s_gd (j := 4) (oj := Z1a) rfl rfl rfl (fun _ => rfl) (fun _ => rfl)
theorem ZQW : stepA E C B 63 ZE ZpJ (φ, H) = gd φ 51 true (fun φ => some (fput φ 55 (.tup []), H)) (fun φ => some (fput φ 55 (fget φ 0), H)) := s_gd (j := 4) (oj := Z1a) rfl rfl rfl (fun _ => rfl) (fun _ => rfl)
theorem ZTp : stepA E C B 63 ZE ZqY (φ, H) = gd φ 51 true (fun φ => some (fput φ 56 (.tup []), H)) (fun φ => some (fput φ 56 (fget φ 1), H)) := s_gd (j := 4) (oj := Z1a) rfl rfl rfl (fun _ => rfl) (fun _ => rfl)
theorem ZGx : stepA E C B 63 ZE ZfA (φ, H) = gd φ 51 true (fun φ => some (fput φ 57 (.tup []), H)) (fun φ => stp (some 57) φ H (aCall C (fun j => B + j * 63 + 57) true 90 [(fget φ 55), (fget φ 56)])) := s_gd (j := 4) (oj := Z1a) rfl rfl rfl (fun _ => rfl) (fun _ => rfl)
theorem ZFP : stepA E C B 63 ZE ZfK (φ, H) = gd φ 51 true (fun φ => some (fput φ 58 (.tup []), H)) (fun φ => stp (some 58) φ H (just (aBin E.T .lss 3 (fget φ 54) (fget φ 57)))) := s_gd (j := 4) (oj := Z1a) rfl rfl rfl (fun _ => rfl) (fun _ => rfl)
theorem ZM1 : stepA E C B 63 ZE ZfT (φ, H) = stp (some 59) φ H (opPick (fget φ 51) (fget φ 58) (.bool false)) := nf
def ZaY := kR Zax
def Zay := kT ZaY
def Zmi := kL Zay
def Z1i := kO Zmi
def ZlB := opN Z1i 0
def ZpO := opN Z1i 1
def Zqf := opN Z1i 2
def ZoY := opN Z1i 3
def Zuk := opN Z1i 4
theorem Z0em : XG 33 63 Zmi Z1i [0, 1, 8, 9, 18, 19, 59, 60, 61] := Z1 (by rfl) (by rfl) _
theorem ZO8 : Z1i.toList = [ZlB, ZpO, Zqf, ZoY, Zuk] := nf
theorem ZVL : stepA E C B 63 Z1i ZlB (φ, H) = some (fput φ 60 (fget φ 8), H) := nf
theorem ZRA : stepA E C B 63 Z1i ZpO (φ, H) = some (fput φ 61 (fget φ 9), H) := nf
theorem ZV6 : stepA E C B 63 Z1i Zqf (φ, H) = some (fput φ 4 (fget φ 60), H) := nf
theorem ZP8 : stepA E C B 63 Z1i ZoY (φ, H) = some (fput φ 5 (fget φ 61), H) := nf
theorem ZUB : stepA E C B 63 Z1i Zuk (φ, H) = some (fput φ 6 (.int .i64 0), H) := nf
def ZMY := kR Zay
theorem Z0eX : execA E C (fg 33) B 63 E0 N ZMY s = some (.ret, s) := Zq (by rfl) s
theorem Z0d4 : XQ 33 63 Zay Zmi ZMY := Z0 (by rfl) _
def ZH0 := kE ZaY
theorem Z0c4 : execA E C (fg 33) B 63 E0 N ZH0 s = some (.normal, s) := Zh (by rfl) s
theorem Z0cV : XC 33 63 ZaY 59 Zay ZH0 := Zf (by rfl) _
theorem Z0gx : XQ 33 63 Zax ZoJ ZaY := Z0 (by rfl) _
theorem Z0fh : XQ 33 63 Zbf Zls Zax := Z0 (by rfl) _
theorem Z0gR : XQ 33 63 ZbW Zcl Zbf := Z0 (by rfl) _
theorem Z0cX : execA E C (fg 33) B 63 E0 N ZpQ s = blockX 3 (fun s => (forget s.1 [39, 59], s.2)) (execA E C (fg 33) B 63 E0 N ZbW s) := Ze (by rfl) (by rfl) s
def Ztz := kR ZaS
def Z4v := kO Ztz
def ZAD := opN Z4v 0
def ZuY := opN Z4v 1
def Zwj := opN Z4v 2
theorem Z0aI : XG 33 63 Ztz Z4v [28, 29] := Z1 (by rfl) (by rfl) _
theorem ZYe : Z4v.toList = [ZAD, ZuY, Zwj] := nf
theorem Z07q : stepA E C B 63 Z4v ZAD (φ, H) = some (fput φ 28 (fget φ 9), H) := nf
theorem Z014 : stepA E C B 63 Z4v ZuY (φ, H) = stp (some 29) φ H (just (aBin E.T .add 3 (fget φ 28) (.int .i64 1))) := nf
theorem Z07P : stepA E C B 63 Z4v Zwj (φ, H) = some (fput φ 9 (fget φ 29), H) := nf
theorem Z0fz : XQ 33 63 ZaS ZpQ Ztz := Z0 (by rfl) _
theorem Z0iz : XQ 33 63 Z3P ZbJ ZaS := Z0 (by rfl) _
theorem Z0gv : execA E C (fg 33) B 63 E0 N Zs7 s = iterA (execA E C (fg 33) B 63 E0 N Z3P) (headA E0) N s := ZV (by rfl) s
theorem Z0bS : execA E C (fg 33) B 63 E0 N Zrg s = blockX 2 (fun s => (forget s.1 [8, 9, 27], s.2)) (execA E C (fg 33) B 63 E0 N Zs7 s) := Ze (by rfl) (by rfl) s
theorem Z0gp : XQ 33 63 Zcj Zl6 Zrg := Z0 (by rfl) _
theorem Z0hq : XQ 33 63 Zc3 ZkX Zcj := Z0 (by rfl) _
theorem Z0iH : execA E C (fg 33) B 63 E0 N Zr8 s = blockX 1 (fun s => (forget s.1 [], s.2)) (execA E C (fg 33) B 63 E0 N Zc3 s) := Ze (by rfl) (by rfl) s
def Ztd := kR Zbd
def Z4S := kO Ztd
def ZpG := opN Z4S 0
def Zso := opN Z4S 1
theorem Z0er : XG 33 63 Ztd Z4S [62] := Z1 (by rfl) (by rfl) _
theorem ZS6 : Z4S.toList = [ZpG, Zso] := nf
theorem ZW6 : stepA E C B 63 Z4S ZpG (φ, H) = stp (some 62) φ H (just (aBin E.T .add 3 (fget φ 19) (.int .i64 1))) := nf
theorem ZPz : stepA E C B 63 Z4S Zso (φ, H) = some (fput φ 19 (fget φ 62), H) := nf
theorem Z0gg : XQ 33 63 Zbd Zr8 Ztd := Z0 (by rfl) _
theorem Z0gA : XQ 33 63 Z99 Za7 Zbd := Z0 (by rfl) _
theorem Z0gO : XQ 33 63 Z3S ZmJ Z99 := Z0 (by rfl) _
theorem Z0cH : execA E C (fg 33) B 63 E0 N Zqb s = iterA (execA E C (fg 33) B 63 E0 N Z3S) (headA E0) N s := ZV (by rfl) s
theorem Z0hb : execA E C (fg 33) B 63 E0 N ZkJ s = blockX 0 (fun s => (forget s.1 [0, 1, 18, 19, 20], s.2)) (execA E C (fg 33) B 63 E0 N Zqb s) := Ze (by rfl) (by rfl) s
theorem Z0aU : XQ 33 63 Zba Zql ZkJ := Z0 (by rfl) _
def Zah := kR Zb5
def ZpH := kL Zah
def Z2W := kO ZpH
def ZlZ := opN Z2W 0
def ZnN := opN Z2W 1
def Zsk := opN Z2W 2
theorem Z0hV : XG 33 63 ZpH Z2W [] := Z1 (by rfl) (by rfl) _
theorem ZQS : Z2W.toList = [ZlZ, ZnN, Zsk] := nf
theorem ZUi : stepA E C B 63 Z2W ZlZ (φ, H) = some (fput φ 4 (.int .i64 0), H) := nf
theorem ZTs : stepA E C B 63 Z2W ZnN (φ, H) = some (fput φ 5 (.int .i64 0), H) := nf
theorem ZTA : stepA E C B 63 Z2W Zsk (φ, H) = some (fput φ 6 (.int .i64 13), H) := nf
def ZGo := kR Zah
theorem Z0cG : execA E C (fg 33) B 63 E0 N ZGo s = some (.ret, s) := Zq (by rfl) s
theorem Z0ih : XQ 33 63 Zah ZpH ZGo := Z0 (by rfl) _
theorem Z0bL : XQ 33 63 Zb5 Zba Zah := Z0 (by rfl) _
theorem Z0iN : XQ 33 63 ZiL Zj1 Zb5 := Z0 (by rfl) _
theorem Z0np : XQ 33 63 Z9J ZEE ZiL := Z0 (by rfl) _
theorem Z0me : fInfo E 33 = some ⟨63, #[.tmp 4, .tmp 5, .tmp 6], Z9J⟩ := nf
theorem b_33 (args : List AV) : bodyA E C fg N 33 args H B = bodyX E [.tmp 4, .tmp 5, .tmp 6] (execA E C (fg 33) B 63 H N Z9J (Z8 args 0 [], H)) := Zt Z0me args H
abbrev F_33 := And.intro (And.intro (And.intro (And.intro (And.intro (And.intro (And.intro @Z0jv @Z07c) (And.intro @Z01p @ZXx)) (And.intro (And.intro @ZZ4 @Z0kT) (And.intro @Z01U (And.intro @Z04u @Z05L)))) (And.intro (And.intro (And.intro @Z07n @Z069) (And.intro @Z0kr @ZZI)) (And.intro (And.intro @Z03r @Z00l) (And.intro @Z0mD (And.intro @Z05w @Z05a))))) (And.intro (And.intro (And.intro (And.intro @Z0a3 @Z0ad) (And.intro @ZWN @Z0dV)) (And.intro (And.intro @Z0k5 @Z0bx) (And.intro @Z0mt (And.intro @Z0jc @Z0iU)))) (And.intro (And.intro (And.intro @Z0dg @Z076) (And.intro @ZZ3 (And.intro @Z03R @Z039))) (And.intro (And.intro @Z0ip @Z09U) (And.intro @ZYT (And.intro @Z0fc @Z0bm)))))) (And.intro (And.intro (And.intro (And.intro (And.intro @Z0aG @Z0hr) (And.intro @Z04Q @ZZo)) (And.intro (And.intro @Z00j @Z0gf) (And.intro @Z00o (And.intro @Z093 @Z08e)))) (And.intro (And.intro (And.intro @Z06k @Z0be) (And.intro @Z01T @Z0ar)) (And.intro (And.intro @Z068 @Z09m) (And.intro @Z06F (And.intro @Z0eF @Z0gq))))) (And.intro (And.intro (And.intro (And.intro @Z0fi @Z0bq) (And.intro @Z0b3 @ZU3)) (And.intro (And.intro @ZKx @ZLa) (And.intro @ZQx (And.intro @ZNC @ZVb)))) (And.intro (And.intro (And.intro @ZTX @ZR6) (And.intro @ZNm (And.intro @ZSx @ZP2))) (And.intro (And.intro @ZU8 @ZVr) (And.intro @Z0cT (And.intro @Z0ey @Z0az))))))) (And.intro (And.intro (And.intro (And.intro (And.intro (And.intro @Z0cv @Z0iI) (And.intro @ZPA @ZNz)) (And.intro (And.intro @ZVI @ZTz) (And.intro @ZTK (And.intro @ZQX @ZOx)))) (And.intro (And.intro (And.intro @ZO2 @ZPs) (And.intro @Z0hk @ZQ4)) (And.intro (And.intro @ZUx @ZVK) (And.intro @ZWe (And.intro @ZRz @ZNG))))) (And.intro (And.intro (And.intro (And.intro @ZT2 @ZRI) (And.intro @ZV2 @ZQW)) (And.intro (And.intro @ZTp @ZGx) (And.intro @ZFP (And.intro @ZM1 @Z0em)))) (And.intro (And.intro (And.intro @ZO8 @ZVL) (And.intro @ZRA (And.intro @ZV6 @ZP8))) (And.intro (And.intro @ZUB @Z0eX) (And.intro @Z0d4 (And.intro @Z0c4 @Z0cV)))))) (And.intro (And.intro (And.intro (And.intro (And.intro @Z0gx @Z0fh) (And.intro @Z0gR @Z0cX)) (And.intro (And.intro @Z0aI @ZYe) (And.intro @Z07q (And.intro @Z014 @Z07P)))) (And.intro (And.intro (And.intro @Z0fz @Z0iz) (And.intro @Z0gv @Z0bS)) (And.intro (And.intro @Z0gp @Z0hq) (And.intro @Z0iH (And.intro @Z0er @ZS6))))) (And.intro (And.intro (And.intro (And.intro @ZW6 @ZPz) (And.intro @Z0gg @Z0gA)) (And.intro (And.intro @Z0gO @Z0cH) (And.intro @Z0hb (And.intro @Z0aU @Z0hV)))) (And.intro (And.intro (And.intro @ZQS @ZUi) (And.intro @ZTs (And.intro @ZTA @Z0cG))) (And.intro (And.intro @Z0ih @Z0bL) (And.intro @Z0iN (And.intro @Z0np @b_33)))))))
end Go.AM.Ytfmnoohhhokicaa
end
noncomputable section
namespace Go.AM.Rub
theorem ZHI {l : List Int} {i j : Nat} (hij : i ≠ j) (hi : i < l.length) (hj : j < l.length) (b : Int) :
   (mvL l i j).count b = l.count b - (if rowF l i == b then 1 else 0) + (if rowF l i - 1 == b then 1 else 0) - (if rowF l j == b then 1 else 0) + (if rowF l j + 1 == b then 1 else 0) := by
 unfold mvL
 have e1 : rowF l i = l[i] := by simp [rowF, hi]
 have e2 : rowF l j = l[j] := by simp [rowF, hj]
 rw [List.count_set (h := by rw [List.length_set]; exact hj), List.count_set (h := hi), List.getElem_set_ne hij, e1, e2]
theorem Z03h {l : List Int} {i j i' j' : Nat} (hij : i ≠ j) (hij' : i' ≠ j') (hi : i < l.length) (hj : j < l.length) (hi' : i' < l.length) (hj' : j' < l.length) (e1 : rowF l i = rowF l i') (e2 : rowF l j = rowF l j') : (mvL l i j).Perm (mvL l i' j') := by
 rw [List.perm_iff_count]
 intro b
 rw [ZHI hij hi hj, ZHI hij' hi' hj', e1, e2]
theorem ZdY {n : Nat} {l : List Int} (h : Rw n l) {i j : Nat} (r : Rb n l i j) : srtI (mvL l i j) = rubL l i j := by
 have hl := h.len
 have hij := r.lt
 have hj := r.lj
 obtain ⟨re, _⟩ := Z3L h r
 have a1 := re.lt
 have a2 := re.lj
 have hd := Z1b h.row
 rw [h.len] at hd
 obtain ⟨p, q⟩ := ZhJ (l := mvL l i j) (by rw [Zw]; omega)
 have s1 := (Z2Q (l := l) (by rw [hl]; exact hd) l.length i (by omega) (by omega)).2.2.1
 have s2 := (Z2i (l := l) (by rw [hl]; exact hd) j (by omega)).2.1
 have hr := (Z0N h r).1
 refine Z8g q (ZhV hr.row) (p.trans ?_)
 exact Z03h (by omega) (by omega) (by omega) (by omega) (by omega) (by omega) s1.symm s2.symm
def ad (out : List (List Int)) (l : List Int) : List (List Int) := if l ∈ out then out else out ++ [l]
def rbI (row : List Int) (i : Nat) (out : List (List Int)) : Nat → List (List Int)
 | 0 => out
 | j + 1 => if rowF row i - rowF row j ≥ 2 then ad (rbI row i out j) (rubL row i j) else rbI row i out j
def rbO (row : List Int) (n : Nat) : Nat → List (List Int)
 | 0 => []
 | i + 1 => rbI row i (rbO row n i) n
theorem Z0gh (out : List (List Int)) (l y : List Int) : y ∈ ad out l ↔ y ∈ out ∨ y = l := by
 unfold ad
 split
 · rename_i h
   exact ⟨.inl, fun hh => hh.elim id fun e => e ▸ h⟩
 · simp
theorem Z0fE (out : List (List Int)) (l : List Int) : (ad out l).length ≤ out.length + 1 := by
 unfold ad; split <;> simp
theorem Zdl (row : List Int) (i : Nat) (out : List (List Int)) (y : List Int) : ∀ m, y ∈ rbI row i out m ↔ y ∈ out ∨ ∃ j, j < m ∧ rowF row i - rowF row j ≥ 2 ∧ y = rubL row i j
 | 0 => by simp [rbI]
 | m + 1 => by
   simp only [rbI]
   have ih := Zdl row i out y m
   split
   · rename_i h
     rw [Z0gh, ih]
     constructor
     · rintro ((h1 | ⟨j, h1, h2⟩) | e)
       · exact .inl h1
       · exact .inr ⟨j, by omega, h2⟩
       · exact .inr ⟨m, by omega, h, e⟩
     · rintro (h1 | ⟨j, h1, h2⟩)
       · exact .inl (.inl h1)
       · by_cases hj : j = m
         · subst hj; exact .inr h2.2
         · exact .inl (.inr ⟨j, by omega, h2⟩)
   · rename_i h
     rw [ih]
     constructor
     · rintro (h1 | ⟨j, h1, h2⟩)
       · exact .inl h1
       · exact .inr ⟨j, by omega, h2⟩
     · rintro (h1 | ⟨j, h1, h2⟩)
       · exact .inl h1
       · refine .inr ⟨j, ?_, h2⟩
         by_cases hj : j = m
         · subst hj; exact absurd h2.1 h
         · omega
theorem ZdS (row : List Int) (i : Nat) (out : List (List Int)) : ∀ m, (rbI row i out m).length ≤ out.length + m
 | 0 => by simp [rbI]
 | m + 1 => by
   have := ZdS row i out m
   simp only [rbI]
   split
   · have := Z0fE (rbI row i out m) (rubL row i m); omega
   · omega
theorem ZdK (row : List Int) (n : Nat) : ∀ i, (rbO row n i).length ≤ i * n
 | 0 => by simp [rbO]
 | i + 1 => by
   have := ZdK row n i
   have := ZdS row i (rbO row n i) n
   simp only [rbO]
   rw [Nat.succ_mul]; omega
theorem Zd7 (row : List Int) (n : Nat) (y : List Int) : ∀ i, y ∈ rbO row n i ↔ ∃ k j, k < i ∧ j < n ∧ rowF row k - rowF row j ≥ 2 ∧ y = rubL row k j
 | 0 => by simp [rbO]
 | i + 1 => by
   simp only [rbO]
   rw [Zdl, Zd7 row n y i]
   constructor
   · rintro (⟨k, j, h1, h2⟩ | ⟨j, h1, h2⟩)
     · exact ⟨k, j, by omega, h2⟩
     · exact ⟨i, j, by omega, h1, h2⟩
   · rintro ⟨k, j, h1, h2⟩
     by_cases hk : k = i
     · subst hk; exact .inr ⟨j, h2⟩
     · exact .inl ⟨k, j, by omega, h2⟩
def rbL (row : List Int) : List (List Int) := rbO row row.length row.length
theorem Z3m {n : Nat} {l : List Int} (h : Rw n l) {i j : Nat} (hi : i < n) (hj : j < n) (hd : rowF l i - rowF l j ≥ 2) : Rb n l i j := by
 refine ⟨?_, hj, hd⟩
 rcases Nat.lt_or_ge i j with h1 | h1
 · exact h1
 · have hdd := Z1b h.row
   rw [h.len] at hdd
   have := Z1F hdd h1 hi
   omega
theorem Zzx {n : Nat} {l : List Int} (h : Rw n l) (y : List Int) : y ∈ rbL l ↔ ∃ i j, Rb n l i j ∧ y = rubL l i j := by
 unfold rbL
 rw [Zd7, h.len]
 constructor
 · rintro ⟨k, j, h1, h2, h3, h4⟩
   exact ⟨k, j, Z3m h h1 h2 h3, h4⟩
 · rintro ⟨k, j, r, e⟩
   have := r.lt
   have := r.lj
   exact ⟨k, j, by omega, r.lj, r.df, e⟩
theorem Z02v {n : Nat} {l y : List Int} (h : Rw n l) (hy : y ∈ rbL l) : Rw n y := by
 obtain ⟨i, j, r, rfl⟩ := (Zzx h y).1 hy
 exact (Z0N h r).1
theorem ZZw {n : Nat} {l y : List Int} (h : Rw n l) {i : Nat} (hi : i ≤ n) (hy : y ∈ rbO l n i) : Rw n y := by
 obtain ⟨k, j, h1, h2, h3, rfl⟩ := (Zd7 l n y i).1 hy
 exact (Z0N h (Z3m h (by omega) h2 h3)).1
theorem ZZg {n : Nat} {l y : List Int} (h : Rw n l) {i m : Nat} (hi : i < n) (hm : m ≤ n) (hy : y ∈ rbI l i (rbO l n i) m) : Rw n y := by
 rcases (Zdl l i (rbO l n i) y m).1 hy with h1 | ⟨j, h1, h2, rfl⟩
 · exact ZZw h (by omega) h1
 · exact (Z0N h (Z3m h hi (by omega) h2)).1
end Go.AM.Rub
end
noncomputable section
namespace Go.AM.Ytfmnoohhhokicaa
open Go Go.AM Go.AM.Rub
def goF (a b : List Int) (i j : Nat) : Prop := rowF a i - rowF a j ≥ 2 ∧ joE (rubL a i j) b = 0 ∧ apL (rubL a i j) b < apL a b
instance (a b : List Int) (i j : Nat) : Decidable (goF a b i j) := by unfold goF; infer_instance
def fiI (a b : List Int) (i m : Nat) : Int := if goF a b i (i + 1 + m) then 8 * i + (i + 1 + m : Nat) + 1 else 0
def fiO (a b : List Int) (n i : Nat) : Int := fe (fiI a b i) 0 (n - 1 - i)
def fiV (a b : List Int) (n : Nat) : Int := fe (fiO a b n) 0 n
abbrev fsI (a b : List Int) (n i : Nat) (x y : Bool) (m : Nat) : St := ([(19, .int .i64 i), (18, .int .i64 n), (9, .int .i64 (i + 1 + m : Nat)), (8, .int .i64 i), (1, .imm (ics b) n y), (0, .imm (ics a) n x)], [])
abbrev fsO (a b : List Int) (n : Nat) (x y : Bool) (i : Nat) : St := ([(19, .int .i64 i), (18, .int .i64 n), (1, .imm (ics b) n y), (0, .imm (ics a) n x)], [])
abbrev fsR (e : Int) (H : AHeap) : St := ([(6, .int .i64 0), (5, .int .i64 ((e - 1).tmod 8)), (4, .int .i64 ((e - 1).tdiv 8))], H)
structure FiC (C : Callee) (a b : List Int) (n : Nat) : Prop where
 rd : ∀ (site : Nat → Nat) seen x, aBack site true seen (thaw C 82 [.imm (ics a) n x] [] 0) = .pure (.agg (ics (pad6 a)), [])
 ap : ∀ (site : Nat → Nat) seen i j, Rb n a i j → aBack site true seen (thaw C 83 [.agg (ics (pad6 a)), .int .i64 n, .int .i64 i, .int .i64 j] [] 0) = Z0m (site 0) seen (fun k => .ref k 0 n n n 1 false) ⟨.row, ics (rubL a i j)⟩
 jo : ∀ (site : Nat → Nat) seen c x y, Rw n c → aBack site true seen (thaw C 89 [.imm (ics c) n x, .imm (ics b) n y] [] 0) = .pure (.int .i64 (joE c b), [])
 aa : ∀ (site : Nat → Nat) seen c x y, Rw n c → aBack site true seen (thaw C 90 [.imm (ics c) n x, .imm (ics b) n y] [] 0) = .pure (.int .i64 (apL c b), [])
noncomputable section
variable {C : Callee} {a b : List Int} {n : Nat} {x y : Bool}
theorem ZWC (hC : FiC C a b n) (ha : Rw n a) (hb : Rw n b) (hn : n ≤ 6) (i : Nat) (hi : i < n) :
   (fiO a b n i = 0 ∧ iterA (execA E C (fg 33) 0 63 [] 1000000 Z3P) (headA []) 1000000 (fsI a b n i x y 0) = some (.exit 2, ([(27, .bool false), (19, .int .i64 i), (18, .int .i64 n), (9, .int .i64 n), (8, .int .i64 i), (1, .imm (ics b) n y), (0, .imm (ics a) n x)], []))) ∨
   (fiO a b n i ≠ 0 ∧ ∃ H, iterA (execA E C (fg 33) 0 63 [] 1000000 Z3P) (headA []) 1000000 (fsI a b n i x y 0) = some (.ret, fsR (fiO a b n i) H)) := by
 have la : (ics a).length = n := by rw [Z6, ha.len]
 have lb : (ics b).length = n := by rw [Z6, hb.len]
 have ta : List.take n (ics a) = ics a := List.take_of_length_le (by omega)
 have tb : List.take n (ics b) = ics b := List.take_of_length_le (by omega)
 have a1 := Zu (l := a) (k := i) (by rw [ha.len]; exact hi)
 have b1 := rw_b ha (k := i) hi
 have gi : (i : Int) < n := by omega
 have rdx := hC.rd
 have sp : ∀ d, snaps (d + 20) (ics (pad6 a)) = .pure (ics (pad6 a), []) := fun d => ZfX _ (by rw [Z1x (by rw [ha.len]; exact hn)]; omega)
 refine loopE (f := (execA E C (fg 33) 0 63 [] 1000000 Z3P)) (e := fiI a b i) (R := fsR) (fsI a b n i x y) (n - 1 - i) rfl (by omega) (by simp) ?_ ?_ ?_
 · intro m hm _ he
   have hj : i + 1 + m < n := by omega
   have a2 := Zu (l := a) (k := i + 1 + m) (by rw [ha.len]; exact hj)
   have b2 := rw_b ha (k := i + 1 + m) hj
   have g1 : ((i + 1 + m : Nat) : Int) < n := by omega
   have e1 : i + 1 + (m + 1) = i + 1 + m + 1 := by omega
   have e2 : (8 * (i : Int) + (i + 1 + m : Nat) + 1) ≠ 0 := by omega
   have hno : ¬ goF a b i (i + 1 + m) := fun h => by unfold fiI at he; rw [if_pos h] at he; exact e2 he
   simp only [fsI, e1]
   by_cases h2 : rowF a i - rowF a (i + 1 + m) < 2
   · generalize i + 1 + m = j at *
     generalize rowF a i = u at *
     generalize rowF a j = v at *
     have w1 : wrp .i64 (u - v) = u - v := Zv (by omega)
     simp (disch := omega) only [ZF, stp, just, Rd.bind, Rd.run, Rd.opt, upds, tsz, rdCells, aLoad, Z2, aNum, aLen, Z4, aBin, aInt, Nat.reduceAdd, Nat.reduceLT, Nat.reduceBEq, Nat.reduceEqDiff, Nat.reduceLeDiff, ↓reduceIte, reduceCtorEq, stpT, Rd.foot, writing, Z9, Tr.empty, Za, ZT, F_33, la, a1, a2, gi, g1, w1, h2, Zl (show j < 1000000 by omega)]
     refine ⟨_, rfl, ?_⟩
     show headA _ _ = _
     unfold headA
     rfl
   · have r : Rb n a i (i + 1 + m) := Z3m ha hi hj (by omega)
     have rr := (Z0N ha r).1
     have apx := fun (site : Nat → Nat) seen => hC.ap site seen i (i + 1 + m) r
     have jox := fun (site : Nat → Nat) seen x y => hC.jo site seen _ x y rr
     have aax := fun (site : Nat → Nat) seen x y => hC.aa site seen _ x y rr
     have aay := fun (site : Nat → Nat) seen x y => hC.aa site seen _ x y ha
     have lr : (ics (rubL a i (i + 1 + m))).length = n := by rw [Z6, rr.len]
     have tr : List.take n (ics (rubL a i (i + 1 + m))) = ics (rubL a i (i + 1 + m)) := List.take_of_length_le (by omega)
     have hno2 : ¬ (joE (rubL a i (i + 1 + m)) b = 0 ∧ apL (rubL a i (i + 1 + m)) b < apL a b) := fun h => hno ⟨by omega, h.1, h.2⟩
     clear hno he
     generalize rubL a i (i + 1 + m) = c at *
     generalize i + 1 + m = j at *
     generalize rowF a i = u at *
     generalize rowF a j = v at *
     generalize joE c b = z at *
     generalize apL c b = p at *
     generalize apL a b = q at *
     have w1 : wrp .i64 (u - v) = u - v := Zv (by omega)
     by_cases hz : z = 0
     · subst hz
       have g3 : ¬ (p : Int) < q := fun h => hno2 ⟨rfl, by omega⟩
       simp (disch := omega) only [ZF, ↓gd, stp, opPick, just, Rd.bind, Rd.run, Rd.opt, upds, tsz, rdCells, aLoad, Z2, aNum, aLen, Z4, aBin, aInt, Nat.reduceAdd, Nat.reduceLT, Nat.reduceBEq, Nat.reduceEqDiff, Nat.reduceLeDiff, ↓reduceIte, reduceCtorEq, stpT, Rd.foot, writing, Z9, Tr.empty, Za, aCall, snaps, ZT, F_33, la, lr, tr, a1, a2, gi, g1, w1, h2, rdx, sp, apx, jox, aax, aay, g3, Zl (show j < 1000000 by omega)]
       exact ⟨_, rfl, rfl⟩
     · have hz' : (z == 0) = false := by rw [beq_eq_false_iff_ne]; exact hz
       simp (disch := omega) only [ZF, ↓gd, stp, opPick, just, Rd.bind, Rd.run, Rd.opt, upds, tsz, rdCells, aLoad, Z2, aNum, aLen, Z4, aBin, aInt, Nat.reduceAdd, Nat.reduceLT, Nat.reduceBEq, Nat.reduceEqDiff, Nat.reduceLeDiff, ↓reduceIte, reduceCtorEq, stpT, Rd.foot, writing, Z9, Tr.empty, Za, aCall, snaps, ZT, F_33, la, lr, tr, a1, a2, gi, g1, w1, h2, rdx, sp, apx, jox, hz', Zl (show j < 1000000 by omega)]
       exact ⟨_, rfl, rfl⟩
 · intro m hm _ he
   have hj : i + 1 + m < n := by omega
   have a2 := Zu (l := a) (k := i + 1 + m) (by rw [ha.len]; exact hj)
   have b2 := rw_b ha (k := i + 1 + m) hj
   have g1 : ((i + 1 + m : Nat) : Int) < n := by omega
   have hgo : goF a b i (i + 1 + m) := Classical.byContradiction fun h => he (by unfold fiI; rw [if_neg h])
   have ee : fiI a b i m = 8 * i + (i + 1 + m : Nat) + 1 := by unfold fiI; rw [if_pos hgo]
   have d1 : (fiI a b i m - 1).tmod 8 = (i + 1 + m : Nat) := by
     rw [ee, Int.tmod_eq_emod_of_nonneg (by omega)]; omega
   have d2 : (fiI a b i m - 1).tdiv 8 = (i : Nat) := by
     rw [ee, Int.tdiv_eq_ediv_of_nonneg (by omega)]; omega
   clear ee he
   obtain ⟨h2, h3, h4⟩ := hgo
   have r : Rb n a i (i + 1 + m) := Z3m ha hi hj (by omega)
   have rr := (Z0N ha r).1
   have apx := fun (site : Nat → Nat) seen => hC.ap site seen i (i + 1 + m) r
   have jox := fun (site : Nat → Nat) seen x y => hC.jo site seen _ x y rr
   have aax := fun (site : Nat → Nat) seen x y => hC.aa site seen _ x y rr
   have aay := fun (site : Nat → Nat) seen x y => hC.aa site seen _ x y ha
   have lr : (ics (rubL a i (i + 1 + m))).length = n := by rw [Z6, rr.len]
   have tr : List.take n (ics (rubL a i (i + 1 + m))) = ics (rubL a i (i + 1 + m)) := List.take_of_length_le (by omega)
   rw [h3] at jox
   simp only [fsI, fsR, d1, d2]
   clear d1 d2 h3
   generalize rubL a i (i + 1 + m) = c at *
   generalize i + 1 + m = j at *
   generalize rowF a i = u at *
   generalize rowF a j = v at *
   generalize apL c b = p at *
   generalize apL a b = q at *
   have w1 : wrp .i64 (u - v) = u - v := Zv (by omega)
   have g2 : ¬ u - v < 2 := by omega
   have g3 : (p : Int) < q := by omega
   simp (disch := omega) only [ZF, ↓gd, stp, opPick, just, Rd.bind, Rd.run, Rd.opt, upds, tsz, rdCells, aLoad, Z2, aNum, aLen, Z4, aBin, aInt, Nat.reduceAdd, Nat.reduceLT, Nat.reduceBEq, Nat.reduceEqDiff, Nat.reduceLeDiff, ↓reduceIte, reduceCtorEq, stpT, Rd.foot, writing, Z9, Tr.empty, Za, aCall, snaps, ZT, F_33, la, lr, tr, a1, a2, gi, g1, w1, g2, rdx, sp, apx, jox, aax, aay, g3]
   exact ⟨_, rfl⟩
 · intro _
   have e : i + 1 + (n - 1 - i) = n := by omega
   simp only [fsI, e]
   simp (disch := omega) only [ZF, stp, just, Rd.bind, Rd.run, Rd.opt, upds, aLen, Z4, aBin, aInt, Nat.reduceBEq, Nat.reduceEqDiff, Nat.reduceLeDiff, ↓reduceIte, reduceCtorEq, ZT, F_33]
theorem Z0cA (hC : FiC C a b n) (ha : Rw n a) (hb : Rw n b) (hn : n ≤ 6) :
   (fiV a b n = 0 ∧ iterA (execA E C (fg 33) 0 63 [] 1000000 Z3S) (headA []) 1000000 (fsO a b n x y 0) = some (.exit 0, ([(20, .bool false), (19, .int .i64 n), (18, .int .i64 n), (1, .imm (ics b) n y), (0, .imm (ics a) n x)], []))) ∨
   (fiV a b n ≠ 0 ∧ ∃ H, iterA (execA E C (fg 33) 0 63 [] 1000000 Z3S) (headA []) 1000000 (fsO a b n x y 0) = some (.ret, fsR (fiV a b n) H)) := by
 refine loopE (f := (execA E C (fg 33) 0 63 [] 1000000 Z3S)) (e := fiO a b n) (R := fsR) (fsO a b n x y) n rfl (by omega) (by simp) ?_ ?_ ?_
 · intro i hi _ he
   have g1 : (i : Int) < n := by omega
   rcases ZWC (x := x) (y := y) hC ha hb hn i hi with ⟨_, hl⟩ | ⟨h, _⟩
   · simp only [fsI] at hl
     have e : ((i + 1 + 0 : Nat) : Int) = (i : Int) + 1 := by omega
     rw [e] at hl
     have w : wrp .i64 ((i : Int) + 1) = (i : Int) + 1 := Zv (by omega)
     have e3 : ((i + 1 : Nat) : Int) = (i : Int) + 1 := by omega
     simp only [fsO, e3]
     simp (disch := omega) only [ZF, stp, just, Rd.bind, Rd.run, Rd.opt, upds, aBin, aInt, Nat.reduceBEq, Nat.reduceEqDiff, Nat.reduceLeDiff, ↓reduceIte, F_33, g1, hl, w]
     exact ⟨_, rfl, rfl⟩
   · exact absurd he h
 · intro i hi _ he
   have g1 : (i : Int) < n := by omega
   rcases ZWC (x := x) (y := y) hC ha hb hn i hi with ⟨h, _⟩ | ⟨_, H, hl⟩
   · exact absurd h he
   · simp only [fsI] at hl
     have e : ((i + 1 + 0 : Nat) : Int) = (i : Int) + 1 := by omega
     rw [e] at hl
     have w : wrp .i64 ((i : Int) + 1) = (i : Int) + 1 := Zv (by omega)
     simp only [fsO]
     simp (disch := omega) only [ZF, stp, just, Rd.bind, Rd.run, Rd.opt, upds, aBin, aInt, Nat.reduceBEq, Nat.reduceEqDiff, Nat.reduceLeDiff, ↓reduceIte, F_33, g1, hl, w]
     exact ⟨_, rfl⟩
 · intro _
   simp (disch := omega) only [ZF, stp, just, Rd.bind, Rd.run, Rd.opt, upds, aBin, aInt, Nat.reduceEqDiff, Nat.reduceLeDiff, ↓reduceIte, F_33, fsO]
end
theorem fiC (d : Nat) {a b : List Int} {n : Nat} (ha : Rw n a) (hb : Rw n b) (h6 : n ≤ 6) : FiC (kF (d + 3)) a b n := by
 have ib : ∀ y, IV b (.imm (ics b) n y) := fun y => .inr ⟨y, by rw [hb.len]⟩
 refine ⟨fun site seen x => ZeY (d := d + 2) (.inr ⟨x, by rw [ha.len]⟩) (by rw [ha.len]; exact h6), fun site seen i j r => ZsW (d := d + 1) ha h6 r, fun site seen c x y hc => Z8j (d := d) (.inr ⟨x, by rw [hc.len]⟩) (ib y) (by rw [hc.len]; omega) (by rw [hb.len]; omega), fun site seen c x y hc => ZEh (d := d + 2) hc hb (by omega)⟩
def firE (a b : List Int) : Int := if joE a b ≠ 0 then joE a b else if fiV a b a.length = 0 then 13 else 0
def firI (a b : List Int) : Int := if joE a b = 0 ∧ fiV a b a.length ≠ 0 then (fiV a b a.length - 1).tdiv 8 else 0
def firJ (a b : List Int) : Int := if joE a b = 0 ∧ fiV a b a.length ≠ 0 then (fiV a b a.length - 1).tmod 8 else 0
theorem ZG4 {d : Nat} {l m : List Int} {a b : AV} (ha : IV l a) (hb : IV m b) (hl : l.length ≤ 1000) (hm : m.length ≤ 1000) : rsOf (bodyA E (kF (d + 3)) fg 1000000 33 [a, b] [] 0) = some (.tup [.int .i64 (firI l m), .int .i64 (firJ l m), .int .i64 (firE l m)]) := by
 have hj := fun (site : Nat → Nat) seen => Z8j (d := d) (site := site) (seen := seen) ha hb hl hm
 have sa := Z2p ha
 have sb := Z2p hb
 unfold firI firJ firE
 by_cases h : joE l m = 0
 · obtain ⟨n, n0, n6, r1, r2, re⟩ := Z5q.1 (ZlV.1 h).1
   obtain ⟨x, rfl⟩ := Z4h ha (by rw [r1.len]; exact n0)
   obtain ⟨y, rfl⟩ := Z4h hb (by rw [r2.len]; exact n0)
   have hr := Z0cA (x := x) (y := y) (fiC d r1 r2 n6) r1 r2 n6
   have la : (ics l).length = n := by rw [Z6, r1.len]
   rw [r1.len, r2.len] at *
   rw [h] at hj ⊢
   simp only [ne_eq, not_true_eq_false, if_false, true_and]
   simp only [fsO, fsR, cl0] at hr
   generalize fiV l m n = v at *
   generalize kF (d + 3) = C at *
   rcases hr with ⟨hz, hr⟩ | ⟨hz, H, hr⟩
   · rw [if_neg (fun e => e hz), if_neg (fun e => e hz), if_pos hz]
     simp (disch := omega) only [ZF, Z8, stp, just, Rd.bind, Rd.run, Rd.opt, upds, resA, resL, aLen, Z4, aBin, aInt, Nat.reduceBEq, Nat.reduceEqDiff, Nat.reduceLeDiff, ↓reduceIte, reduceCtorEq, aCall, snaps, ZT, F_33, hj, hr]
   · rw [if_pos hz, if_pos hz, if_neg hz]
     simp (disch := omega) only [ZF, Z8, stp, just, Rd.bind, Rd.run, Rd.opt, upds, resA, resL, aLen, Z4, aBin, aInt, Nat.reduceBEq, Nat.reduceEqDiff, Nat.reduceLeDiff, ↓reduceIte, reduceCtorEq, aCall, snaps, ZT, F_33, hj, hr]
 · rw [if_neg fun e => h e.1, if_neg fun e => h e.1, if_pos h]
   generalize kF (d + 3) = C at *
   generalize joE l m = z at *
   have h0' : (z == 0) = false := by rw [beq_eq_false_iff_ne]; exact h
   simp (disch := omega) only [ZF, Z8, stp, just, Rd.bind, Rd.run, Rd.opt, upds, resA, resL, aBin, aInt, Nat.reduceBEq, Nat.reduceEqDiff, Nat.reduceLeDiff, ↓reduceIte, reduceCtorEq, aCall, snaps, F_33, hj, h, sa 198, sb 197]
theorem Zce {d : Nat} {site : Nat → Nat} {seen : List Nat} {l m : List Int} {a b : AV} (ha : IV l a) (hb : IV m b) (hl : l.length ≤ 1000) (hm : m.length ≤ 1000) : aBack site true seen (thaw (kF (d + 4)) 33 [a, b] [] 0) = .pure (.tup [.int .i64 (firI l m), .int .i64 (firJ l m), .int .i64 (firE l m)], []) := by
 obtain ⟨H, h⟩ := Z1u (d := d + 3) rfl (ZG4 (d := d) ha hb hl hm)
 exact Z1o h rfl (fun _ => rfl) rfl
end Go.AM.Ytfmnoohhhokicaa
end
noncomputable section
namespace Go.AM.Ytfmnoohhhokicaa
open Go Go.AM
variable {C : Callee} {B N : Nat} {E0 : AHeap} (φ : AFr) (H : AHeap) (s : St)
def Z5S := kBody Proofs.Try.f108
def Zsl := kL Z5S
def Z30 := kO Zsl
def Zno := opN Z30 0
def ZuB := opN Z30 1
def Zkt := opN Z30 2
theorem Z0aZ : XG 108 14 Zsl Z30 [5, 6] := Z1 (by rfl) (by rfl) _
theorem ZU0 : Z30.toList = [Zno, ZuB, Zkt] := nf
theorem ZQg : stepA E C B 14 Z30 Zno (φ, H) = some (fput φ 5 (fget φ 0), H) := nf
theorem ZQ8 : stepA E C B 14 Z30 ZuB (φ, H) = stp (some 6) φ H (Z4 E.T (B + 6) .len #[22] [(fget φ 5)]) := nf
theorem ZQM : stepA E C B 14 Z30 Zkt (φ, H) = some (fput φ 4 (fget φ 6), H) := nf
def Zo7 := kR Z5S
def Z0F := kO Zo7
def Zng := opN Z0F 0
def Zlh := opN Z0F 1
def Ztf := opN Z0F 2
def ZsM := opN Z0F 3
def ZlJ := opN Z0F 4
def ZrB := opN Z0F 5
def Zq6 := opN Z0F 6
theorem Z0dR : XG 108 14 Zo7 Z0F [0, 1, 4, 7, 8, 9, 10, 11, 12, 13] := Z1 (by rfl) (by rfl) _
theorem ZOM : Z0F.toList = [Zng, Zlh, Ztf, ZsM, ZlJ, ZrB, Zq6] := nf
theorem ZUr : stepA E C B 14 Z0F Zng (φ, H) = some (fput φ 7 (fget φ 0), H) := nf
theorem ZUz : stepA E C B 14 Z0F Zlh (φ, H) = some (fput φ 8 (fget φ 4), H) := nf
theorem ZTC : stepA E C B 14 Z0F Ztf (φ, H) = some (fput φ 9 (fget φ 4), H) := nf
theorem ZO3 : stepA E C B 14 Z0F ZsM (φ, H) = stp (some 10) φ H (justO (aConv E.T 3 98 (fget φ 9))) := nf
theorem ZTr : stepA E C B 14 Z0F ZlJ (φ, H) = stp (some 11) φ H (aCall C (fun j => B + j * 14 + 11) true 111 [(fget φ 10)]) := nf
theorem ZQv : stepA E C B 14 Z0F ZrB (φ, H) = some (fput φ 12 (fget φ 1), H) := nf
theorem ZT8 : stepA E C B 14 Z0F Zq6 (φ, H) = mutX (some 13) φ (C 121 [(fget φ 7), (.int .i64 0), (fget φ 8), (fget φ 11), (fget φ 12)] H (B + 14 * 8)) := nf
theorem Z0cN : XQ 108 14 Z5S Zsl Zo7 := Z0 (by rfl) _
theorem Z0bb : fInfo E 108 = some ⟨14, #[], Z5S⟩ := nf
theorem Z0jS (args : List AV) : bodyA E C fg N 108 args H B = bodyX E [] (execA E C (fg 108) B 14 H N Z5S (Z8 args 0 [], H)) := Zt Z0bb args H
abbrev Z0kh := And.intro (And.intro (And.intro (And.intro @Z0aZ @ZU0) (And.intro @ZQg @ZQ8)) (And.intro (And.intro @ZQM @Z0dR) (And.intro @ZOM @ZUr))) (And.intro (And.intro (And.intro @ZUz @ZTC) (And.intro @ZO3 @ZTr)) (And.intro (And.intro @ZQv @ZT8) (And.intro @Z0cN @Z0jS)))
def Z5I := kBody Proofs.Try.f121
def Zt3 := kL Z5I
def Z8U := kO Zt3
def ZsN := opN Z8U 0
theorem Z0ev : XG 121 148 Zt3 Z8U [] := Z1 (by rfl) (by rfl) _
theorem ZOe : Z8U.toList = [ZsN] := nf
theorem ZPJ : stepA E C B 148 Z8U ZsN (φ, H) = some (fput φ 10 (.bool true), H) := nf
def Z9Y := kR Z5I
def Zn9 := kL Z9Y
def Z9H := kO Zn9
def Zo5 := opN Z9H 0
theorem Z0bG : XG 121 148 Zn9 Z9H [] := Z1 (by rfl) (by rfl) _
theorem ZTa : Z9H.toList = [Zo5] := nf
theorem ZQe : stepA E C B 148 Z9H Zo5 (φ, H) = some (fput φ 11 (.bool true), H) := nf
def Zpa := kR Z9Y
def ZqU := kB Zpa
def ZnL := kB ZqU
def Zbk := kB ZnL
def Zli := kL Zbk
def Z1S := kO Zli
def Zlm := opN Z1S 0
def ZqZ := opN Z1S 1
def Zok := opN Z1S 2
def ZsZ := opN Z1S 3
theorem Z0hc : XG 121 148 Zli Z1S [21, 22, 23] := Z1 (by rfl) (by rfl) _
theorem ZSQ : Z1S.toList = [Zlm, ZqZ, Zok, ZsZ] := nf
theorem ZTg : stepA E C B 148 Z1S Zlm (φ, H) = some (fput φ 21 (fget φ 2), H) := nf
theorem ZOV : stepA E C B 148 Z1S ZqZ (φ, H) = some (fput φ 22 (fget φ 1), H) := nf
theorem ZUN : stepA E C B 148 Z1S Zok (φ, H) = stp (some 23) φ H (just (aBin E.T .sub 3 (fget φ 21) (fget φ 22))) := nf
theorem ZVA : stepA E C B 148 Z1S ZsZ (φ, H) = some (fput φ 12 (fget φ 23), H) := nf
def ZbV := kR Zbk
def Z7C := kL ZbV
def Zds := kL Z7C
def Z53 := kO Zds
def Zsg := opN Z53 0
def Zoy := opN Z53 1
theorem Z04f : XG 121 148 Zds Z53 [24] := Z1 (by rfl) (by rfl) _
theorem ZTG : Z53.toList = [Zsg, Zoy] := nf
theorem ZVi : stepA E C B 148 Z53 Zsg (φ, H) = some (fput φ 24 (fget φ 12), H) := nf
theorem ZWd : stepA E C B 148 Z53 Zoy (φ, H) = stp (some 25) φ H (just (aBin E.T .leq 3 (fget φ 24) (.int .i64 12))) := nf
def Z7A := kR Z7C
def Z7H := kT Z7A
def Zdb := kL Z7H
def Z1h := kO Zdb
def Zp9 := opN Z1h 0
def Zqa := opN Z1h 1
def ZnM := opN Z1h 2
def Zl2 := opN Z1h 3
def ZpY := opN Z1h 4
theorem Z07V : XG 121 148 Zdb Z1h [0, 1, 2, 3, 4, 10, 11, 12, 25, 26, 27, 28, 29, 30] := Z1 (by rfl) (by rfl) _
theorem ZS4 : Z1h.toList = [Zp9, Zqa, ZnM, Zl2, ZpY] := nf
theorem ZTb : stepA E C B 148 Z1h Zp9 (φ, H) = some (fput φ 26 (fget φ 0), H) := nf
theorem ZOj : stepA E C B 148 Z1h Zqa (φ, H) = some (fput φ 27 (fget φ 1), H) := nf
theorem ZVv : stepA E C B 148 Z1h ZnM (φ, H) = some (fput φ 28 (fget φ 2), H) := nf
theorem ZRa : stepA E C B 148 Z1h Zl2 (φ, H) = some (fput φ 29 (fget φ 4), H) := nf
theorem ZQR : stepA E C B 148 Z1h ZpY (φ, H) = mutX (some 30) φ (C 133 [(fget φ 26), (fget φ 27), (fget φ 28), (fget φ 29)] H (B + 148 * 8)) := nf
def ZDn := kR Z7H
theorem Z02K : execA E C (fg 121) B 148 E0 N ZDn s = some (.ret, s) := Zq (by rfl) s
theorem ZZV : XQ 121 148 Z7H Zdb ZDn := Z0 (by rfl) _
def ZBu := kE Z7A
theorem Z06R : execA E C (fg 121) B 148 E0 N ZBu s = some (.normal, s) := Zh (by rfl) s
theorem Z00X : XC 121 148 Z7A 25 Z7H ZBu := Zf (by rfl) _
theorem Z04g : XQ 121 148 Z7C Zds Z7A := Z0 (by rfl) _
def Z6x := kR ZbV
def Z7w := kL Z6x
def ZdA := kL Z7w
def Z4V := kO ZdA
def Zsj := opN Z4V 0
def ZkB := opN Z4V 1
theorem Z06Y : XG 121 148 ZdA Z4V [25, 31] := Z1 (by rfl) (by rfl) _
theorem ZSL : Z4V.toList = [Zsj, ZkB] := nf
theorem ZRc : stepA E C B 148 Z4V Zsj (φ, H) = some (fput φ 31 (fget φ 3), H) := nf
theorem ZTD : stepA E C B 148 Z4V ZkB (φ, H) = stp (some 32) φ H (just (aBin E.T .eql 3 (fget φ 31) (.int .i64 0))) := nf
def Z7J := kR Z7w
def Z75 := kT Z7J
def Zdo := kL Z75
def Z1j := kO Zdo
def ZoK := opN Z1j 0
def ZrQ := opN Z1j 1
def ZqH := opN Z1j 2
def Zs0 := opN Z1j 3
def Zlt := opN Z1j 4
theorem ZY5 : XG 121 148 Zdo Z1j [0, 1, 2, 3, 4, 10, 11, 12, 32, 33, 34, 35, 36, 37] := Z1 (by rfl) (by rfl) _
theorem ZQQ : Z1j.toList = [ZoK, ZrQ, ZqH, Zs0, Zlt] := nf
theorem ZUn : stepA E C B 148 Z1j ZoK (φ, H) = some (fput φ 33 (fget φ 0), H) := nf
theorem ZW8 : stepA E C B 148 Z1j ZrQ (φ, H) = some (fput φ 34 (fget φ 1), H) := nf
theorem ZRp : stepA E C B 148 Z1j ZqH (φ, H) = some (fput φ 35 (fget φ 2), H) := nf
theorem ZOG : stepA E C B 148 Z1j Zs0 (φ, H) = some (fput φ 36 (fget φ 4), H) := nf
theorem ZOI : stepA E C B 148 Z1j Zlt (φ, H) = mutX (some 37) φ (C 134 [(fget φ 33), (fget φ 34), (fget φ 35), (fget φ 36)] H (B + 148 * 8)) := nf
def ZuQ := kR Z75
theorem ZYj : execA E C (fg 121) B 148 E0 N ZuQ s = some (.ret, s) := Zq (by rfl) s
theorem Z07U : XQ 121 148 Z75 Zdo ZuQ := Z0 (by rfl) _
def Zy5 := kE Z7J
theorem Z01o : execA E C (fg 121) B 148 E0 N Zy5 s = some (.normal, s) := Zh (by rfl) s
theorem Z03K : XC 121 148 Z7J 32 Z75 Zy5 := Zf (by rfl) _
theorem Z06z : XQ 121 148 Z7w ZdA Z7J := Z0 (by rfl) _
def Z7h := kR Z6x
def Z65 := kL Z7h
def Zd6 := kL Z65
def Z4W := kO Zd6
def ZrA := opN Z4W 0
def ZqQ := opN Z4W 1
theorem Z02F : XG 121 148 Zd6 Z4W [32, 38] := Z1 (by rfl) (by rfl) _
theorem ZRe : Z4W.toList = [ZrA, ZqQ] := nf
theorem ZTF : stepA E C B 148 Z4W ZrA (φ, H) = some (fput φ 38 (fget φ 10), H) := nf
theorem ZVx : stepA E C B 148 Z4W ZqQ (φ, H) = stp (some 39) φ H (justO (aUn .not (fget φ 38))) := nf
def Z7Y := kR Z65
def Z81 := kT Z7Y
def Zdk := kL Z81
def Z1e := kO Zdk
def Zmc := opN Z1e 0
def Zlo := opN Z1e 1
def Zqt := opN Z1e 2
def Zu1 := opN Z1e 3
def Zpz := opN Z1e 4
theorem Z05X : XG 121 148 Zdk Z1e [39, 40, 41, 42, 43, 44] := Z1 (by rfl) (by rfl) _
theorem ZPe : Z1e.toList = [Zmc, Zlo, Zqt, Zu1, Zpz] := nf
theorem ZRN : stepA E C B 148 Z1e Zmc (φ, H) = some (fput φ 40 (fget φ 0), H) := nf
theorem ZVo : stepA E C B 148 Z1e Zlo (φ, H) = some (fput φ 41 (fget φ 1), H) := nf
theorem ZU2 : stepA E C B 148 Z1e Zqt (φ, H) = some (fput φ 42 (fget φ 2), H) := nf
theorem ZVY : stepA E C B 148 Z1e Zu1 (φ, H) = some (fput φ 43 (fget φ 4), H) := nf
theorem ZTc : stepA E C B 148 Z1e Zpz (φ, H) = mutX (some 44) φ (C 135 [(fget φ 40), (fget φ 41), (fget φ 42), (fget φ 43)] H (B + 148 * 8)) := nf
def Zda := kR Z81
def Z33 := kO Zda
def Zsr := opN Z33 0
def Zow := opN Z33 1
def Zn1 := opN Z33 2
theorem Z05o : XG 121 148 Zda Z33 [45, 46] := Z1 (by rfl) (by rfl) _
theorem ZOH : Z33.toList = [Zsr, Zow, Zn1] := nf
theorem ZPQ : stepA E C B 148 Z33 Zsr (φ, H) = some (fput φ 45 (fget φ 3), H) := nf
theorem ZPi : stepA E C B 148 Z33 Zow (φ, H) = stp (some 46) φ H (just (aBin E.T .sub 3 (fget φ 45) (.int .i64 1))) := nf
theorem ZSb : stepA E C B 148 Z33 Zn1 (φ, H) = some (fput φ 3 (fget φ 46), H) := nf
theorem ZZJ : XQ 121 148 Z81 Zdk Zda := Z0 (by rfl) _
def ZuV := kE Z7Y
theorem Z065 : execA E C (fg 121) B 148 E0 N ZuV s = some (.normal, s) := Zh (by rfl) s
theorem Z05E : XC 121 148 Z7Y 39 Z81 ZuV := Zf (by rfl) _
theorem ZYq : XQ 121 148 Z65 Zd6 Z7Y := Z0 (by rfl) _
def Z7s := kR Z7h
def Ze4 := kL Z7s
def ZO := kO Ze4
def ZhW := opN ZO 0
def Zhe := opN ZO 1
def ZeF := opN ZO 2
def Zfl := opN ZO 3
def ZhC := opN ZO 4
def ZeI := opN ZO 5
def Zih := opN ZO 6
def ZgK := opN ZO 7
def Zhy := opN ZO 8
def ZgP := opN ZO 9
theorem Z08b : XG 121 148 Ze4 ZO [39, 47, 48, 49, 50, 51, 52, 53, 54] := Z1 (by rfl) (by rfl) _
theorem ZKt : ZO.toList = [ZhW, Zhe, ZeF, Zfl, ZhC, ZeI, Zih, ZgK, Zhy, ZgP] := nf
theorem ZMv : stepA E C B 148 ZO ZhW (φ, H) = some (fput φ 48 (fget φ 0), H) := nf
theorem ZJI : stepA E C B 148 ZO Zhe (φ, H) = some (fput φ 49 (fget φ 1), H) := nf
theorem ZN2 : stepA E C B 148 ZO ZeF (φ, H) = some (fput φ 50 (fget φ 2), H) := nf
theorem ZKF : stepA E C B 148 ZO Zfl (φ, H) = some (fput φ 51 (fget φ 4), H) := nf
theorem ZHA : stepA E C B 148 ZO ZhC (φ, H) = mutX (some 52) φ (C 136 [(fget φ 48), (fget φ 49), (fget φ 50), (fget φ 51)] H (B + 148 * 8)) := nf
theorem ZMV : stepA E C B 148 ZO ZeI (φ, H) = some (fput φ 47 (fget φ 52), H) := nf
theorem ZIp : stepA E C B 148 ZO Zih (φ, H) = stp (some 53) φ H (Zs (fget φ 47) 0) := nf
theorem ZIc : stepA E C B 148 ZO ZgK (φ, H) = stp (some 54) φ H (Zs (fget φ 47) 1) := nf
theorem ZHj : stepA E C B 148 ZO Zhy (φ, H) = some (fput φ 13 (fget φ 53), H) := nf
theorem ZKC : stepA E C B 148 ZO ZgP (φ, H) = some (fput φ 14 (fget φ 54), H) := nf
def Z7l := kR Z7s
def Z6i := kL Z7l
def ZdL := kL Z6i
def Z3A := kO ZdL
def Zfp := opN Z3A 0
def Zgp := opN Z3A 1
theorem Z08M : XG 121 148 ZdL Z3A [55] := Z1 (by rfl) (by rfl) _
theorem ZLO : Z3A.toList = [Zfp, Zgp] := nf
theorem ZMG : stepA E C B 148 Z3A Zfp (φ, H) = some (fput φ 55 (fget φ 14), H) := nf
theorem ZMn : stepA E C B 148 Z3A Zgp (φ, H) = stp (some 56) φ H (just (aBin E.T .eql 105 (fget φ 55) (.int .i64 2))) := nf
def Z69 := kR Z6i
def Z6X := kT Z69
def Ze2 := kL Z6X
def Z0T := kO Ze2
def Zgb := opN Z0T 0
def Zhg := opN Z0T 1
def Zhp := opN Z0T 2
def Zgd := opN Z0T 3
def ZgN := opN Z0T 4
theorem Z04l : XG 121 148 Ze2 Z0T [14, 56, 57, 58, 59, 60, 61] := Z1 (by rfl) (by rfl) _
theorem ZLC : Z0T.toList = [Zgb, Zhg, Zhp, Zgd, ZgN] := nf
theorem ZMC : stepA E C B 148 Z0T Zgb (φ, H) = some (fput φ 57 (fget φ 0), H) := nf
theorem ZGO : stepA E C B 148 Z0T Zhg (φ, H) = some (fput φ 58 (fget φ 1), H) := nf
theorem ZK9 : stepA E C B 148 Z0T Zhp (φ, H) = some (fput φ 59 (fget φ 2), H) := nf
theorem ZL6 : stepA E C B 148 Z0T Zgd (φ, H) = some (fput φ 60 (fget φ 4), H) := nf
theorem ZId : stepA E C B 148 Z0T ZgN (φ, H) = mutX (some 61) φ (C 137 [(fget φ 57), (fget φ 58), (fget φ 59), (fget φ 60)] H (B + 148 * 8)) := nf
def Z6d := kR Z6X
def ZdI := kL Z6d
def Z0p := kO ZdI
def Zfx := opN Z0p 0
def Zg7 := opN Z0p 1
def ZfN := opN Z0p 2
def Zgr := opN Z0p 3
def Zev := opN Z0p 4
def ZhY := opN Z0p 5
def ZfV := opN Z0p 6
theorem ZZt : XG 121 148 ZdI Z0p [62, 63, 64, 65, 66, 67] := Z1 (by rfl) (by rfl) _
theorem ZMz : Z0p.toList = [Zfx, Zg7, ZfN, Zgr, Zev, ZhY, ZfV] := nf
theorem ZJO : stepA E C B 148 Z0p Zfx (φ, H) = some (fput φ 62 (fget φ 2), H) := nf
theorem ZLw : stepA E C B 148 Z0p Zg7 (φ, H) = stp (some 63) φ H (just (aBin E.T .sub 3 (fget φ 62) (.int .i64 1))) := nf
theorem ZLA : stepA E C B 148 Z0p ZfN (φ, H) = some (fput φ 64 (fget φ 13), H) := nf
theorem ZKe : stepA E C B 148 Z0p Zgr (φ, H) = some (fput φ 65 (fget φ 1), H) := nf
theorem ZGw : stepA E C B 148 Z0p Zev (φ, H) = stp (some 66) φ H (just (aBin E.T .sub 3 (fget φ 64) (fget φ 65))) := nf
theorem ZMs : stepA E C B 148 Z0p ZhY (φ, H) = stp (some 67) φ H (just (aBin E.T .sub 3 (fget φ 63) (fget φ 66))) := nf
theorem ZMd : stepA E C B 148 Z0p ZfV (φ, H) = some (fput φ 13 (fget φ 67), H) := nf
def Zeb := kR Z6d
def Z6w := kO Zeb
def Zgv := opN Z6w 0
theorem Z01n : XG 121 148 Zeb Z6w [] := Z1 (by rfl) (by rfl) _
theorem ZL8 : Z6w.toList = [Zgv] := nf
theorem ZM0 : stepA E C B 148 Z6w Zgv (φ, H) = some (fput φ 14 (.int .i64 1), H) := nf
theorem Z03Z : XQ 121 148 Z6d ZdI Zeb := Z0 (by rfl) _
theorem Z04a : XQ 121 148 Z6X Ze2 Z6d := Z0 (by rfl) _
def ZDw := kE Z69
theorem Z04F : execA E C (fg 121) B 148 E0 N ZDw s = some (.normal, s) := Zh (by rfl) s
theorem Z06T : XC 121 148 Z69 56 Z6X ZDw := Zf (by rfl) _
theorem Z03b : XQ 121 148 Z6i ZdL Z69 := Z0 (by rfl) _
def Z6T := kR Z7l
def Z7b := kL Z6T
def ZdF := kL Z7b
def Z05 := kO ZdF
def Zf1 := opN Z05 0
def Z5O := opN Z05 1
def ZgI := opN Z05 2
def Zep := opN Z05 3
def Z40 := opN Z05 4
def ZhP := opN Z05 5
def ZfW := opN Z05 6
def Zhf := opN Z05 7
theorem Z07Z : XG 121 148 ZdF Z05 [14, 56, 68, 69, 70, 71, 72, 73, 74] := Z1 (by rfl) (by rfl) _
theorem ZMO : Z05.toList = [Zf1, Z5O, ZgI, Zep, Z40, ZhP, ZfW, Zhf] := nf
theorem ZLm : stepA E C B 148 Z05 Zf1 (φ, H) = some (fput φ 68 (fget φ 10), H) := nf
theorem ZGa : stepA E C B 148 Z05 Z5O (φ, H) = some (fput φ 69 (fget φ 68), H) := nf
theorem ZMU : stepA E C B 148 Z05 ZgI (φ, H) = gd φ 69 true (fun φ => some (fput φ 70 (.tup []), H)) (fun φ => some (fput φ 70 (fget φ 11), H)) := s_gd (j := 1) (oj := Z5O) rfl rfl rfl (fun _ => rfl) (fun _ => rfl)
theorem ZMN : stepA E C B 148 Z05 Zep (φ, H) = stp (some 71) φ H (opPick (fget φ 69) (fget φ 70) (.bool false)) := nf
theorem ZLy : stepA E C B 148 Z05 Z40 (φ, H) = some (fput φ 72 (fget φ 71), H) := nf
theorem ZIN : stepA E C B 148 Z05 ZhP (φ, H) = gd φ 72 true (fun φ => some (fput φ 73 (.tup []), H)) (fun φ => some (fput φ 73 (fget φ 14), H)) := s_gd (j := 4) (oj := Z40) rfl rfl rfl (fun _ => rfl) (fun _ => rfl)
theorem ZJc : stepA E C B 148 Z05 ZfW (φ, H) = gd φ 72 true (fun φ => some (fput φ 74 (.tup []), H)) (fun φ => stp (some 74) φ H (just (aBin E.T .eql 105 (fget φ 73) (.int .i64 1)))) := s_gd (j := 4) (oj := Z40) rfl rfl rfl (fun _ => rfl) (fun _ => rfl)
theorem ZIB : stepA E C B 148 Z05 Zhf (φ, H) = stp (some 75) φ H (opPick (fget φ 72) (fget φ 74) (.bool false)) := nf
def Z6C := kR Z7b
def Z83 := kT Z6C
def Zdh := kL Z83
def Z0S := kO Zdh
def ZhA := opN Z0S 0
def Zh8 := opN Z0S 1
def Zi5 := opN Z0S 2
def Zhj := opN Z0S 3
def Zgj := opN Z0S 4
theorem Z03Y : XG 121 148 Zdh Z0S [75, 76, 77, 78, 79] := Z1 (by rfl) (by rfl) _
theorem ZKO : Z0S.toList = [ZhA, Zh8, Zi5, Zhj, Zgj] := nf
theorem ZMp : stepA E C B 148 Z0S ZhA (φ, H) = some (fput φ 76 (fget φ 0), H) := nf
theorem ZLZ : stepA E C B 148 Z0S Zh8 (φ, H) = some (fput φ 77 (fget φ 1), H) := nf
theorem ZHB : stepA E C B 148 Z0S Zi5 (φ, H) = some (fput φ 78 (fget φ 2), H) := nf
theorem ZJg : stepA E C B 148 Z0S Zhj (φ, H) = some (fput φ 79 (fget φ 4), H) := nf
theorem ZJl : stepA E C B 148 Z0S Zgj (φ, H) = mutX (some 80) φ (C 138 [(fget φ 76), (fget φ 77), (fget φ 78), (fget φ 79)] H (B + 148 * 8)) := nf
def Z7Z := kR Z83
def Zvm := kT Z7Z
theorem Z04E : execA E C (fg 121) B 148 E0 N Zvm s = some (.ret, s) := Zq (by rfl) s
def ZxQ := kE Z7Z
theorem Z09M : execA E C (fg 121) B 148 E0 N ZxQ s = some (.normal, s) := Zh (by rfl) s
theorem Z05u : XC 121 148 Z7Z 80 Zvm ZxQ := Zf (by rfl) _
theorem Z03T : XQ 121 148 Z83 Zdh Z7Z := Z0 (by rfl) _
def ZvE := kE Z6C
theorem Z05t : execA E C (fg 121) B 148 E0 N ZvE s = some (.normal, s) := Zh (by rfl) s
theorem Z00f : XC 121 148 Z6C 75 Z83 ZvE := Zf (by rfl) _
theorem Z050 : XQ 121 148 Z7b ZdF Z6C := Z0 (by rfl) _
def Z85 := kR Z6T
def Z7d := kL Z85
def Zel := kL Z7d
def Zj := kO Zel
def ZgS := opN Zj 0
def Zfo := opN Zj 1
def ZY := opN Zj 2
def Zh1 := opN Zj 3
def Zf9 := opN Zj 4
def Zho := opN Zj 5
def Zi1 := opN Zj 6
def ZfC := opN Zj 7
def ZgM := opN Zj 8
def Zgm := opN Zj 9
def ZaM := opN Zj 10
def Zad := opN Zj 11
def ZaH := opN Zj 12
def Z9U := opN Zj 13
def Zc7 := opN Zj 14
def Z91 := opN Zj 15
def Z9B := opN Zj 16
theorem Z044 : XD 121 148 Zel Zj [75, 80, 81, 82, 83, 84, 85, 86, 87, 88, 89, 90, 91, 92, 93, 94, 95, 96] := Z0h (by rfl) (by rfl) _
theorem ZI2 : Zj.toList = [ZgS, Zfo, ZY, Zh1, Zf9, Zho, Zi1, ZfC, ZgM, Zgm, ZaM, Zad, ZaH, Z9U, Zc7, Z91, Z9B] := nf
theorem ZEi : statOk Zj = true := by kernel_rfl
theorem ZEH : drawA E C B 148 Zj s = if neat 148 s = true then drX Zj (runT E C B 148 Zj Zj.toList 0 s) else none := Z00 ZEi s
theorem ZEM (l : List (Nat × Tr)) : dynOk Zj l = (!writing l || Za [[], [0], [0, 1], [0, 1, 2], [0, 1, 2], [0, 1, 2], [0, 1, 2, 5], [0, 1, 2, 4, 5, 6], [0, 1, 2, 4, 5, 6, 7], [0, 1, 2], [0, 1, 2], [0, 1, 2, 9, 10], [0, 1, 2, 9, 10, 11], [0, 1, 2, 3, 4, 5, 6, 7, 8, 9, 10, 11, 12], [0, 1, 2, 3, 4, 5, 6, 7, 8, 9, 10, 11, 12, 13], [0, 1, 2, 3, 4, 5, 6, 7, 8, 9, 10, 11, 12, 13, 14], [0, 1, 2, 3, 4, 5, 6, 7, 8, 9, 10, 11, 12, 13, 14, 15]] (Z9 l)) := ZQ (by kernel_rfl) l
theorem ZJJ : stepT E C B 148 Zj ZgS (φ, H) = some ((fput φ 81 (fget φ 1), H), ⟨false, [], []⟩) := Z3 rfl (Z7 rfl rfl)
theorem ZIy : stepT E C B 148 Zj Zfo (φ, H) = stpT (some 82) φ H (just (aBin E.T .gtr 3 (fget φ 81) (.int .i64 0))) := Z3 rfl (Z5 rfl rfl)
theorem ZMc : stepT E C B 148 Zj ZY (φ, H) = some ((fput φ 83 (fget φ 82), H), ⟨false, [], []⟩) := Z3 rfl (Z7 rfl rfl)
theorem ZJi : stepT E C B 148 Zj Zh1 (φ, H) = gdT φ 83 true (fun φ => (some (fput φ 84 (.tup []), H)).map fun s => (s, ⟨false, [], []⟩)) (fun φ => some ((fput φ 84 (fget φ 4), H), ⟨false, [], []⟩)) := Zb (j := 2) (oj := ZY) rfl rfl rfl (fun _ => rfl) (fun _ => Z7 rfl rfl)
theorem ZI6 : stepT E C B 148 Zj Zf9 (φ, H) = gdT φ 83 true (fun φ => (some (fput φ 85 (.tup []), H)).map fun s => (s, ⟨false, [], []⟩)) (fun φ => some ((fput φ 85 (fget φ 0), H), ⟨false, [], []⟩)) := Zb (j := 2) (oj := ZY) rfl rfl rfl (fun _ => rfl) (fun _ => Z7 rfl rfl)
theorem ZJq : stepT E C B 148 Zj Zho (φ, H) = gdT φ 83 true (fun φ => (some (fput φ 86 (.tup []), H)).map fun s => (s, ⟨false, [], []⟩)) (fun φ => some ((fput φ 86 (fget φ 1), H), ⟨false, [], []⟩)) := Zb (j := 2) (oj := ZY) rfl rfl rfl (fun _ => rfl) (fun _ => Z7 rfl rfl)
theorem ZMP : stepT E C B 148 Zj Zi1 (φ, H) = gdT φ 83 true (fun φ => (some (fput φ 87 (.tup []), H)).map fun s => (s, ⟨false, [], []⟩)) (fun φ => stpT (some 87) φ H (just (aBin E.T .sub 3 (fget φ 86) (.int .i64 1)))) := Zb (j := 2) (oj := ZY) rfl rfl rfl (fun _ => rfl) (fun _ => Z5 rfl rfl)
theorem ZMD : stepT E C B 148 Zj ZfC (φ, H) = gdT φ 83 true (fun φ => (some (fput φ 88 (.tup []), H)).map fun s => (s, ⟨false, [], []⟩)) (fun φ => stpT (some 88) φ H (just (Z2 E.T 22 (fget φ 85) (fget φ 87)))) := Zb (j := 2) (oj := ZY) rfl rfl rfl (fun _ => rfl) (fun _ => Z5 rfl rfl)
theorem ZN7 : stepT E C B 148 Zj ZgM (φ, H) = gdT φ 83 true (fun φ => (some (fput φ 89 (.tup []), H)).map fun s => (s, ⟨false, [], []⟩)) (fun φ => stpT (some 89) φ H (just (aLoad E.T 3 (fget φ 88)))) := Zb (j := 2) (oj := ZY) rfl rfl rfl (fun _ => rfl) (fun _ => Z5 rfl rfl)
theorem ZHu : stepT E C B 148 Zj Zgm (φ, H) = gdT φ 83 true (fun φ => (some (fput φ 90 (.tup []), H)).map fun s => (s, ⟨false, [], []⟩)) (fun φ => some ((fput φ 90 (fget φ 0), H), ⟨false, [], []⟩)) := Zb (j := 2) (oj := ZY) rfl rfl rfl (fun _ => rfl) (fun _ => Z7 rfl rfl)
theorem ZFC : stepT E C B 148 Zj ZaM (φ, H) = gdT φ 83 true (fun φ => (some (fput φ 91 (.tup []), H)).map fun s => (s, ⟨false, [], []⟩)) (fun φ => some ((fput φ 91 (fget φ 13), H), ⟨false, [], []⟩)) := Zb (j := 2) (oj := ZY) rfl rfl rfl (fun _ => rfl) (fun _ => Z7 rfl rfl)
theorem ZFE : stepT E C B 148 Zj Zad (φ, H) = gdT φ 83 true (fun φ => (some (fput φ 92 (.tup []), H)).map fun s => (s, ⟨false, [], []⟩)) (fun φ => stpT (some 92) φ H (just (Z2 E.T 22 (fget φ 90) (fget φ 91)))) := Zb (j := 2) (oj := ZY) rfl rfl rfl (fun _ => rfl) (fun _ => Z5 rfl rfl)
theorem ZDI : stepT E C B 148 Zj ZaH (φ, H) = gdT φ 83 true (fun φ => (some (fput φ 93 (.tup []), H)).map fun s => (s, ⟨false, [], []⟩)) (fun φ => stpT (some 93) φ H (just (aLoad E.T 3 (fget φ 92)))) := Zb (j := 2) (oj := ZY) rfl rfl rfl (fun _ => rfl) (fun _ => Z5 rfl rfl)
theorem ZFF : stepT E C B 148 Zj Z9U (φ, H) = gdT φ 83 true (fun φ => (some (fput φ 94 (.tup []), H)).map fun s => (s, ⟨false, [], []⟩)) (fun φ => callVT E C (B + 148 * 8) (some 94) (fun j => B + j * 148 + 94) φ H (fget φ 84) [(fget φ 89), (fget φ 93)] true) := Zb (j := 2) (oj := ZY) rfl rfl rfl (fun _ => rfl) (fun _ => ZWt rfl rfl)
theorem ZDT : stepT E C B 148 Zj Zc7 (φ, H) = gdT φ 83 true (fun φ => (some (fput φ 95 (.tup []), H)).map fun s => (s, ⟨false, [], []⟩)) (fun φ => stpT (some 95) φ H (just (aBin E.T .lss 3 (fget φ 94) (.int .i64 0)))) := Zb (j := 2) (oj := ZY) rfl rfl rfl (fun _ => rfl) (fun _ => Z5 rfl rfl)
theorem ZDJ : stepT E C B 148 Zj Z91 (φ, H) = gdT φ 83 true (fun φ => (some (fput φ 96 (.tup []), H)).map fun s => (s, ⟨false, [], []⟩)) (fun φ => stpT (some 96) φ H (justO (aUn .not (fget φ 95)))) := Zb (j := 2) (oj := ZY) rfl rfl rfl (fun _ => rfl) (fun _ => Z5 rfl rfl)
theorem ZEj : stepT E C B 148 Zj Z9B (φ, H) = stpT (some 97) φ H (opPick (fget φ 83) (fget φ 96) (.bool false)) := Z3 rfl (Z5 rfl rfl)
def Z6r := kR Z7d
def Z7G := kT Z6r
def Zdr := kL Z7G
def Z0r := kO Zdr
def ZhB := opN Z0r 0
def Zip := opN Z0r 1
def Zh9 := opN Z0r 2
def Zes := opN Z0r 3
def ZeO := opN Z0r 4
def Zh2 := opN Z0r 5
def Zhr := opN Z0r 6
theorem ZXp : XG 121 148 Zdr Z0r [1, 12, 13, 97, 98, 99, 100, 101, 102, 103] := Z1 (by rfl) (by rfl) _
theorem ZIk : Z0r.toList = [ZhB, Zip, Zh9, Zes, ZeO, Zh2, Zhr] := nf
theorem ZH1 : stepA E C B 148 Z0r ZhB (φ, H) = some (fput φ 98 (fget φ 0), H) := nf
theorem ZKn : stepA E C B 148 Z0r Zip (φ, H) = some (fput φ 99 (fget φ 1), H) := nf
theorem ZJm : stepA E C B 148 Z0r Zh9 (φ, H) = some (fput φ 100 (fget φ 2), H) := nf
theorem ZI3 : stepA E C B 148 Z0r Zes (φ, H) = some (fput φ 101 (fget φ 13), H) := nf
theorem ZKN : stepA E C B 148 Z0r ZeO (φ, H) = some (fput φ 102 (fget φ 4), H) := nf
theorem ZJD : stepA E C B 148 Z0r Zh2 (φ, H) = mutX (some 103) φ (C 139 [(fget φ 98), (fget φ 99), (fget φ 100), (fget φ 101), (fget φ 102)] H (B + 148 * 8)) := nf
theorem ZJV : stepA E C B 148 Z0r Zhr (φ, H) = some (fput φ 15 (fget φ 103), H) := nf
def Z73 := kR Z7G
def ZdJ := kL Z73
def Z3t := kO ZdJ
def Zgx := opN Z3t 0
def Zeq := opN Z3t 1
theorem Z02U : XG 121 148 ZdJ Z3t [15, 104] := Z1 (by rfl) (by rfl) _
theorem ZHR : Z3t.toList = [Zgx, Zeq] := nf
theorem ZGs : stepA E C B 148 Z3t Zgx (φ, H) = some (fput φ 104 (fget φ 15), H) := nf
theorem ZKd : stepA E C B 148 Z3t Zeq (φ, H) = some (fput φ 1 (fget φ 104), H) := nf
def ZwW := kR Z73
theorem ZZu : execA E C (fg 121) B 148 E0 N ZwW s = some (.exit 1, s) := ZI (by rfl) s
theorem ZY2 : XQ 121 148 Z73 ZdJ ZwW := Z0 (by rfl) _
theorem Z09P : XQ 121 148 Z7G Zdr Z73 := Z0 (by rfl) _
def ZAh := kE Z6r
theorem Z08Q : execA E C (fg 121) B 148 E0 N ZAh s = some (.normal, s) := Zh (by rfl) s
theorem Z00c : XC 121 148 Z6r 97 Z7G ZAh := Zf (by rfl) _
theorem ZZZ : XQ 121 148 Z7d Zel Z6r := Z0 (by rfl) _
def Z77 := kR Z85
def Zdc := kL Z77
def ZD := kO Zdc
def ZfF := opN ZD 0
def Zi7 := opN ZD 1
def Zfn := opN ZD 2
def Zhq := opN ZD 3
def Zhh := opN ZD 4
def Zeo := opN ZD 5
def Zh4 := opN ZD 6
def ZeC := opN ZD 7
def Zio := opN ZD 8
def ZeX := opN ZD 9
def Zcv := opN ZD 10
theorem Z0ac : XG 121 148 Zdc ZD [10, 11, 13, 97, 105, 106, 107, 108, 109, 110, 111, 112, 113] := Z1 (by rfl) (by rfl) _
theorem ZJM : ZD.toList = [ZfF, Zi7, Zfn, Zhq, Zhh, Zeo, Zh4, ZeC, Zio, ZeX, Zcv] := nf
theorem ZI7 : stepA E C B 148 ZD ZfF (φ, H) = some (fput φ 106 (fget φ 0), H) := nf
theorem ZGh : stepA E C B 148 ZD Zi7 (φ, H) = some (fput φ 107 (fget φ 1), H) := nf
theorem ZLt : stepA E C B 148 ZD Zfn (φ, H) = some (fput φ 108 (fget φ 2), H) := nf
theorem ZIF : stepA E C B 148 ZD Zhq (φ, H) = some (fput φ 109 (fget φ 13), H) := nf
theorem ZML : stepA E C B 148 ZD Zhh (φ, H) = some (fput φ 110 (fget φ 4), H) := nf
theorem ZFQ : stepA E C B 148 ZD Zeo (φ, H) = mutX (some 111) φ (C 140 [(fget φ 106), (fget φ 107), (fget φ 108), (fget φ 109), (fget φ 110)] H (B + 148 * 8)) := nf
theorem ZMH : stepA E C B 148 ZD Zh4 (φ, H) = some (fput φ 105 (fget φ 111), H) := nf
theorem ZFY : stepA E C B 148 ZD ZeC (φ, H) = stp (some 112) φ H (Zs (fget φ 105) 0) := nf
theorem ZMj : stepA E C B 148 ZD Zio (φ, H) = stp (some 113) φ H (Zs (fget φ 105) 1) := nf
theorem ZKh : stepA E C B 148 ZD ZeX (φ, H) = some (fput φ 16 (fget φ 112), H) := nf
theorem ZDO : stepA E C B 148 ZD Zcv (φ, H) = some (fput φ 17 (fget φ 113), H) := nf
def Z7R := kR Z77
def Zdm := kL Z7R
def Z3B := kO Zdm
def Zgi := opN Z3B 0
def ZfI := opN Z3B 1
theorem Z0as : XG 121 148 Zdm Z3B [17, 114] := Z1 (by rfl) (by rfl) _
theorem ZK5 : Z3B.toList = [Zgi, ZfI] := nf
theorem ZJY : stepA E C B 148 Z3B Zgi (φ, H) = some (fput φ 114 (fget φ 17), H) := nf
theorem ZHP : stepA E C B 148 Z3B ZfI (φ, H) = some (fput φ 11 (fget φ 114), H) := nf
def Z6E := kR Z7R
def ZdP := kL Z6E
def Z06 := kO ZdP
def Zf7 := opN Z06 0
def Zhk := opN Z06 1
def Zgf := opN Z06 2
def Zge := opN Z06 3
def Zfi := opN Z06 4
def Zic := opN Z06 5
def Zfh := opN Z06 6
def Zi6 := opN Z06 7
theorem ZWF : XG 121 148 ZdP Z06 [115, 116, 117, 118, 119, 120] := Z1 (by rfl) (by rfl) _
theorem ZKI : Z06.toList = [Zf7, Zhk, Zgf, Zge, Zfi, Zic, Zfh, Zi6] := nf
theorem ZJu : stepA E C B 148 Z06 Zf7 (φ, H) = some (fput φ 115 (fget φ 16), H) := nf
theorem ZGR : stepA E C B 148 Z06 Zhk (φ, H) = some (fput φ 116 (fget φ 1), H) := nf
theorem ZM5 : stepA E C B 148 Z06 Zgf (φ, H) = stp (some 117) φ H (just (aBin E.T .sub 3 (fget φ 115) (fget φ 116))) := nf
theorem ZIC : stepA E C B 148 Z06 Zge (φ, H) = some (fput φ 118 (fget φ 2), H) := nf
theorem ZJk : stepA E C B 148 Z06 Zfi (φ, H) = some (fput φ 119 (fget φ 16), H) := nf
theorem ZFM : stepA E C B 148 Z06 Zic (φ, H) = stp (some 120) φ H (just (aBin E.T .sub 3 (fget φ 118) (fget φ 119))) := nf
theorem ZLL : stepA E C B 148 Z06 Zfh (φ, H) = some (fput φ 18 (fget φ 117), H) := nf
theorem ZKY : stepA E C B 148 Z06 Zi6 (φ, H) = some (fput φ 19 (fget φ 120), H) := nf
def Z7X := kR Z6E
def Zd5 := kL Z7X
def Z2d := kO Zd5
def Zgk := opN Z2d 0
def ZfD := opN Z2d 1
def Zf5 := opN Z2d 2
theorem Z05S : XG 121 148 Zd5 Z2d [12, 121, 122] := Z1 (by rfl) (by rfl) _
theorem ZLI : Z2d.toList = [Zgk, ZfD, Zf5] := nf
theorem ZHV : stepA E C B 148 Z2d Zgk (φ, H) = some (fput φ 121 (fget φ 12), H) := nf
theorem ZGG : stepA E C B 148 Z2d ZfD (φ, H) = stp (some 122) φ H (just (aBin E.T .quo 3 (fget φ 121) (.int .i64 8))) := nf
theorem ZHo : stepA E C B 148 Z2d Zf5 (φ, H) = some (fput φ 20 (fget φ 122), H) := nf
def Z6Z := kR Z7X
def Ze1 := kL Z6Z
def Z26 := kO Ze1
def Zgl := opN Z26 0
def ZeD := opN Z26 1
def ZfB := opN Z26 2
theorem Z04v : XG 121 148 Ze1 Z26 [123, 124] := Z1 (by rfl) (by rfl) _
theorem ZKA : Z26.toList = [Zgl, ZeD, ZfB] := nf
theorem ZKl : stepA E C B 148 Z26 Zgl (φ, H) = some (fput φ 123 (fget φ 18), H) := nf
theorem ZGq : stepA E C B 148 Z26 ZeD (φ, H) = some (fput φ 124 (fget φ 19), H) := nf
theorem ZKW : stepA E C B 148 Z26 ZfB (φ, H) = stp (some 125) φ H (just (aBin E.T .lss 3 (fget φ 123) (fget φ 124))) := nf
def Z6Y := kR Z6Z
def Z7a := kT Z6Y
def Zdg := kL Z7a
def Z1n := kO Zdg
def Zfu := opN Z1n 0
def Zfv := opN Z1n 1
def Zhx := opN Z1n 2
def Zfe := opN Z1n 3
theorem Z08R : XG 121 148 Zdg Z1n [18, 19, 20, 125, 126, 127, 128] := Z1 (by rfl) (by rfl) _
theorem ZIO : Z1n.toList = [Zfu, Zfv, Zhx, Zfe] := nf
theorem ZIi : stepA E C B 148 Z1n Zfu (φ, H) = some (fput φ 126 (fget φ 18), H) := nf
theorem ZIL : stepA E C B 148 Z1n Zfv (φ, H) = some (fput φ 127 (fget φ 20), H) := nf
theorem ZJd : stepA E C B 148 Z1n Zhx (φ, H) = stp (some 128) φ H (just (aBin E.T .geq 3 (fget φ 126) (fget φ 127))) := nf
theorem ZMq : stepA E C B 148 Z1n Zfe (φ, H) = some (fput φ 10 (fget φ 128), H) := nf
def Z6S := kR Z7a
def Zef := kL Z6S
def Z0A := kO Zef
def Zf2 := opN Z0A 0
def ZhZ := opN Z0A 1
def ZeE := opN Z0A 2
def Zg5 := opN Z0A 3
def ZhU := opN Z0A 4
def Zh3 := opN Z0A 5
theorem ZXc : XG 121 148 Zef Z0A [1, 129, 130, 131, 132, 133, 134] := Z1 (by rfl) (by rfl) _
theorem ZFJ : Z0A.toList = [Zf2, ZhZ, ZeE, Zg5, ZhU, Zh3] := nf
theorem ZMF : stepA E C B 148 Z0A Zf2 (φ, H) = some (fput φ 129 (fget φ 0), H) := nf
theorem ZLp : stepA E C B 148 Z0A ZhZ (φ, H) = some (fput φ 130 (fget φ 1), H) := nf
theorem ZGf : stepA E C B 148 Z0A ZeE (φ, H) = some (fput φ 131 (fget φ 16), H) := nf
theorem ZHh : stepA E C B 148 Z0A Zg5 (φ, H) = some (fput φ 132 (fget φ 3), H) := nf
theorem ZHa : stepA E C B 148 Z0A ZhU (φ, H) = some (fput φ 133 (fget φ 4), H) := nf
theorem ZK6 : stepA E C B 148 Z0A Zh3 (φ, H) = mutX (some 134) φ (C 121 [(fget φ 129), (fget φ 130), (fget φ 131), (fget φ 132), (fget φ 133)] H (B + 148 * 8)) := nf
def ZdH := kR Z6S
def Z28 := kO ZdH
def Zfm := opN Z28 0
def Zia := opN Z28 1
def Zfw := opN Z28 2
theorem ZXi : XG 121 148 ZdH Z28 [16, 135, 136] := Z1 (by rfl) (by rfl) _
theorem ZHZ : Z28.toList = [Zfm, Zia, Zfw] := nf
theorem ZGZ : stepA E C B 148 Z28 Zfm (φ, H) = some (fput φ 135 (fget φ 16), H) := nf
theorem ZGE : stepA E C B 148 Z28 Zia (φ, H) = stp (some 136) φ H (just (aBin E.T .add 3 (fget φ 135) (.int .i64 1))) := nf
theorem ZIo : stepA E C B 148 Z28 Zfw (φ, H) = some (fput φ 1 (fget φ 136), H) := nf
theorem Z04N : XQ 121 148 Z6S Zef ZdH := Z0 (by rfl) _
theorem Z07a : XQ 121 148 Z7a Zdg Z6S := Z0 (by rfl) _
def Z7j := kE Z6Y
def Ze7 := kL Z7j
def Z1p := kO Ze7
def ZfO := opN Z1p 0
def ZgY := opN Z1p 1
def ZgH := opN Z1p 2
def Zey := opN Z1p 3
theorem ZXP : XG 121 148 Ze7 Z1p [18, 19, 20, 125, 137, 138, 139] := Z1 (by rfl) (by rfl) _
theorem ZHT : Z1p.toList = [ZfO, ZgY, ZgH, Zey] := nf
theorem ZH2 : stepA E C B 148 Z1p ZfO (φ, H) = some (fput φ 137 (fget φ 19), H) := nf
theorem ZGY : stepA E C B 148 Z1p ZgY (φ, H) = some (fput φ 138 (fget φ 20), H) := nf
theorem ZGS : stepA E C B 148 Z1p ZgH (φ, H) = stp (some 139) φ H (just (aBin E.T .geq 3 (fget φ 137) (fget φ 138))) := nf
theorem ZG0 : stepA E C B 148 Z1p Zey (φ, H) = some (fput φ 10 (fget φ 139), H) := nf
def Z67 := kR Z7j
def ZdC := kL Z67
def Z0n := kO ZdC
def ZhK := opN Z0n 0
def Zi8 := opN Z0n 1
def Zgn := opN Z0n 2
def Zh0 := opN Z0n 3
def ZeK := opN Z0n 4
def Zim := opN Z0n 5
def Zg2 := opN Z0n 6
theorem Z04s : XG 121 148 ZdC Z0n [2, 140, 141, 142, 143, 144, 145, 146] := Z1 (by rfl) (by rfl) _
theorem ZN1 : Z0n.toList = [ZhK, Zi8, Zgn, Zh0, ZeK, Zim, Zg2] := nf
theorem ZM8 : stepA E C B 148 Z0n ZhK (φ, H) = some (fput φ 140 (fget φ 0), H) := nf
theorem ZKz : stepA E C B 148 Z0n Zi8 (φ, H) = some (fput φ 141 (fget φ 16), H) := nf
theorem ZIP : stepA E C B 148 Z0n Zgn (φ, H) = stp (some 142) φ H (just (aBin E.T .add 3 (fget φ 141) (.int .i64 1))) := nf
theorem ZGF : stepA E C B 148 Z0n Zh0 (φ, H) = some (fput φ 143 (fget φ 2), H) := nf
theorem ZLo : stepA E C B 148 Z0n ZeK (φ, H) = some (fput φ 144 (fget φ 3), H) := nf
theorem ZHc : stepA E C B 148 Z0n Zim (φ, H) = some (fput φ 145 (fget φ 4), H) := nf
theorem ZKa : stepA E C B 148 Z0n Zg2 (φ, H) = mutX (some 146) φ (C 121 [(fget φ 140), (fget φ 142), (fget φ 143), (fget φ 144), (fget φ 145)] H (B + 148 * 8)) := nf
def Ze9 := kR Z67
def Z3s := kO Ze9
def Zex := opN Z3s 0
def ZhG := opN Z3s 1
theorem Z067 : XG 121 148 Ze9 Z3s [16, 147] := Z1 (by rfl) (by rfl) _
theorem ZJ9 : Z3s.toList = [Zex, ZhG] := nf
theorem ZJj : stepA E C B 148 Z3s Zex (φ, H) = some (fput φ 147 (fget φ 16), H) := nf
theorem ZLc : stepA E C B 148 Z3s ZhG (φ, H) = some (fput φ 2 (fget φ 147), H) := nf
theorem Z05W : XQ 121 148 Z67 ZdC Ze9 := Z0 (by rfl) _
theorem Z08A : XQ 121 148 Z7j Ze7 Z67 := Z0 (by rfl) _
theorem Z01N : XC 121 148 Z6Y 125 Z7a Z7j := Zf (by rfl) _
theorem Z03v : XQ 121 148 Z6Z Ze1 Z6Y := Z0 (by rfl) _
theorem Z05Y : XQ 121 148 Z7X Zd5 Z6Z := Z0 (by rfl) _
theorem Z03G : XQ 121 148 Z6E ZdP Z7X := Z0 (by rfl) _
theorem Z022 : XQ 121 148 Z7R Zdm Z6E := Z0 (by rfl) _
theorem Z03S : XQ 121 148 Z77 Zdc Z7R := Z0 (by rfl) _
theorem Z08g : XQ 121 148 Z85 Z7d Z77 := Z0 (by rfl) _
theorem Z012 : XQ 121 148 Z6T Z7b Z85 := Z0 (by rfl) _
theorem Z04y : XQ 121 148 Z7l Z6i Z6T := Z0 (by rfl) _
theorem Z01Y : XQ 121 148 Z7s Ze4 Z7l := Z0 (by rfl) _
theorem Z0a7 : XQ 121 148 Z7h Z65 Z7s := Z0 (by rfl) _
theorem Z00F : XQ 121 148 Z6x Z7w Z7h := Z0 (by rfl) _
theorem Z0aN : XQ 121 148 ZbV Z7C Z6x := Z0 (by rfl) _
theorem Z0dl : XQ 121 148 Zbk Zli ZbV := Z0 (by rfl) _
theorem Z0ib : execA E C (fg 121) B 148 E0 N ZnL s = blockX 1 (fun s => (forget s.1 [], s.2)) (execA E C (fg 121) B 148 E0 N Zbk s) := Ze (by rfl) (by rfl) s
theorem Z0es : execA E C (fg 121) B 148 E0 N ZqU s = iterA (execA E C (fg 121) B 148 E0 N ZnL) (headA E0) N s := ZV (by rfl) s
theorem Z0hC : execA E C (fg 121) B 148 E0 N Zpa s = blockX 0 (fun s => (forget s.1 [], s.2)) (execA E C (fg 121) B 148 E0 N ZqU s) := Ze (by rfl) (by rfl) s
theorem Z0eC : XQ 121 148 Z9Y Zn9 Zpa := Z0 (by rfl) _
theorem Z0b0 : XQ 121 148 Z5I Zt3 Z9Y := Z0 (by rfl) _
theorem Z0dU : fInfo E 121 = some ⟨148, #[], Z5I⟩ := nf
theorem Z0mY (args : List AV) : bodyA E C fg N 121 args H B = bodyX E [] (execA E C (fg 121) B 148 H N Z5I (Z8 args 0 [], H)) := Zt Z0dU args H
abbrev Z0jL := And.intro (And.intro (And.intro (And.intro (And.intro (And.intro (And.intro (And.intro @Z0ev @ZOe) (And.intro @ZPJ @Z0bG)) (And.intro (And.intro @ZTa @ZQe) (And.intro @Z0hc @ZSQ))) (And.intro (And.intro (And.intro @ZTg @ZOV) (And.intro @ZUN @ZVA)) (And.intro (And.intro @Z04f @ZTG) (And.intro @ZVi @ZWd)))) (And.intro (And.intro (And.intro (And.intro @Z07V @ZS4) (And.intro @ZTb @ZOj)) (And.intro (And.intro @ZVv @ZRa) (And.intro @ZQR @Z02K))) (And.intro (And.intro (And.intro @ZZV @Z06R) (And.intro @Z00X @Z04g)) (And.intro (And.intro @Z06Y @ZSL) (And.intro @ZRc (And.intro @ZTD @ZY5)))))) (And.intro (And.intro (And.intro (And.intro (And.intro @ZQQ @ZUn) (And.intro @ZW8 @ZRp)) (And.intro (And.intro @ZOG @ZOI) (And.intro @ZYj @Z07U))) (And.intro (And.intro (And.intro @Z01o @Z03K) (And.intro @Z06z @Z02F)) (And.intro (And.intro @ZRe @ZTF) (And.intro @ZVx @Z05X)))) (And.intro (And.intro (And.intro (And.intro @ZPe @ZRN) (And.intro @ZVo @ZU2)) (And.intro (And.intro @ZVY @ZTc) (And.intro @Z05o @ZOH))) (And.intro (And.intro (And.intro @ZPQ @ZPi) (And.intro @ZSb @ZZJ)) (And.intro (And.intro @Z065 @Z05E) (And.intro @ZYq (And.intro @Z08b @ZKt))))))) (And.intro (And.intro (And.intro (And.intro (And.intro (And.intro @ZMv @ZJI) (And.intro @ZN2 @ZKF)) (And.intro (And.intro @ZHA @ZMV) (And.intro @ZIp @ZIc))) (And.intro (And.intro (And.intro @ZHj @ZKC) (And.intro @Z08M @ZLO)) (And.intro (And.intro @ZMG @ZMn) (And.intro @Z04l @ZLC)))) (And.intro (And.intro (And.intro (And.intro @ZMC @ZGO) (And.intro @ZK9 @ZL6)) (And.intro (And.intro @ZId @ZZt) (And.intro @ZMz @ZJO))) (And.intro (And.intro (And.intro @ZLw @ZLA) (And.intro @ZKe @ZGw)) (And.intro (And.intro @ZMs @ZMd) (And.intro @Z01n (And.intro @ZL8 @ZM0)))))) (And.intro (And.intro (And.intro (And.intro (And.intro @Z03Z @Z04a) (And.intro @Z04F @Z06T)) (And.intro (And.intro @Z03b @Z07Z) (And.intro @ZMO @ZLm))) (And.intro (And.intro (And.intro @ZGa @ZMU) (And.intro @ZMN @ZLy)) (And.intro (And.intro @ZIN @ZJc) (And.intro @ZIB (And.intro @Z03Y @ZKO))))) (And.intro (And.intro (And.intro (And.intro @ZMp @ZLZ) (And.intro @ZHB @ZJg)) (And.intro (And.intro @ZJl @Z04E) (And.intro @Z09M @Z05u))) (And.intro (And.intro (And.intro @Z03T @Z05t) (And.intro @Z00f @Z050)) (And.intro (And.intro @Z044 @ZI2) (And.intro @ZEH (And.intro @ZEM @ZJJ)))))))) (And.intro (And.intro (And.intro (And.intro (And.intro (And.intro (And.intro @ZIy @ZMc) (And.intro @ZJi @ZI6)) (And.intro (And.intro @ZJq @ZMP) (And.intro @ZMD @ZN7))) (And.intro (And.intro (And.intro @ZHu @ZFC) (And.intro @ZFE @ZDI)) (And.intro (And.intro @ZFF @ZDT) (And.intro @ZDJ @ZEj)))) (And.intro (And.intro (And.intro (And.intro @ZXp @ZIk) (And.intro @ZH1 @ZKn)) (And.intro (And.intro @ZJm @ZI3) (And.intro @ZKN @ZJD))) (And.intro (And.intro (And.intro @ZJV @Z02U) (And.intro @ZHR @ZGs)) (And.intro (And.intro @ZKd @ZZu) (And.intro @ZY2 (And.intro @Z09P @Z08Q)))))) (And.intro (And.intro (And.intro (And.intro (And.intro @Z00c @ZZZ) (And.intro @Z0ac @ZJM)) (And.intro (And.intro @ZI7 @ZGh) (And.intro @ZLt @ZIF))) (And.intro (And.intro (And.intro @ZML @ZFQ) (And.intro @ZMH @ZFY)) (And.intro (And.intro @ZMj @ZKh) (And.intro @ZDO (And.intro @Z0as @ZK5))))) (And.intro (And.intro (And.intro (And.intro @ZJY @ZHP) (And.intro @ZWF @ZKI)) (And.intro (And.intro @ZJu @ZGR) (And.intro @ZM5 @ZIC))) (And.intro (And.intro (And.intro @ZJk @ZFM) (And.intro @ZLL @ZKY)) (And.intro (And.intro @Z05S @ZLI) (And.intro @ZHV (And.intro @ZGG @ZHo))))))) (And.intro (And.intro (And.intro (And.intro (And.intro (And.intro @Z04v @ZKA) (And.intro @ZKl @ZGq)) (And.intro (And.intro @ZKW @Z08R) (And.intro @ZIO @ZIi))) (And.intro (And.intro (And.intro @ZIL @ZJd) (And.intro @ZMq @ZXc)) (And.intro (And.intro @ZFJ @ZMF) (And.intro @ZLp @ZGf)))) (And.intro (And.intro (And.intro (And.intro @ZHh @ZHa) (And.intro @ZK6 @ZXi)) (And.intro (And.intro @ZHZ @ZGZ) (And.intro @ZGE @ZIo))) (And.intro (And.intro (And.intro @Z04N @Z07a) (And.intro @ZXP @ZHT)) (And.intro (And.intro @ZH2 @ZGY) (And.intro @ZGS (And.intro @ZG0 @Z04s)))))) (And.intro (And.intro (And.intro (And.intro (And.intro @ZN1 @ZM8) (And.intro @ZKz @ZIP)) (And.intro (And.intro @ZGF @ZLo) (And.intro @ZHc @ZKa))) (And.intro (And.intro (And.intro @Z067 @ZJ9) (And.intro @ZJj @ZLc)) (And.intro (And.intro @Z05W @Z08A) (And.intro @Z01N (And.intro @Z03v @Z05Y))))) (And.intro (And.intro (And.intro (And.intro @Z03G @Z022) (And.intro @Z03S @Z08g)) (And.intro (And.intro @Z012 @Z04y) (And.intro @Z01Y @Z0a7))) (And.intro (And.intro (And.intro @Z00F @Z0aN) (And.intro @Z0dl @Z0ib)) (And.intro (And.intro @Z0es @Z0hC) (And.intro @Z0eC (And.intro @Z0b0 @Z0mY))))))))
def Z5J := kBody Proofs.Try.f133
def ZqK := kL Z5J
def Z37 := kO ZqK
def Zmr := opN Z37 0
def Zo1 := opN Z37 1
def ZpP := opN Z37 2
theorem Z0df : XG 133 53 ZqK Z37 [10, 11] := Z1 (by rfl) (by rfl) _
theorem ZSl : Z37.toList = [Zmr, Zo1, ZpP] := nf
theorem ZVs : stepA E C B 53 Z37 Zmr (φ, H) = some (fput φ 10 (fget φ 1), H) := nf
theorem ZOg : stepA E C B 53 Z37 Zo1 (φ, H) = stp (some 11) φ H (just (aBin E.T .add 3 (fget φ 10) (.int .i64 1))) := nf
theorem ZRB : stepA E C B 53 Z37 ZpP (φ, H) = some (fput φ 8 (fget φ 11), H) := nf
def ZkA := kR Z5J
def ZrK := kB ZkA
def Z5R := kB ZrK
def Z9v := kL Z5R
def Zo9 := kL Z9v
def Z2V := kO Zo9
def Znl := opN Z2V 0
def Zlg := opN Z2V 1
def Zm2 := opN Z2V 2
theorem Z0gQ : XG 133 53 Zo9 Z2V [12, 13] := Z1 (by rfl) (by rfl) _
theorem ZNZ : Z2V.toList = [Znl, Zlg, Zm2] := nf
theorem ZRi : stepA E C B 53 Z2V Znl (φ, H) = some (fput φ 12 (fget φ 8), H) := nf
theorem ZOn : stepA E C B 53 Z2V Zlg (φ, H) = some (fput φ 13 (fget φ 2), H) := nf
theorem ZOc : stepA E C B 53 Z2V Zm2 (φ, H) = stp (some 14) φ H (just (aBin E.T .lss 3 (fget φ 12) (fget φ 13))) := nf
def ZbB := kR Z9v
def ZHM := kT ZbB
theorem Z0g6 : execA E C (fg 133) B 53 E0 N ZHM s = some (.normal, s) := Zh (by rfl) s
def ZGl := kE ZbB
theorem Z0hF : execA E C (fg 133) B 53 E0 N ZGl s = some (.exit 0, s) := ZI (by rfl) s
theorem Z0eY : XC 133 53 ZbB 14 ZHM ZGl := Zf (by rfl) _
theorem Z0fj : XQ 133 53 Z9v Zo9 ZbB := Z0 (by rfl) _
def Z6n := kR Z5R
def Zdp := kL Z6n
def Z82 := kB Zdp
def Ze5 := kL Z82
def Z4U := kO Ze5
def Zte := opN Z4U 0
def Znx := opN Z4U 1
theorem Z0ae : XG 133 53 Ze5 Z4U [14, 17] := Z1 (by rfl) (by rfl) _
theorem ZOr : Z4U.toList = [Zte, Znx] := nf
theorem ZUo : stepA E C B 53 Z4U Zte (φ, H) = some (fput φ 17 (fget φ 8), H) := nf
theorem ZNx : stepA E C B 53 Z4U Znx (φ, H) = some (fput φ 9 (fget φ 17), H) := nf
def Zej := kR Z82
def Zeh := kB Zej
def Z4Z := kB Zeh
def Z7g := kL Z4Z
def ZdR := kL Z7g
def Zo := kO ZdR
def Zms := opN Zo 0
def ZkV := opN Zo 1
def Zp5 := opN Zo 2
def Z0j := opN Zo 3
def Zod := opN Zo 4
def ZlP := opN Zo 5
def Zr3 := opN Zo 6
def Zrn := opN Zo 7
def Zl0 := opN Zo 8
def Zqu := opN Zo 9
def Zi0 := opN Zo 10
def Ziq := opN Zo 11
def ZfS := opN Zo 12
def Zh5 := opN Zo 13
def Zez := opN Zo 14
def ZeW := opN Zo 15
def Zi9 := opN Zo 16
theorem Z06D : XD 133 53 ZdR Zo [18, 19, 20, 21, 22, 23, 24, 25, 26, 27, 28, 29, 30, 31, 32, 33] := Z0h (by rfl) (by rfl) _
theorem ZSN : Zo.toList = [Zms, ZkV, Zp5, Z0j, Zod, ZlP, Zr3, Zrn, Zl0, Zqu, Zi0, Ziq, ZfS, Zh5, Zez, ZeW, Zi9] := nf
theorem ZKB : statOk Zo = true := by kernel_rfl
theorem ZMk : drawA E C B 53 Zo s = if neat 53 s = true then drX Zo (runT E C B 53 Zo Zo.toList 0 s) else none := Z00 ZKB s
theorem ZJQ (l : List (Nat × Tr)) : dynOk Zo l = (!writing l || Za [[], [], [0, 1], [0, 1, 2], [0, 1, 2, 3], [0, 1, 2, 3], [0, 1, 2, 3], [0, 1, 2, 3, 5, 6], [0, 1, 2, 3, 5, 6, 7], [0, 1, 2, 3], [0, 1, 2, 3], [0, 1, 2, 3, 10], [0, 1, 2, 3, 9, 10, 11], [0, 1, 2, 3, 9, 10, 11, 12], [0, 1, 2, 3, 4, 5, 6, 7, 8, 9, 10, 11, 12, 13], [0, 1, 2, 3, 4, 5, 6, 7, 8, 9, 10, 11, 12, 13, 14], [0, 1, 2, 3, 4, 5, 6, 7, 8, 9, 10, 11, 12, 13, 14, 15]] (Z9 l)) := ZQ (by kernel_rfl) l
theorem ZUJ : stepT E C B 53 Zo Zms (φ, H) = some ((fput φ 18 (fget φ 9), H), ⟨false, [], []⟩) := Z3 rfl (Z7 rfl rfl)
theorem ZOh : stepT E C B 53 Zo ZkV (φ, H) = some ((fput φ 19 (fget φ 1), H), ⟨false, [], []⟩) := Z3 rfl (Z7 rfl rfl)
theorem ZSc : stepT E C B 53 Zo Zp5 (φ, H) = stpT (some 20) φ H (just (aBin E.T .gtr 3 (fget φ 18) (fget φ 19))) := Z3 rfl (Z5 rfl rfl)
theorem ZSA : stepT E C B 53 Zo Z0j (φ, H) = some ((fput φ 21 (fget φ 20), H), ⟨false, [], []⟩) := Z3 rfl (Z7 rfl rfl)
theorem ZPG : stepT E C B 53 Zo Zod (φ, H) = gdT φ 21 true (fun φ => (some (fput φ 22 (.tup []), H)).map fun s => (s, ⟨false, [], []⟩)) (fun φ => some ((fput φ 22 (fget φ 3), H), ⟨false, [], []⟩)) := Zb (j := 3) (oj := Z0j) rfl rfl rfl (fun _ => rfl) (fun _ => Z7 rfl rfl)
theorem ZPx : stepT E C B 53 Zo ZlP (φ, H) = gdT φ 21 true (fun φ => (some (fput φ 23 (.tup []), H)).map fun s => (s, ⟨false, [], []⟩)) (fun φ => some ((fput φ 23 (fget φ 0), H), ⟨false, [], []⟩)) := Zb (j := 3) (oj := Z0j) rfl rfl rfl (fun _ => rfl) (fun _ => Z7 rfl rfl)
theorem ZVz : stepT E C B 53 Zo Zr3 (φ, H) = gdT φ 21 true (fun φ => (some (fput φ 24 (.tup []), H)).map fun s => (s, ⟨false, [], []⟩)) (fun φ => some ((fput φ 24 (fget φ 9), H), ⟨false, [], []⟩)) := Zb (j := 3) (oj := Z0j) rfl rfl rfl (fun _ => rfl) (fun _ => Z7 rfl rfl)
theorem ZNB : stepT E C B 53 Zo Zrn (φ, H) = gdT φ 21 true (fun φ => (some (fput φ 25 (.tup []), H)).map fun s => (s, ⟨false, [], []⟩)) (fun φ => stpT (some 25) φ H (just (Z2 E.T 22 (fget φ 23) (fget φ 24)))) := Zb (j := 3) (oj := Z0j) rfl rfl rfl (fun _ => rfl) (fun _ => Z5 rfl rfl)
theorem ZUa : stepT E C B 53 Zo Zl0 (φ, H) = gdT φ 21 true (fun φ => (some (fput φ 26 (.tup []), H)).map fun s => (s, ⟨false, [], []⟩)) (fun φ => stpT (some 26) φ H (just (aLoad E.T 3 (fget φ 25)))) := Zb (j := 3) (oj := Z0j) rfl rfl rfl (fun _ => rfl) (fun _ => Z5 rfl rfl)
theorem ZSu : stepT E C B 53 Zo Zqu (φ, H) = gdT φ 21 true (fun φ => (some (fput φ 27 (.tup []), H)).map fun s => (s, ⟨false, [], []⟩)) (fun φ => some ((fput φ 27 (fget φ 0), H), ⟨false, [], []⟩)) := Zb (j := 3) (oj := Z0j) rfl rfl rfl (fun _ => rfl) (fun _ => Z7 rfl rfl)
theorem ZIH : stepT E C B 53 Zo Zi0 (φ, H) = gdT φ 21 true (fun φ => (some (fput φ 28 (.tup []), H)).map fun s => (s, ⟨false, [], []⟩)) (fun φ => some ((fput φ 28 (fget φ 9), H), ⟨false, [], []⟩)) := Zb (j := 3) (oj := Z0j) rfl rfl rfl (fun _ => rfl) (fun _ => Z7 rfl rfl)
theorem ZIr : stepT E C B 53 Zo Ziq (φ, H) = gdT φ 21 true (fun φ => (some (fput φ 29 (.tup []), H)).map fun s => (s, ⟨false, [], []⟩)) (fun φ => stpT (some 29) φ H (just (aBin E.T .sub 3 (fget φ 28) (.int .i64 1)))) := Zb (j := 3) (oj := Z0j) rfl rfl rfl (fun _ => rfl) (fun _ => Z5 rfl rfl)
theorem ZH9 : stepT E C B 53 Zo ZfS (φ, H) = gdT φ 21 true (fun φ => (some (fput φ 30 (.tup []), H)).map fun s => (s, ⟨false, [], []⟩)) (fun φ => stpT (some 30) φ H (just (Z2 E.T 22 (fget φ 27) (fget φ 29)))) := Zb (j := 3) (oj := Z0j) rfl rfl rfl (fun _ => rfl) (fun _ => Z5 rfl rfl)
theorem ZLd : stepT E C B 53 Zo Zh5 (φ, H) = gdT φ 21 true (fun φ => (some (fput φ 31 (.tup []), H)).map fun s => (s, ⟨false, [], []⟩)) (fun φ => stpT (some 31) φ H (just (aLoad E.T 3 (fget φ 30)))) := Zb (j := 3) (oj := Z0j) rfl rfl rfl (fun _ => rfl) (fun _ => Z5 rfl rfl)
theorem ZLf : stepT E C B 53 Zo Zez (φ, H) = gdT φ 21 true (fun φ => (some (fput φ 32 (.tup []), H)).map fun s => (s, ⟨false, [], []⟩)) (fun φ => callVT E C (B + 53 * 8) (some 32) (fun j => B + j * 53 + 32) φ H (fget φ 22) [(fget φ 26), (fget φ 31)] true) := Zb (j := 3) (oj := Z0j) rfl rfl rfl (fun _ => rfl) (fun _ => ZWt rfl rfl)
theorem ZHv : stepT E C B 53 Zo ZeW (φ, H) = gdT φ 21 true (fun φ => (some (fput φ 33 (.tup []), H)).map fun s => (s, ⟨false, [], []⟩)) (fun φ => stpT (some 33) φ H (just (aBin E.T .lss 3 (fget φ 32) (.int .i64 0)))) := Zb (j := 3) (oj := Z0j) rfl rfl rfl (fun _ => rfl) (fun _ => Z5 rfl rfl)
theorem ZM7 : stepT E C B 53 Zo Zi9 (φ, H) = stpT (some 34) φ H (opPick (fget φ 21) (fget φ 33) (.bool false)) := Z3 rfl (Z5 rfl rfl)
def Z6p := kR Z7g
def Zxm := kT Z6p
theorem Z04n : execA E C (fg 133) B 53 E0 N Zxm s = some (.normal, s) := Zh (by rfl) s
def ZCF := kE Z6p
theorem Z00d : execA E C (fg 133) B 53 E0 N ZCF s = some (.exit 2, s) := ZI (by rfl) s
theorem Z03W : XC 133 53 Z6p 34 Zxm ZCF := Zf (by rfl) _
theorem ZX0 : XQ 133 53 Z7g ZdR Z6p := Z0 (by rfl) _
def Z6O := kR Z4Z
def Ze0 := kL Z6O
def Zdy := kB Ze0
def Zm := kO Zdy
def Zol := opN Zm 0
def Zml := opN Zm 1
def Zor := opN Zm 2
def Zuz := opN Zm 3
def Zl5 := opN Zm 4
def ZsV := opN Zm 5
def Zky := opN Zm 6
def Zuo := opN Zm 7
def Zqc := opN Zm 8
def Zqe := opN Zm 9
def Zi2 := opN Zm 10
def ZhF := opN Zm 11
def ZeR := opN Zm 12
def ZgE := opN Zm 13
def ZhQ := opN Zm 14
def Zf8 := opN Zm 15
def ZeP := opN Zm 16
def ZhX := opN Zm 17
theorem ZYE : XD 133 53 Zdy Zm [34, 37, 38, 39, 40, 41, 42, 43, 44, 45, 46, 47, 48, 49, 50, 51, 52] := Z0h (by rfl) (by rfl) _
theorem ZNt : Zm.toList = [Zol, Zml, Zor, Zuz, Zl5, ZsV, Zky, Zuo, Zqc, Zqe, Zi2, ZhF, ZeR, ZgE, ZhQ, Zf8, ZeP, ZhX] := nf
theorem ZLu : statOk Zm = true := by kernel_rfl
theorem ZMh : drawA E C B 53 Zm s = if neat 53 s = true then drX Zm (runT E C B 53 Zm Zm.toList 0 s) else none := Z00 ZLu s
theorem ZFG (l : List (Nat × Tr)) : dynOk Zm l = (!writing l || Za [[], [], [], [], [3], [], [], [6], [5, 6, 7], [5, 6, 7, 8], [], [], [10, 11], [10, 11, 12], [0, 1, 5, 6, 7, 8, 9, 10, 11, 12, 13], [0, 1, 5, 6, 7, 8, 9, 10, 11, 12, 13, 14], [0, 1, 2, 3, 4, 5, 6, 7, 8, 9, 10, 11, 12, 13, 14, 15], [0, 1, 2, 3, 4, 5, 6, 7, 8, 9, 10, 11, 12, 13, 14, 15, 16]] (Z9 l)) := ZQ (by kernel_rfl) l
theorem ZPo : stepT E C B 53 Zm Zol (φ, H) = some ((fput φ 37 (fget φ 0), H), ⟨false, [], []⟩) := Z3 rfl (Z7 rfl rfl)
theorem ZQl : stepT E C B 53 Zm Zml (φ, H) = some ((fput φ 38 (fget φ 9), H), ⟨false, [], []⟩) := Z3 rfl (Z7 rfl rfl)
theorem ZNg : stepT E C B 53 Zm Zor (φ, H) = some ((fput φ 39 (fget φ 0), H), ⟨false, [], []⟩) := Z3 rfl (Z7 rfl rfl)
theorem ZRb : stepT E C B 53 Zm Zuz (φ, H) = some ((fput φ 40 (fget φ 9), H), ⟨false, [], []⟩) := Z3 rfl (Z7 rfl rfl)
theorem ZVF : stepT E C B 53 Zm Zl5 (φ, H) = stpT (some 41) φ H (just (aBin E.T .sub 3 (fget φ 40) (.int .i64 1))) := Z3 rfl (Z5 rfl rfl)
theorem ZTd : stepT E C B 53 Zm ZsV (φ, H) = some ((fput φ 42 (fget φ 0), H), ⟨false, [], []⟩) := Z3 rfl (Z7 rfl rfl)
theorem ZRH : stepT E C B 53 Zm Zky (φ, H) = some ((fput φ 43 (fget φ 9), H), ⟨false, [], []⟩) := Z3 rfl (Z7 rfl rfl)
theorem ZPb : stepT E C B 53 Zm Zuo (φ, H) = stpT (some 44) φ H (just (aBin E.T .sub 3 (fget φ 43) (.int .i64 1))) := Z3 rfl (Z5 rfl rfl)
theorem ZUI : stepT E C B 53 Zm Zqc (φ, H) = stpT (some 45) φ H (just (Z2 E.T 22 (fget φ 42) (fget φ 44))) := Z3 rfl (Z5 rfl rfl)
theorem ZSW : stepT E C B 53 Zm Zqe (φ, H) = stpT (some 46) φ H (just (aLoad E.T 3 (fget φ 45))) := Z3 rfl (Z5 rfl rfl)
theorem ZIG : stepT E C B 53 Zm Zi2 (φ, H) = some ((fput φ 47 (fget φ 0), H), ⟨false, [], []⟩) := Z3 rfl (Z7 rfl rfl)
theorem ZMl : stepT E C B 53 Zm ZhF (φ, H) = some ((fput φ 48 (fget φ 9), H), ⟨false, [], []⟩) := Z3 rfl (Z7 rfl rfl)
theorem ZHQ : stepT E C B 53 Zm ZeR (φ, H) = stpT (some 49) φ H (just (Z2 E.T 22 (fget φ 47) (fget φ 48))) := Z3 rfl (Z5 rfl rfl)
theorem ZIw : stepT E C B 53 Zm ZgE (φ, H) = stpT (some 50) φ H (just (aLoad E.T 3 (fget φ 49))) := Z3 rfl (Z5 rfl rfl)
theorem ZJK : stepT E C B 53 Zm ZhQ (φ, H) = stpT (some 51) φ H (just (Z2 E.T 22 (fget φ 37) (fget φ 38))) := Z3 rfl (Z5 rfl rfl)
theorem ZIa : stepT E C B 53 Zm Zf8 (φ, H) = stpT none φ H (opStore E.T 3 (fget φ 51) (fget φ 46)) := Z3 rfl (Z5 rfl rfl)
theorem ZI0 : stepT E C B 53 Zm ZeP (φ, H) = stpT (some 52) φ H (just (Z2 E.T 22 (fget φ 39) (fget φ 41))) := Z3 rfl (Z5 rfl rfl)
theorem ZIn : stepT E C B 53 Zm ZhX (φ, H) = stpT none φ H (opStore E.T 3 (fget φ 52) (fget φ 50)) := Z3 rfl (Z5 rfl rfl)
theorem Z08K : execA E C (fg 133) B 53 E0 N Ze0 s = blockX 3 (fun s => (forget s.1 [], s.2)) (execA E C (fg 133) B 53 E0 N Zdy s) := Ze (by rfl) (by rfl) s
def Zed := kR Z6O
def Z3b := kO Zed
def Zop := opN Z3b 0
def Zm4 := opN Z3b 1
def ZnR := opN Z3b 2
theorem Z02a : XG 133 53 Zed Z3b [35, 36] := Z1 (by rfl) (by rfl) _
theorem ZNd : Z3b.toList = [Zop, Zm4, ZnR] := nf
theorem ZQG : stepA E C B 53 Z3b Zop (φ, H) = some (fput φ 35 (fget φ 9), H) := nf
theorem ZNH : stepA E C B 53 Z3b Zm4 (φ, H) = stp (some 36) φ H (just (aBin E.T .sub 3 (fget φ 35) (.int .i64 1))) := nf
theorem ZVG : stepA E C B 53 Z3b ZnR (φ, H) = some (fput φ 9 (fget φ 36), H) := nf
theorem Z03U : XQ 133 53 Z6O Ze0 Zed := Z0 (by rfl) _
theorem Z037 : XQ 133 53 Z4Z Z7g Z6O := Z0 (by rfl) _
theorem ZYK : execA E C (fg 133) B 53 E0 N Zeh s = iterA (execA E C (fg 133) B 53 E0 N Z4Z) (headA E0) N s := ZV (by rfl) s
theorem ZZi : execA E C (fg 133) B 53 E0 N Zej s = blockX 2 (fun s => (forget s.1 [9, 34], s.2)) (execA E C (fg 133) B 53 E0 N Zeh s) := Ze (by rfl) (by rfl) s
theorem ZXe : XQ 133 53 Z82 Ze5 Zej := Z0 (by rfl) _
theorem ZWG : execA E C (fg 133) B 53 E0 N Zdp s = blockX 1 (fun s => (forget s.1 [], s.2)) (execA E C (fg 133) B 53 E0 N Z82 s) := Ze (by rfl) (by rfl) s
def ZdW := kR Z6n
def Z3a := kO ZdW
def Zrm := opN Z3a 0
def Zth := opN Z3a 1
def Zmk := opN Z3a 2
theorem ZYV : XG 133 53 ZdW Z3a [15, 16] := Z1 (by rfl) (by rfl) _
theorem ZVj : Z3a.toList = [Zrm, Zth, Zmk] := nf
theorem ZQE : stepA E C B 53 Z3a Zrm (φ, H) = some (fput φ 15 (fget φ 8), H) := nf
theorem ZQw : stepA E C B 53 Z3a Zth (φ, H) = stp (some 16) φ H (just (aBin E.T .add 3 (fget φ 15) (.int .i64 1))) := nf
theorem ZTU : stepA E C B 53 Z3a Zmk (φ, H) = some (fput φ 8 (fget φ 16), H) := nf
theorem Z05F : XQ 133 53 Z6n Zdp ZdW := Z0 (by rfl) _
theorem Z0hR : XQ 133 53 Z5R Z9v Z6n := Z0 (by rfl) _
theorem Z0c5 : execA E C (fg 133) B 53 E0 N ZrK s = iterA (execA E C (fg 133) B 53 E0 N Z5R) (headA E0) N s := ZV (by rfl) s
theorem Z0cZ : execA E C (fg 133) B 53 E0 N ZkA s = blockX 0 (fun s => (forget s.1 [0, 1, 2, 3, 8, 14], s.2)) (execA E C (fg 133) B 53 E0 N ZrK s) := Ze (by rfl) (by rfl) s
theorem Z0hu : XQ 133 53 Z5J ZqK ZkA := Z0 (by rfl) _
theorem Z0at : fInfo E 133 = some ⟨53, #[], Z5J⟩ := nf
theorem Z0lf (args : List AV) : bodyA E C fg N 133 args H B = bodyX E [] (execA E C (fg 133) B 53 H N Z5J (Z8 args 0 [], H)) := Zt Z0at args H
abbrev Z6q := And.intro (And.intro (And.intro (And.intro (And.intro (And.intro @Z0df @ZSl) (And.intro @ZVs (And.intro @ZOg @ZRB))) (And.intro (And.intro @Z0gQ (And.intro @ZNZ @ZRi)) (And.intro @ZOn (And.intro @ZOc @Z0g6)))) (And.intro (And.intro (And.intro @Z0hF @Z0eY) (And.intro @Z0fj (And.intro @Z0ae @ZOr))) (And.intro (And.intro @ZUo (And.intro @ZNx @Z06D)) (And.intro @ZSN (And.intro @ZMk @ZJQ))))) (And.intro (And.intro (And.intro (And.intro @ZUJ @ZOh) (And.intro @ZSc (And.intro @ZSA @ZPG))) (And.intro (And.intro @ZPx (And.intro @ZVz @ZNB)) (And.intro @ZUa (And.intro @ZSu @ZIH)))) (And.intro (And.intro (And.intro @ZIr @ZH9) (And.intro @ZLd (And.intro @ZLf @ZHv))) (And.intro (And.intro @ZM7 (And.intro @Z04n @Z00d)) (And.intro @Z03W (And.intro @ZX0 @ZYE)))))) (And.intro (And.intro (And.intro (And.intro (And.intro @ZNt @ZMh) (And.intro @ZFG (And.intro @ZPo @ZQl))) (And.intro (And.intro @ZNg (And.intro @ZRb @ZVF)) (And.intro @ZTd (And.intro @ZRH @ZPb)))) (And.intro (And.intro (And.intro @ZUI @ZSW) (And.intro @ZIG (And.intro @ZMl @ZHQ))) (And.intro (And.intro @ZIw (And.intro @ZJK @ZIa)) (And.intro @ZI0 (And.intro @ZIn @Z08K))))) (And.intro (And.intro (And.intro (And.intro @Z02a @ZNd) (And.intro @ZQG (And.intro @ZNH @ZVG))) (And.intro (And.intro @Z03U (And.intro @Z037 @ZYK)) (And.intro @ZZi (And.intro @ZXe @ZWG)))) (And.intro (And.intro (And.intro @ZYV @ZVj) (And.intro @ZQE (And.intro @ZQw @ZTU))) (And.intro (And.intro @Z05F (And.intro @Z0hR @Z0c5)) (And.intro @Z0cZ (And.intro @Z0hu @Z0lf))))))
def ZcF := kBody Proofs.Try.f66
def ZEe := kL ZcF
def Zjc := kO ZEe
def ZCM := opN Zjc 0
theorem Z0mM : XG 66 8 ZEe Zjc [2] := Z1 (by rfl) (by rfl) _
theorem ZX8 : Zjc.toList = [ZCM] := nf
theorem Z04T : stepA E C B 8 Zjc ZCM (φ, H) = some (fput φ 2 (.nilsl), H) := nf
def ZiP := kR ZcF
def Zkj := kL ZiP
def ZFo := kL Zkj
def Z6c := kO ZFo
def Zw8 := opN Z6c 0
def Zxa := opN Z6c 1
theorem Z0kQ : XG 66 8 ZFo Z6c [3] := Z1 (by rfl) (by rfl) _
theorem ZWT : Z6c.toList = [Zw8, Zxa] := nf
theorem ZZ9 : stepA E C B 8 Z6c Zw8 (φ, H) = some (fput φ 3 (fget φ 0), H) := nf
theorem ZWR : stepA E C B 8 Z6c Zxa (φ, H) = stp (some 4) φ H (just (aBin E.T .eql 22 (fget φ 3) (.nilsl))) := nf
def ZiM := kR Zkj
def Zj2 := kT ZiM
def ZFl := kL Zj2
def Zkc := kO ZFl
def ZvT := opN Zkc 0
theorem Z0jW : XG 66 8 ZFl Zkc [0, 4] := Z1 (by rfl) (by rfl) _
theorem Z026 : Zkc.toList = [ZvT] := nf
theorem Z08m : stepA E C B 8 Zkc ZvT (φ, H) = some (fput φ 2 (.nilsl), H) := nf
def ZWD := kR Zj2
theorem Z0kI : execA E C (fg 66) B 8 E0 N ZWD s = some (.ret, s) := Zq (by rfl) s
theorem Z0kU : XQ 66 8 Zj2 ZFl ZWD := Z0 (by rfl) _
def ZWA := kE ZiM
theorem Z0mJ : execA E C (fg 66) B 8 E0 N ZWA s = some (.normal, s) := Zh (by rfl) s
theorem Z0j0 : XC 66 8 ZiM 4 Zj2 ZWA := Zf (by rfl) _
theorem Z0lw : XQ 66 8 Zkj ZFo ZiM := Z0 (by rfl) _
def Z9G := kR ZiP
def Zoa := kL Z9G
def Z2C := kO Zoa
def ZyS := opN Z2C 0
def ZyQ := opN Z2C 1
def Zxs := opN Z2C 2
def ZBf := opN Z2C 3
theorem Z0cS : XG 66 8 Zoa Z2C [0, 4, 5, 6, 7] := Z1 (by rfl) (by rfl) _
theorem Z05D : Z2C.toList = [ZyS, ZyQ, Zxs, ZBf] := nf
theorem Z056 : stepA E C B 8 Z2C ZyS (φ, H) = stp (some 5) φ H (Zi E.T (B + 5) 22 0 (evO E φ) []) := nf
theorem ZZY : stepA E C B 8 Z2C ZyQ (φ, H) = some (fput φ 6 (fget φ 0), H) := nf
theorem ZXm : stepA E C B 8 Z2C Zxs (φ, H) = stp (some 7) φ H (Z4 E.T (B + 7) .append #[22, 22] [(fget φ 5), (fget φ 6)]) := nf
theorem ZZT : stepA E C B 8 Z2C ZBf (φ, H) = some (fput φ 2 (fget φ 7), H) := nf
def ZLq := kR Z9G
theorem Z0cq : execA E C (fg 66) B 8 E0 N ZLq s = some (.ret, s) := Zq (by rfl) s
theorem Z0bM : XQ 66 8 Z9G Zoa ZLq := Z0 (by rfl) _
theorem Z0k3 : XQ 66 8 ZiP Zkj Z9G := Z0 (by rfl) _
theorem Z0nd : XQ 66 8 ZcF ZEe ZiP := Z0 (by rfl) _
theorem Z0l5 : fInfo E 66 = some ⟨8, #[.tmp 2], ZcF⟩ := nf
theorem b_66 (args : List AV) : bodyA E C fg N 66 args H B = bodyX E [.tmp 2] (execA E C (fg 66) B 8 H N ZcF (Z8 args 0 [], H)) := Zt Z0l5 args H
abbrev F_66 := And.intro (And.intro (And.intro (And.intro @Z0mM (And.intro @ZX8 @Z04T)) (And.intro @Z0kQ (And.intro @ZWT @ZZ9))) (And.intro (And.intro @ZWR (And.intro @Z0jW @Z026)) (And.intro (And.intro @Z08m @Z0kI) (And.intro @Z0kU @Z0mJ)))) (And.intro (And.intro (And.intro @Z0j0 (And.intro @Z0lw @Z0cS)) (And.intro @Z05D (And.intro @Z056 @ZZY))) (And.intro (And.intro @ZXm (And.intro @ZZT @Z0cq)) (And.intro (And.intro @Z0bM @Z0k3) (And.intro @Z0nd @b_66))))
def ZcI := kBody Proofs.Try.f73
def ZEs := kL ZcI
def Zj6 := kO ZEs
def Zz4 := opN Zj6 0
theorem Z0jM : XG 73 9 ZEs Zj6 [4] := Z1 (by rfl) (by rfl) _
theorem Z06K : Zj6.toList = [Zz4] := nf
theorem Z02S : stepA E C B 9 Zj6 Zz4 (φ, H) = some (fput φ 4 (.bool false), H) := nf
def Zjt := kR ZcI
def ZFx := kL Zjt
def Z1X := kO ZFx
def Zv6 := opN Z1X 0
def ZD3 := opN Z1X 1
def ZzB := opN Z1X 2
def ZxJ := opN Z1X 3
def ZvO := opN Z1X 4
theorem Z0kZ : XG 73 9 ZFx Z1X [0, 1, 5, 6, 7, 8] := Z1 (by rfl) (by rfl) _
theorem ZXK : Z1X.toList = [Zv6, ZD3, ZzB, ZxJ, ZvO] := nf
theorem Z01F : stepA E C B 9 Z1X Zv6 (φ, H) = some (fput φ 5 (fget φ 0), H) := nf
theorem ZYp : stepA E C B 9 Z1X ZD3 (φ, H) = some (fput φ 6 (fget φ 1), H) := nf
theorem Z06j : stepA E C B 9 Z1X ZzB (φ, H) = stp (some 7) φ H (aCall C (fun j => B + j * 9 + 7) true 64 [(fget φ 5), (fget φ 6)]) := nf
theorem Z05Z : stepA E C B 9 Z1X ZxJ (φ, H) = stp (some 8) φ H (just (aBin E.T .geq 3 (fget φ 7) (.int .i64 0))) := nf
theorem Z023 : stepA E C B 9 Z1X ZvO (φ, H) = some (fput φ 4 (fget φ 8), H) := nf
def ZWv := kR Zjt
theorem Z0n7 : execA E C (fg 73) B 9 E0 N ZWv s = some (.ret, s) := Zq (by rfl) s
theorem Z0mo : XQ 73 9 Zjt ZFx ZWv := Z0 (by rfl) _
theorem Z0jR : XQ 73 9 ZcI ZEs Zjt := Z0 (by rfl) _
theorem Z0kn : fInfo E 73 = some ⟨9, #[.tmp 4], ZcI⟩ := nf
theorem b_73 (args : List AV) : bodyA E C fg N 73 args H B = bodyX E [.tmp 4] (execA E C (fg 73) B 9 H N ZcI (Z8 args 0 [], H)) := Zt Z0kn args H
abbrev F_73 := And.intro (And.intro (And.intro @Z0jM (And.intro @Z06K @Z02S)) (And.intro (And.intro @Z0kZ @ZXK) (And.intro @Z01F @ZYp))) (And.intro (And.intro @Z06j (And.intro @Z05Z @Z023)) (And.intro (And.intro @Z0n7 @Z0mo) (And.intro @Z0jR @b_73)))
def Zb2 := kBody Proofs.Try.f64
def ZEL := kL Zb2
def ZjG := kO ZEL
def Zvf := opN ZjG 0
theorem Z0ju : XG 64 19 ZEL ZjG [4] := Z1 (by rfl) (by rfl) _
theorem Z079 : ZjG.toList = [Zvf] := nf
theorem Z0am : stepA E C B 19 ZjG Zvf (φ, H) = some (fput φ 4 (.int .i64 0), H) := nf
def Zji := kR Zb2
def ZiT := kL Zji
def ZEJ := kL ZiT
def Z4i := kO ZEJ
def Zvi := opN Z4i 0
def ZyA := opN Z4i 1
def Zx3 := opN Z4i 2
theorem Z0je : XG 64 19 ZEJ Z4i [6] := Z1 (by rfl) (by rfl) _
theorem Z099 : Z4i.toList = [Zvi, ZyA, Zx3] := nf
theorem ZY7 : stepA E C B 19 Z4i Zvi (φ, H) = some (fput φ 6 (fget φ 0), H) := nf
theorem ZYh : stepA E C B 19 Z4i ZyA (φ, H) = stp (some 7) φ H (Z4 E.T (B + 7) .len #[39] [(fget φ 6)]) := nf
theorem ZWU : stepA E C B 19 Z4i Zx3 (φ, H) = some (fput φ 8 (.int .i64 0), H) := nf
def ZDB := kR ZiT
def ZFA := kB ZDB
def Z4s := kB ZFA
def ZF5 := kL Z4s
def Zjz := kO ZF5
def ZxM := opN Zjz 0
theorem Z0jA : XG 64 19 ZF5 Zjz [] := Z1 (by rfl) (by rfl) _
theorem ZZc : Zjz.toList = [ZxM] := nf
theorem Z08h : stepA E C B 19 Zjz ZxM (φ, H) = stp (some 9) φ H (just (aBin E.T .lss 3 (fget φ 8) (fget φ 7))) := nf
def ZjE := kR Z4s
def Z9l := kL ZjE
def ZKK := kT Z9l
theorem Z0eH : execA E C (fg 64) B 19 E0 N ZKK s = some (.normal, s) := Zh (by rfl) s
def ZMa := kE Z9l
theorem Z0fm : execA E C (fg 64) B 19 E0 N ZMa s = some (.exit 0, s) := ZI (by rfl) s
theorem Z0gn : XC 64 19 Z9l 9 ZKK ZMa := Zf (by rfl) _
def ZaX := kR ZjE
def ZmG := kL ZaX
def Z9E := kB ZmG
def ZmD := kL Z9E
def Z6R := kO ZmD
def ZBd := opN Z6R 0
def Zv5 := opN Z6R 1
theorem Z0bp : XG 64 19 ZmD Z6R [9, 10] := Z1 (by rfl) (by rfl) _
theorem Z07m : Z6R.toList = [ZBd, Zv5] := nf
theorem Z01M : stepA E C B 19 Z6R ZBd (φ, H) = some (fput φ 10 (fget φ 8), H) := nf
theorem Z01I : stepA E C B 19 Z6R Zv5 (φ, H) = some (fput φ 5 (fget φ 10), H) := nf
def ZcD := kR Z9E
def Zqd := kL ZcD
def Z1q := kO Zqd
def ZvW := opN Z1q 0
def Zwh := opN Z1q 1
def ZzI := opN Z1q 2
def Zvc := opN Z1q 3
def ZA0 := opN Z1q 4
def ZBb := opN Z1q 5
theorem Z0aC : XG 64 19 Zqd Z1q [11, 12, 13, 14, 15] := Z1 (by rfl) (by rfl) _
theorem Z041 : Z1q.toList = [ZvW, Zwh, ZzI, Zvc, ZA0, ZBb] := nf
theorem Z08X : stepA E C B 19 Z1q ZvW (φ, H) = some (fput φ 11 (fget φ 1), H) := nf
theorem Z03s : stepA E C B 19 Z1q Zwh (φ, H) = some (fput φ 12 (fget φ 0), H) := nf
theorem Z07t : stepA E C B 19 Z1q ZzI (φ, H) = some (fput φ 13 (fget φ 5), H) := nf
theorem Z06W : stepA E C B 19 Z1q Zvc (φ, H) = stp (some 14) φ H (just (Z2 E.T 39 (fget φ 12) (fget φ 13))) := nf
theorem ZX4 : stepA E C B 19 Z1q ZA0 (φ, H) = stp (some 15) φ H (just (aLoad E.T 22 (fget φ 14))) := nf
theorem ZXF : stepA E C B 19 Z1q ZBb (φ, H) = callV E C (B + 19 * 8) (some 16) (fun j => B + j * 19 + 16) φ H (fget φ 11) [(fget φ 15)] true := nf
def Z92 := kR ZcD
def ZcX := kT Z92
def Zpx := kL ZcX
def Z7x := kO Zpx
def Zxx := opN Z7x 0
def ZvU := opN Z7x 1
theorem Z0fd : XG 64 19 Zpx Z7x [0, 1, 5, 7, 8, 16, 17] := Z1 (by rfl) (by rfl) _
theorem ZWO : Z7x.toList = [Zxx, ZvU] := nf
theorem Z06n : stepA E C B 19 Z7x Zxx (φ, H) = some (fput φ 17 (fget φ 5), H) := nf
theorem Z016 : stepA E C B 19 Z7x ZvU (φ, H) = some (fput φ 4 (fget φ 17), H) := nf
def ZKS := kR ZcX
theorem Z0i1 : execA E C (fg 64) B 19 E0 N ZKS s = some (.ret, s) := Zq (by rfl) s
theorem Z0ez : XQ 64 19 ZcX Zpx ZKS := Z0 (by rfl) _
def ZKM := kE Z92
theorem Z0fQ : execA E C (fg 64) B 19 E0 N ZKM s = some (.normal, s) := Zh (by rfl) s
theorem Z0bj : XC 64 19 Z92 16 ZcX ZKM := Zf (by rfl) _
theorem Z0dQ : XQ 64 19 ZcD Zqd Z92 := Z0 (by rfl) _
theorem Z0bC : XQ 64 19 Z9E ZmD ZcD := Z0 (by rfl) _
theorem Z0dT : execA E C (fg 64) B 19 E0 N ZmG s = blockX 1 (fun s => (forget s.1 [5, 16], s.2)) (execA E C (fg 64) B 19 E0 N Z9E s) := Ze (by rfl) (by rfl) s
def Zsh := kR ZaX
def Z7z := kO Zsh
def Zxg := opN Z7z 0
def Zyn := opN Z7z 1
theorem Z0gm : XG 64 19 Zsh Z7z [18] := Z1 (by rfl) (by rfl) _
theorem Z08v : Z7z.toList = [Zxg, Zyn] := nf
theorem ZZn : stepA E C B 19 Z7z Zxg (φ, H) = stp (some 18) φ H (just (aBin E.T .add 3 (fget φ 8) (.int .i64 1))) := nf
theorem Z07J : stepA E C B 19 Z7z Zyn (φ, H) = some (fput φ 8 (fget φ 18), H) := nf
theorem Z0f9 : XQ 64 19 ZaX ZmG Zsh := Z0 (by rfl) _
theorem Z0n1 : XQ 64 19 ZjE Z9l ZaX := Z0 (by rfl) _
theorem Z0kl : XQ 64 19 Z4s ZF5 ZjE := Z0 (by rfl) _
theorem Z0ks : execA E C (fg 64) B 19 E0 N ZFA s = iterA (execA E C (fg 64) B 19 E0 N Z4s) (headA E0) N s := ZV (by rfl) s
theorem Z0lO : execA E C (fg 64) B 19 E0 N ZDB s = blockX 0 (fun s => (forget s.1 [0, 1, 7, 8, 9], s.2)) (execA E C (fg 64) B 19 E0 N ZFA s) := Ze (by rfl) (by rfl) s
theorem Z0k0 : XQ 64 19 ZiT ZEJ ZDB := Z0 (by rfl) _
def Z9u := kR Zji
def Zn6 := kL Z9u
def ZjO := kO Zn6
def ZuU := opN ZjO 0
theorem Z0ck : XG 64 19 Zn6 ZjO [] := Z1 (by rfl) (by rfl) _
theorem Z04U : ZjO.toList = [ZuU] := nf
theorem Z03B : stepA E C B 19 ZjO ZuU (φ, H) = some (fput φ 4 (.int .i64 (-1)), H) := nf
def ZGc := kR Z9u
theorem Z0b6 : execA E C (fg 64) B 19 E0 N ZGc s = some (.ret, s) := Zq (by rfl) s
theorem Z0eo : XQ 64 19 Z9u Zn6 ZGc := Z0 (by rfl) _
theorem Z0jX : XQ 64 19 Zji ZiT Z9u := Z0 (by rfl) _
theorem Z0l2 : XQ 64 19 Zb2 ZEL Zji := Z0 (by rfl) _
theorem Z0kO : fInfo E 64 = some ⟨19, #[.tmp 4], Zb2⟩ := nf
theorem b_64 (args : List AV) : bodyA E C fg N 64 args H B = bodyX E [.tmp 4] (execA E C (fg 64) B 19 H N Zb2 (Z8 args 0 [], H)) := Zt Z0kO args H
abbrev F_64 := And.intro (And.intro (And.intro (And.intro (And.intro @Z0ju (And.intro @Z079 @Z0am)) (And.intro @Z0je (And.intro @Z099 @ZY7))) (And.intro (And.intro @ZYh (And.intro @ZWU @Z0jA)) (And.intro (And.intro @ZZc @Z08h) (And.intro @Z0eH @Z0fm)))) (And.intro (And.intro (And.intro @Z0gn (And.intro @Z0bp @Z07m)) (And.intro (And.intro @Z01M @Z01I) (And.intro @Z0aC @Z041))) (And.intro (And.intro @Z08X (And.intro @Z03s @Z07t)) (And.intro (And.intro @Z06W @ZX4) (And.intro @ZXF @Z0fd))))) (And.intro (And.intro (And.intro (And.intro @ZWO (And.intro @Z06n @Z016)) (And.intro (And.intro @Z0i1 @Z0ez) (And.intro @Z0fQ @Z0bj))) (And.intro (And.intro @Z0dQ (And.intro @Z0bC @Z0dT)) (And.intro (And.intro @Z0gm @Z08v) (And.intro @ZZn @Z07J)))) (And.intro (And.intro (And.intro @Z0f9 (And.intro @Z0n1 @Z0kl)) (And.intro (And.intro @Z0ks @Z0lO) (And.intro @Z0k0 @Z0ck))) (And.intro (And.intro @Z04U (And.intro @Z03B @Z0b6)) (And.intro (And.intro @Z0eo @Z0jX) (And.intro @Z0l2 @b_64)))))
end Go.AM.Ytfmnoohhhokicaa
end
noncomputable section
namespace Go.AM.Ytfmnoohhhokicaa
open Go Go.AM Go.AM.Rub
theorem ZYA {C : Callee} {a b : Int} (h : -1000000 ≤ b - a ∧ b - a ≤ 1000000) : rsOf (bodyA E C fg 1000000 109 [.int .i64 a, .int .i64 b] [] 0) = some (.int .i64 (b - a)) := by
 have w1 : wrp .i64 (b - a) = b - a := Zv (by omega)
 simp (disch := omega) only [ZF, Z8, stp, just, Rd.bind, Rd.run, Rd.opt, upds, resA, resL, aBin, aInt, Nat.reduceBEq, Nat.reduceEqDiff, Nat.reduceLeDiff, ↓reduceIte, reduceCtorEq, Z0nj, w1]
theorem ZPI {d : Nat} {site : Nat → Nat} {seen : List Nat} {a b : Int} (h : -1000000 ≤ b - a ∧ b - a ≤ 1000000) : aBack site true seen (thaw (kF (d + 1)) 109 [.int .i64 a, .int .i64 b] [] 0) = .pure (.int .i64 (b - a), []) :=
 Z0W (Z1u rfl (ZYA h))
theorem ZtB (caps args : List AV) : mutV E (.clo 109 caps) args = none := rfl
abbrev stH (l : List Int) : AHeap := [(0, ⟨.row, ics l⟩)]
theorem Z3o {l l0 : List Int} {φ : AFr} : headA (stH l0) (φ, stH l) = (φ, stH l) := Zck (by simp [stH, Z2o])
def BdI (l : List Int) : Prop := ∀ k, k < l.length → -100000 ≤ rowF l k ∧ rowF l k ≤ 100000
theorem Zu0 {l : List Int} {a k : Nat} {x : Int} (hk : k < l.length) : rowF (l.set a x) k = if a = k then x else rowF l k := by
 simp only [rowF, List.getD_eq_getElem?_getD, List.getElem?_set]
 split
 · rename_i h; subst h; rw [if_pos hk]; rfl
 · rfl
theorem ZHs {l : List Int} (h : BdI l) {j : Nat} (hj : j + 1 < l.length) : BdI (swpI l j) := by
 intro k hk
 rw [Z2z] at hk
 have a := h j (by omega)
 have b := h (j + 1) hj
 have c := h k hk
 have e : rowF (swpI l j) k = if j = k then rowF l (j + 1) else if j + 1 = k then rowF l j else rowF l k := by
   unfold swpI
   rw [Zu0 (by rw [List.length_set]; exact hk), Zu0 hk]; rfl
 rw [e]
 split
 · exact b
 · split
   · exact a
   · exact c
abbrev inS (n i j : Nat) (l : List Int) : St := ([(9, .int .i64 j), (8, .int .i64 i), (3, .clo 109 []), (2, .int .i64 n), (1, .int .i64 0), (0, .ref 0 0 n n n 1 false)], stH l)
theorem ZlI {d B : Nat} {l0 : List Int} {i n : Nat} (h9 : n ≤ 12) : ∀ (j F : Nat) (l : List Int), l.length = n → j < n → BdI l → j < F →
   ∃ j', iterA (execA E (kF (d + 1)) (fg 133) B 53 (stH l0) 1000000 Z4Z) (headA (stH l0)) F (inS n i j l) = some (.exit 2, ([(34, .bool false), (9, .int .i64 j'), (8, .int .i64 i), (3, .clo 109 []), (2, .int .i64 n), (1, .int .i64 0), (0, .ref 0 0 n n n 1 false)], stH (insI l j)))
 | j, 0, _, _, _, _, hF => by omega
 | 0, F + 1, l, hl, _, _, _ => by
   refine ⟨(0 : Nat), ?_⟩
   rw [ZP, Z3o]
   generalize kF (d + 1) = C
   simp (disch := omega) only [ZF, opPick, just, Rd.bind, Rd.run, Rd.opt, upds, aBin, aInt, Nat.reduceAdd, Nat.reduceBEq, Nat.reduceEqDiff, Nat.reduceLeDiff, ↓reduceIte, stpT, ↓gdT, Rd.foot, writing, Z9, Tr.empty, Za, Z6q, insI, cl0]
 | j + 1, F + 1, l, hl, hj, hb, hF => by
   have hlen : (ics l).length = n := by rw [Z6, hl]
   have a1 := Zu (l := l) (k := j) (by omega)
   have a2 := Zu (l := l) (k := j + 1) (by omega)
   have b1 := hb j (by omega)
   have b2 := hb (j + 1) (by omega)
   have g1 : ((j + 1 : Nat) : Int) > 0 := by omega
   have g2 : ((j + 1 : Nat) : Int) < n := by omega
   have g3 : (j : Int) < n := by omega
   have w : wrp .i64 (((j + 1 : Nat) : Int) - 1) = (j : Int) := by rw [Zv (by omega)]; omega
   have cc := fun (site : Nat → Nat) seen => ZPI (d := d) (site := site) (seen := seen) (a := rowF l (j + 1)) (b := rowF l j) (by omega)
   simp only [insI]
   by_cases hc : l.getD (j + 1) 0 > l.getD j 0
   · rw [if_pos hc]
     obtain ⟨j', hih⟩ := ZlI (d := d) (B := B) (l0 := l0) (i := i) h9 j F (swpI l j) (by rw [Z2z]; exact hl) (by omega) (ZHs hb (by omega)) (by omega)
     refine ⟨j', ?_⟩
     rw [← hih, ZP, Z3o]
     simp only [inS, stH]
     have hneg : rowF l j - rowF l (j + 1) < 0 := by unfold rowF; omega
     have e1 := Z15 l (j + 1) (rowF l j)
     have e2 := Z15 (l.set (j + 1) (rowF l j)) j (rowF l (j + 1))
     have e3 : (l.set (j + 1) (rowF l j)).set j (rowF l (j + 1)) = swpI l j := rfl
     rw [e3] at e2
     have l1 : (ics (l.set (j + 1) (rowF l j))).length = n := by rw [Z6, List.length_set, hl]
     generalize ics (swpI l j) = R at *
     generalize ics (l.set (j + 1) (rowF l j)) = M at *
     generalize kF (d + 1) = C at *
     simp (disch := omega) only [ZF, stp, opPick, just, Rd.bind, Rd.run, Rd.opt, upds, acells, tsz, rdCells, aLoad, aStore, opStore, Z2, aNum, aBin, aInt, putC, Nat.reduceAdd, Nat.reduceMul, Nat.reduceLT, Nat.reduceBEq, Nat.reduceEqDiff, Nat.reduceLeDiff, ↓reduceIte, reduceCtorEq, stpT, ↓gdT, Rd.foot, writing, Z9, Tr.empty, Za, apartT, disj, aCall, snaps, opCallV, ZT, Z6q, ZfU (ZtB _ _), ZsH, hlen, l1, a1, a2, g1, g2, g3, w, cc, hneg, e1, e2, if_pos]
   · rw [if_neg hc]
     refine ⟨((j + 1 : Nat)), ?_⟩
     have hneg : ¬ rowF l j - rowF l (j + 1) < 0 := by unfold rowF; omega
     rw [ZP, Z3o]
     generalize kF (d + 1) = C at *
     simp (disch := omega) only [ZF, opPick, just, Rd.bind, Rd.run, Rd.opt, upds, tsz, rdCells, aLoad, Z2, aNum, aBin, aInt, Nat.reduceAdd, Nat.reduceMul, Nat.reduceLT, Nat.reduceBEq, Nat.reduceEqDiff, Nat.reduceLeDiff, ↓reduceIte, reduceCtorEq, stpT, ↓gdT, Rd.foot, writing, Z9, Tr.empty, Za, apartT, disj, aCall, snaps, opCallV, ZT, Z6q, ZfU (ZtB _ _), ZsH, hlen, a1, a2, g1, g2, g3, w, cc, hneg]
theorem ZKo {l : List Int} (_ : BdI l) : ∀ (j : Nat) (l : List Int), j < l.length → BdI l → BdI (insI l j)
 | 0, l, _, h => h
 | j + 1, l, hj, h => by
   simp only [insI]
   split
   · exact ZKo h j (swpI l j) (by rw [Z2z]; omega) (ZHs h hj)
   · exact h
theorem ZMt {l : List Int} (h : BdI l) : ∀ i, i < l.length → BdI (srtN l i)
 | 0, _ => h
 | i + 1, hi => ZKo h (i + 1) _ (by rw [Z2O]; exact hi) (ZMt h i (by omega))
abbrev ouS (n i : Nat) (l : List Int) : St := ([(8, .int .i64 i), (3, .clo 109 []), (2, .int .i64 n), (1, .int .i64 0), (0, .ref 0 0 n n n 1 false)], stH l)
theorem ZXU {d B : Nat} {l : List Int} {n : Nat} (hl : l.length = n) (h0 : 0 < n) (h9 : n ≤ 12) (hb : BdI l) :
   kF (d + 2) 133 [.ref 0 0 n n n 1 false, .int .i64 0, .int .i64 n, .clo 109 []] (stH l) B = some (.tup [], stH (srtI l)) := by
 rw [Z11 rfl]
 have hloop := loopM (f := execA E (kF (d + 1)) (fg 133) B 53 (stH l) 1000000 Z5R) (E0 := stH l) (fun k => ouS n (k + 1) (srtN l k)) (n - 1) (fun k hk => by
     obtain ⟨j', hin⟩ := ZlI (d := d) (B := B) (l0 := l) (i := k + 1) h9 (k + 1) 1000000 (srtN l k) (by rw [Z2O, hl]) (by omega) (ZMt hb k (by omega)) (by omega)
     have g1 : ((k + 1 : Nat) : Int) < n := by omega
     simp only [inS] at hin
     have e : srtN l (k + 1) = insI (srtN l k) (k + 1) := rfl
     simp only [ouS, e]
     generalize kF (d + 1) = C at *
     simp (disch := omega) only [ZF, stp, just, Rd.bind, Rd.run, Rd.opt, upds, aBin, aInt, Nat.reduceBEq, Nat.reduceEqDiff, Nat.reduceLeDiff, ↓reduceIte, Z6q, g1, hin, Zl (show k + 1 < 1000000 by omega)]
     exact ⟨_, rfl, Z3o⟩) Z3o (by omega)
   (e := .exit 0) (se := ([(14, .bool false), (8, .int .i64 n), (3, .clo 109 []), (2, .int .i64 n), (1, .int .i64 0), (0, .ref 0 0 n n n 1 false)], stH (srtI l)))
   (by
     have e : srtN l (n - 1) = srtI l := by rw [← hl]; rfl
     simp only [ouS, e, show n - 1 + 1 = n by omega]
     generalize kF (d + 1) = C at *
     simp (disch := omega) only [ZF, stp, just, Rd.bind, Rd.run, Rd.opt, upds, aBin, aInt, Nat.reduceBEq, Nat.reduceEqDiff, Nat.reduceLeDiff, ↓reduceIte, Z6q]) (by simp)
 have z1 : ((0 + 1 : Nat) : Int) = 1 := rfl
 have e0 : srtN l 0 = l := rfl
 simp only [ouS, z1, e0] at hloop
 have w : wrp .i64 (0 + 1) = 1 := by decide
 generalize kF (d + 1) = C at *
 simp (disch := omega) only [ZF, Z8, stp, just, Rd.bind, Rd.run, Rd.opt, upds, resA, resL, aBin, aInt, Nat.reduceAdd, Nat.reduceBEq, Nat.reduceEqDiff, Nat.reduceLeDiff, ↓reduceIte, Z6q, w, hloop]
theorem Z04r {d B : Nat} {l : List Int} {n : Nat} {m : Int} (hl : l.length = n) (h0 : 0 < n) (h9 : n ≤ 12) (hb : BdI l) :
   kF (d + 3) 121 [.ref 0 0 n n n 1 false, .int .i64 0, .int .i64 n, .int .i64 m, .clo 109 []] (stH l) B = some (.tup [], stH (srtI l)) := by
 rw [Z11 rfl]
 have hi := fun B => ZXU (d := d) (B := B) hl h0 h9 hb
 have w1 : wrp .i64 ((n : Int) - 0) = n := Zv (by omega)
 have g : (n : Int) ≤ 12 := by omega
 simp only [stH] at hi
 generalize kF (d + 2) = C at *
 have hh := Z3o (l := l) (l0 := l) (φ := [(11, .bool true), (10, .bool true), (4, .clo 109 []), (3, .int .i64 m), (2, .int .i64 n), (1, .int .i64 0), (0, .ref 0 0 n n n 1 false)])
 simp only [stH] at hh
 simp (disch := omega) only [ZF, Z8, stp, just, Rd.bind, Rd.run, Rd.opt, upds, resA, resL, aBin, aInt, Nat.reduceAdd, Nat.reduceMul, Nat.reduceBEq, Nat.reduceEqDiff, Nat.reduceLeDiff, ↓reduceIte, reduceCtorEq, mutX, Z0jL, ZP, hh, hi, w1, g]
theorem ZpR (d : Nat) : ([1, 2, 3, 4, 5, 6].all fun n => match kF (d + 4) 111 [.int .u64 n] [] 0 with | some (.int .i64 _, _) => true | _ => false) = true := by kernel_rfl
theorem ZRh (d : Nat) {n : Nat} (h0 : 0 < n) (h6 : n ≤ 6) : ∃ m, ∀ (site : Nat → Nat) seen, aBack site true seen (thaw (kF (d + 4)) 111 [.int .u64 (n : Int)] [] 0) = .pure (.int .i64 m, []) := by
 have := List.all_eq_true.1 (ZpR d) (n : Int) (by
   have : n = 1 ∨ n = 2 ∨ n = 3 ∨ n = 4 ∨ n = 5 ∨ n = 6 := by omega
   rcases this with rfl | rfl | rfl | rfl | rfl | rfl <;> simp)
 split at this
 · rename_i m H h
   exact ⟨m, fun site seen => Z0W ⟨H, h⟩⟩
 · exact absurd this (by simp)
theorem ZRk {d B : Nat} {l : List Int} {n : Nat} (hl : l.length = n) (h0 : 0 < n) (h6 : n ≤ 6) (hb : BdI l) :
   kF (d + 5) 108 [.ref 0 0 n n n 1 false, .clo 109 []] (stH l) B = some (.tup [], stH (srtI l)) := by
 rw [Z11 rfl]
 obtain ⟨m, hL⟩ := ZRh d h0 h6
 have hi := fun B => Z04r (d := d + 1) (B := B) (m := m) hl h0 (by omega) hb
 have w1 : wrp .u64 (n : Int) = n := ZKg (by simp only [kLo]; omega) (by simp only [kHi]; omega)
 have hlen : (ics l).length = n := by rw [Z6, hl]
 simp only [stH] at hi
 generalize kF (d + 4) = C at *
 simp (disch := omega) only [ZF, Z8, stp, justO, just, Rd.bind, Rd.run, upds, resA, resL, aLen, Z4, Nat.reduceMul, Nat.reduceBEq, Nat.reduceEqDiff, Nat.reduceLeDiff, ↓reduceIte, reduceCtorEq, mutX, aCall, snaps, aConv, ZT, Z0kh, w1, hL, hi, hlen]
theorem ZEW {d : Nat} {l : List Int} {n : Nat} (hl : l.length = n) (h0 : 0 < n) (h6 : n ≤ 6) (hb : BdI l) :
   pF (d + 6) 67 [.ref 0 0 n n n 1 false] (stH l) 64 = some (.tup [], stH (srtI l)) := by
 rw [pF_s]
 have hi := fun B => ZRk (d := d) (B := B) hl h0 h6 hb
 simp only [stH] at hi
 generalize kF (d + 5) = C at *
 simp (disch := omega) only [ZF, Z8, resA, resL, Nat.reduceAdd, Nat.reduceMul, Nat.reduceBEq, Nat.reduceEqDiff, Nat.reduceLeDiff, ↓reduceIte, reduceCtorEq, mutX, F_67, hi]
theorem Z4C {d B k : Nat} {l : List Int} {n : Nat} {H : AHeap} (hl : l.length = n) (h0 : 0 < n) (h6 : n ≤ 6) (hb : BdI l) (hH : hget H k = some ⟨.row, ics l⟩) :
   kF (d + 6) 67 [.ref k 0 n n n 1 false] H B = some (.tup [], hset H k ⟨.row, ics (srtI l)⟩) := by
 rw [Z0n9 rfl]
 have hr := ZEW (d := d) hl h0 h6 hb
 have hm : (mark H 1000 (refsL [.ref k 0 n n n 1 false]) []).reverse = [k] := by
   simp only [refsL, refsOf, List.append_nil, mark, hH, List.contains_nil, Bool.false_eq_true, if_false, List.reverse_cons, List.reverse_nil, List.nil_append]
 have hlen : (ics l).length = n := by rw [Z6, hl]
 have hlen2 : (ics (srtI l)).length = n := by rw [Z6]; show (srtN l _).length = n; rw [Z2O, hl]
 rw [hm]
 simp only [stH] at hr
 have h2 : newsF [(0, ⟨.row, ics (srtI l)⟩)] (.tup []) 1 = [] := rfl
 simp only [focus, AM.apart, List.elem_nil, Bool.not_false, Bool.and_self, if_true, renL, ren, posF, foc, hH, renB, hr, backF, List.length_cons, List.length_nil, Nat.zero_add, h2, baseF, freeL, outF, Nat.lt_one_iff, List.getElem?_cons_zero, List.range_one, List.append_nil, unf, Z4J, goodB, BS.open_]
 rfl
end Go.AM.Ytfmnoohhhokicaa
end
noncomputable section
namespace Go.AM
theorem ZJC : ∀ {H : AHeap} {k : Nat} {b : Blk}, (k, b) ∈ H → (hget H k).isSome = true
 | (j, c) :: t, k, b, h => by
   rw [Z4J]
   cases hj : Nat.beq j k with
   | true => rfl
   | false =>
     rcases List.mem_cons.1 h with e | h
     · injection e with e1 e2; subst e1; rw [Nat.beq_refl] at hj; exact absurd hj (by simp)
     · exact ZJC h
theorem loopE {E0 : AHeap} {f : St → XR} (st : Nat → St) (n : Nat) (h : ∀ i, i < n → ∃ s', f (st i) = some (.normal, s') ∧ headA E0 s' = st (i + 1)) (h0 : headA E0 (st 0) = st 0) (hn : n < 1000) {e : Ex} {se : St} (he : f (st n) = some (e, se)) (hne : e ≠ .normal) :
   iterA f (headA E0) 1000 (st 0) = some (e, se) :=
 Z8P st n 1000 0 (st 0) h0 hn (fun i _ hi => h i (by omega)) (by rw [Nat.zero_add]; exact he) hne
end Go.AM
end
noncomputable section
namespace Go.AM
noncomputable section
variable {k : Nat} {c : List AV} {T : AHeap}
theorem Z3G (hc : refsL c = []) : ∀ (n : Nat) (todo seen : List Nat), mark ((k, ⟨.box, c⟩) :: T) n todo seen = mark ((k, ⟨.box, []⟩) :: T) n todo seen
 | 0, _, _ => rfl
 | n + 1, [], _ => rfl
 | n + 1, i :: todo, seen => by
   simp only [mark, Z2o]
   by_cases hs : seen.contains i = true
   · rw [if_pos hs, if_pos hs]; exact Z3G hc n todo seen
   · rw [if_neg hs, if_neg hs]
     by_cases e : k = i
     · rw [if_pos e, if_pos e]
       simp only [hc]
       exact Z3G hc n _ _
     · rw [if_neg e, if_neg e]
       cases hget T i with
       | none => exact Z3G hc n _ _
       | some b =>
         obtain ⟨st, cs⟩ := b
         cases st <;> exact Z3G hc n _ _
theorem Z8v (S : AHeap) : ∀ l : List Nat, allHeld ((k, ⟨.box, c⟩) :: S) l = allHeld ((k, ⟨.box, []⟩) :: S) l
 | [] => rfl
 | i :: l => by
   simp only [allHeld, Z2o, Z8v S l]
   by_cases e : k = i
   · rw [if_pos e, if_pos e]; rfl
   · rw [if_neg e, if_neg e]
theorem Za3 (S : AHeap) : ∀ K : AHeap, closedH ((k, ⟨.box, c⟩) :: S) K = closedH ((k, ⟨.box, []⟩) :: S) K
 | [] => rfl
 | (i, ⟨st, cs⟩) :: K => by
   cases st <;> simp only [closedH, Z8v, Za3 S K]
theorem Z5y (hc : refsL c = []) {φ : AFr} {T' : AHeap} (hT : hget T k = none) (h : headA [] (φ, (k, ⟨.box, []⟩) :: T) = (φ, (k, ⟨.box, []⟩) :: T')) : headA [] (φ, (k, ⟨.box, c⟩) :: T) = (φ, (k, ⟨.box, c⟩) :: T') := by
 simp only [headA, Z3G hc] at h ⊢
 generalize mark ((k, ⟨.box, []⟩) :: T) 1000 (refsF φ) [] = keep at *
 simp only [keepB] at h ⊢
 have hno : ∀ b, (k, b) ∉ T := by
   intro b hb
   have := ZJC hb
   rw [hT] at this
   simp at this
 have hsub : ∀ (S : AHeap) (p : Nat × Blk), p ∈ keepB [] keep S → p ∈ S := by
   intro S
   induction S with
   | nil => intro p hp; exact hp
   | cons q S ih =>
     intro p hp
     obtain ⟨i, b⟩ := q
     simp only [keepB] at hp
     cases hcnd : (keep.elem i || (hget [] i).isSome) with
     | true =>
       rw [hcnd, cond_true] at hp
       rcases List.mem_cons.1 hp with e | hp
       · simp [e]
       · exact List.mem_cons_of_mem _ (ih p hp)
     | false =>
       rw [hcnd, cond_false] at hp
       exact List.mem_cons_of_mem _ (ih p hp)
 have hclosed : ∀ S, closedB φ ((k, ⟨.box, c⟩) :: S) = closedB φ ((k, ⟨.box, []⟩) :: S) := by
   intro S
   simp only [closedB, Z8v, closedH, hc, Za3, refsL, allHeld]
 cases hcnd : (keep.elem k || (hget [] k).isSome) with
 | true =>
   rw [hcnd] at h
   simp only [cond_true, gcIf, hclosed] at h ⊢
   cases hcl : closedB φ ((k, ⟨.box, []⟩) :: keepB [] keep T) with
   | true =>
     rw [hcl] at h
     simp only [Prod.mk.injEq, List.cons.injEq, true_and] at h ⊢
     exact h
   | false =>
     rw [hcl] at h
     simp only [Prod.mk.injEq, List.cons.injEq, true_and] at h ⊢
     exact h
 | false =>
   rw [hcnd] at h
   simp only [cond_false, gcIf] at h ⊢
   cases hcl : closedB φ (keepB [] keep T) with
   | true =>
     rw [hcl] at h
     simp only [Prod.mk.injEq, true_and] at h
     exfalso
     exact hno ⟨.box, []⟩ (hsub T _ (by rw [h]; simp))
   | false =>
     rw [hcl] at h
     simp only [Prod.mk.injEq, List.cons.injEq, true_and] at h ⊢
     exact h
end
end Go.AM
end
noncomputable section
namespace Go.AM.Ytfmnoohhhokicaa
open Go Go.AM Go.AM.Rub
def u8s (l : List Int) : List AV := l.map (AV.int .u8)
theorem Ze3 (l : List Int) : (u8s l).length = l.length := by simp [u8s]
theorem Zmj {l : List Int} {k : Nat} (h : k < l.length) : (u8s l)[k]? = some (.int .u8 (rowF l k)) := by simp [u8s, Z2y h]
theorem Z8A : ∀ l : List Int, refsL (u8s l) = []
 | [] => rfl
 | a :: l => by
   have := Z8A l
   unfold u8s at this ⊢
   simp only [List.map_cons, refsL, refsOf, this, List.append_nil]
structure Pl (zs : List Int) : Prop where
 len : zs.length = 8
 b : ∀ k, k < 8 → 0 ≤ rowF zs k ∧ rowF zs k ≤ 255
theorem Z0nq {zs : List Int} (h : zs.length = 8 ∧ ∀ (i : Nat) (z : Int), zs[i]? = some z → 0 ≤ z ∧ z ≤ 255) : Pl zs := ⟨h.1, fun k hk => h.2 k _ (Z2y (by rw [h.1]; exact hk))⟩
def mdN (zs : List Int) (m : Int) : Nat := (1 + (rowF zs 0).tmod m).toNat
def mdP (zs : List Int) (t : Int) (i : Nat) : List Int := (List.range i).map fun k => (rowF zs (2 + k)).tmod (1 + (rowF zs 1).tmod t + 1)
theorem Z55 (zs : List Int) (t : Int) (i : Nat) : (mdP zs t i).length = i := by simp [mdP]
theorem ZNj (zs : List Int) (t : Int) (i : Nat) : mdP zs t (i + 1) = mdP zs t i ++ [(rowF zs (2 + i)).tmod (1 + (rowF zs 1).tmod t + 1)] := by simp [mdP, List.range_succ]
theorem Z56 {a b : Int} (ha : 0 ≤ a) (hb : 0 < b) : 0 ≤ a.tmod b ∧ a.tmod b < b := ⟨Int.tmod_nonneg _ ha, Int.tmod_lt_of_pos _ hb⟩
theorem ZFs {zs : List Int} (h : Pl zs) {m : Int} (h0 : 0 < m) (_ : m ≤ 6) : 0 < mdN zs m ∧ (mdN zs m : Int) ≤ m ∧ (mdN zs m : Int) = 1 + (rowF zs 0).tmod m := by
 have := Z56 (h.b 0 (by omega)).1 h0
 unfold mdN
 omega
theorem ZWp {zs : List Int} (h : Pl zs) {t : Int} (h0 : 0 < t) {i : Nat} (hi : i ≤ 6) {k : Nat} (hk : k < i) : 0 ≤ rowF (mdP zs t i) k ∧ rowF (mdP zs t i) k ≤ t := by
 have h1 := Z56 (h.b 1 (by omega)).1 h0
 have h2 := Z56 (a := rowF zs (2 + k)) (b := 1 + (rowF zs 1).tmod t + 1) (h.b (2 + k) (by omega)).1 (by omega)
 have e : rowF (mdP zs t i) k = (rowF zs (2 + k)).tmod (1 + (rowF zs 1).tmod t + 1) := by
   simp only [rowF, mdP, List.getD_eq_getElem?_getD, List.getElem?_map]
   rw [List.getElem?_range hk]; rfl
 rw [e]; omega
def mdR (zs : List Int) (m t : Int) : List Int := srtI (mdP zs t (mdN zs m))
theorem ZCt {zs : List Int} (h : Pl zs) {m t : Int} (hm : 0 < m) (h6 : m ≤ 6) (ht : 0 < t) (h8 : t ≤ 8) : Rw (mdN zs m) (mdR zs m t) ∧ ∀ x ∈ mdR zs m t, x ≤ t := by
 obtain ⟨n0, n1, _⟩ := ZFs h hm h6
 have hl := Z55 zs t (mdN zs m)
 obtain ⟨hp, hd⟩ := ZhJ (l := mdP zs t (mdN zs m)) (by omega)
 have hx : ∀ x ∈ srtI (mdP zs t (mdN zs m)), 0 ≤ x ∧ x ≤ t := by
   intro x hx
   have hx := hp.mem_iff.1 hx
   obtain ⟨k, hk, rfl⟩ := List.getElem_of_mem hx
   have := ZWp h ht (i := mdN zs m) (by omega) (k := k) (by omega)
   rw [show rowF (mdP zs t (mdN zs m)) k = (mdP zs t (mdN zs m))[k] by simp [rowF, hk]] at this
   exact this
 exact ⟨⟨by show (srtI _).length = _; rw [hp.length_eq, hl], ZeQ (fun x h => by have := hx x h; omega) hd⟩, fun x h => (hx x h).2⟩
abbrev mdS (zs : List Int) (n : Nat) (t : Int) (i : Nat) : St :=
 ([(19, .int .i64 i), (18, .int .i64 n), (17, .ref 3 2 n 6 8 1 true), (7, oV 35 1 i), (3, .ptr 3 0 8), (2, .int .i64 t)], (3, ⟨.box, u8s zs⟩) :: oH 35 (ics (mdP zs t i)))
theorem Z0lU {C : Callee} {zs : List Int} {n : Nat} {t : Int} (h : Pl zs) (hn : n ≤ 6) (h0 : 0 < t) (h8 : t ≤ 8) (i : Nat) (hi : i < n) :
   ∃ s', (execA E C (fg 56) 0 40 [] 1000000 Z6I) (mdS zs n t i) = some (.normal, s') ∧ headA [] s' = mdS zs n t (i + 1) := by
 have hlz : (u8s zs).length = 8 := by rw [Ze3, h.len]
 have hat := Zmj (l := zs) (k := 2 + i) (by rw [h.len]; omega)
 have hat1 := Zmj (l := zs) (k := 1) (by rw [h.len]; omega)
 have b1 := h.b 1 (by omega)
 have b2 := h.b (2 + i) (by omega)
 have m1 := Z56 b1.1 h0
 have m2 := Z56 (a := rowF zs (2 + i)) (b := 1 + (rowF zs 1).tmod t + 1) b2.1 (by omega)
 have hsn := Z8K (mdP zs t i) ((rowF zs (2 + i)).tmod (1 + (rowF zs 1).tmod t + 1))
 have hrl : (ics (mdP zs t i)).length = i := by rw [Z6, Z55]
 have g1 : (i : Int) < n := by omega
 have t0 : ¬ t = 0 := by omega
 have hz := Z8A zs
 simp only [mdS]
 rw [Z2k (show 0 < i + 1 by omega), ZdU (l := mdP zs t (i + 1)) (by rw [Z55]; omega), ZNj, ← hsn]
 have w1 : wrp .i64 (rowF zs (2 + i)) = rowF zs (2 + i) := Zv (by omega)
 have w2 : wrp .i64 (rowF zs 1) = rowF zs 1 := Zv (by omega)
 generalize rowF zs (2 + i) = x at *
 generalize rowF zs 1 = y at *
 generalize u8s zs = Z at *
 generalize hq : y.tmod t = q at *
 have w3 : wrp .i64 (1 + q) = 1 + q := Zv (by omega)
 have w4 : wrp .i64 (1 + q + 1) = 1 + q + 1 := Zv (by omega)
 have q0 : ¬ 1 + q + 1 = 0 := by omega
 rcases Nat.eq_zero_or_pos i with hp | hp
 · subst hp
   have e0 : ics (mdP zs t 0) = [] := rfl
   rw [e0, Z7M]
   have oh0 : oH 35 [] = [] := rfl
   rw [oh0]
   simp (disch := omega) only [ZF, stp, justO, just, Rd.bind, Rd.run, Rd.opt, upds, acells, zeroCells, tsz, elemT, rdCells, fieldOf, Z0I, aLoad, fresh, Z2, aNum, Z4, aBin, aInt, putC, evO, Nat.reduceAdd, Nat.reduceLT, Nat.reduceBEq, Nat.reduceEqDiff, Nat.reduceLeDiff, ↓reduceIte, reduceCtorEq, Zi, Z0b, partsOf, fillA, repC, Z0i, aAppend, srcOf, window, snaps, aConv, Int.reduceLE, Int.reduceToNat, ZT, F_56, hlz, hat, hat1, t0, q0, hq, w1, w2, w3, w4, cl0, if_pos, Z62 (show 1 ≤ 1000000 by omega)]
   exact ⟨_, rfl, Z5y hz rfl rfl⟩
 · rw [Z2k hp, ZdU (by rw [Z55]; exact hp)]
   have htk : List.take i (ics (mdP zs t i)) = ics (mdP zs t i) := List.take_of_length_le (by omega)
   have hno : ¬ i + 1 ≤ i := by omega
   generalize ics (mdP zs t i) = L at *
   simp (disch := omega) only [ZF, stp, justO, just, Rd.bind, Rd.run, Rd.opt, upds, acells, zeroCells, tsz, elemT, rdCells, fieldOf, Z0I, aLoad, fresh, Z2, aNum, Z4, aBin, aInt, putC, evO, Nat.reduceAdd, Nat.reduceLT, Nat.reduceBEq, Nat.reduceEqDiff, Nat.reduceLeDiff, ↓reduceIte, reduceCtorEq, Zi, Z0b, partsOf, fillA, repC, Z0i, aAppend, srcOf, window, snaps, aConv, ZT, F_56, g1, hlz, hat, hat1, t0, q0, hq, w1, w2, w3, w4, hrl, htk, hno, Z62 (show i + 1 ≤ 1000000 by omega), Zl (show i < 1000000 by omega)]
   exact ⟨_, rfl, Z5y hz rfl rfl⟩
theorem ZP5 {d : Nat} {zs : List Int} {m t : Int} (h : Pl zs) (hm : 0 < m) (h6 : m ≤ 6) (h0 : 0 < t) (h8 : t ≤ 8) :
   ∃ H, bodyA E (kF (d + 6)) fg 1000000 56 [.agg (u8s zs), .int .i64 m, .int .i64 t] [] 0 = some (.ref 35 0 (mdN zs m) (mdN zs m) (mdN zs m) 1 false, H) ∧ hget H 35 = some ⟨.row, ics (mdR zs m t)⟩ := by
 obtain ⟨n0, n1, n2⟩ := ZFs h hm h6
 have hlz : (u8s zs).length = 8 := by rw [Ze3, h.len]
 have hat0 := Zmj (l := zs) (k := 0) (by rw [h.len]; omega)
 have b0 := h.b 0 (by omega)
 have hz := Z8A zs
 have hpl := Z55 zs t (mdN zs m)
 have hso := fun B => Z4C (d := d) (B := B) (k := 35) (l := mdP zs t (mdN zs m)) (n := mdN zs m) (H := [(3, ⟨.box, u8s zs⟩), (35, ⟨.row, ics (mdP zs t (mdN zs m))⟩)]) hpl n0 (by omega) (fun k hk => by
   have := ZWp h h0 (i := mdN zs m) (by omega) (k := k) (by omega)
   omega) rfl
 have hh : ∀ b : Blk, hset [(3, ⟨.box, u8s zs⟩), (35, ⟨.row, ics (mdP zs t (mdN zs m))⟩)] 35 b = [(3, ⟨.box, u8s zs⟩), (35, b)] := fun _ => rfl
 simp only [hh] at hso
 have er : srtI (mdP zs t (mdN zs m)) = mdR zs m t := rfl
 rw [er] at hso
 have hloop := loopM (f := execA E (kF (d + 6)) (fg 56) 0 40 [] 1000000 Z6I) (E0 := []) (mdS zs (mdN zs m) t) (mdN zs m) (fun i hi => Z0lU h (by omega) h0 h8 i hi) (Z5y hz rfl rfl) (by omega)
   (e := .exit 0) (se := ([(20, .bool false), (19, .int .i64 (mdN zs m)), (18, .int .i64 (mdN zs m)), (17, .ref 3 2 (mdN zs m) 6 8 1 true), (7, .ref 35 0 (mdN zs m) (mdN zs m) (mdN zs m) 1 false), (3, .ptr 3 0 8), (2, .int .i64 t)], [(3, ⟨.box, u8s zs⟩), (35, ⟨.row, ics (mdP zs t (mdN zs m))⟩)]))
   (by
     simp only [mdS]
     rw [Z2k n0, ZdU (by rw [hpl]; exact n0)]
     simp (disch := omega) only [ZF, stp, just, Rd.bind, Rd.run, Rd.opt, upds, aBin, aInt, Nat.reduceEqDiff, Nat.reduceLeDiff, ↓reduceIte, F_56]) (by simp)
 have e0 : oH 35 (ics (mdP zs t 0)) = [] := rfl
 simp only [mdS, cl0, e0, Z7M] at hloop
 have w1 : wrp .i64 (rowF zs 0) = rowF zs 0 := Zv (by omega)
 have w2 : wrp .i64 (1 + (rowF zs 0).tmod m) = (mdN zs m : Int) := by rw [← n2]; exact Zv (by omega)
 have hm0 : ¬ m = 0 := by omega
 have sp := fun d => Z3l (u8s zs) (d + 10) (by simp [u8s]) (by rw [hlz]; omega)
 generalize kF (d + 6) = C at *
 generalize mdN zs m = n at *
 generalize mdR zs m t = R at *
 generalize ics (mdP zs t n) = L at *
 generalize rowF zs 0 = x at *
 generalize u8s zs = Z at *
 have g1 : (0 : Int) ≤ n ∧ (n : Int) ≤ 6 := by omega
 simp (disch := omega) only [ZF, Z8, stp, opBox, justO, just, Rd.bind, Rd.run, Rd.opt, upds, acells, tsz, rdCells, fieldOf, Z0I, aLoad, resA, resL, fresh, aNum, aLen, Z4, aBin, aInt, Nat.reduceAdd, Nat.reduceMul, Nat.reduceLT, Nat.reduceBEq, Nat.reduceEqDiff, Nat.reduceLeDiff, ↓reduceIte, reduceCtorEq, mutX, aConv, aSlice, aBounds, bMax, bHigh, bLow, ZT, F_56, hlz, hat0, w1, w2, hm0, g1, hloop, hso, if_pos]
 exact ⟨_, rfl, rfl⟩
theorem ZLk {d : Nat} {site : Nat → Nat} {seen : List Nat} {zs : List Int} {m t : Int} (h : Pl zs) (hm : 0 < m) (h6 : m ≤ 6) (h0 : 0 < t) (h8 : t ≤ 8) : aBack site true seen (thaw (kF (d + 7)) 56 [.agg (u8s zs), .int .i64 m, .int .i64 t] [] 0) =
   Z0m (site 0) seen (fun k => .ref k 0 (mdN zs m) (mdN zs m) (mdN zs m) 1 false) ⟨.row, ics (mdR zs m t)⟩ := by
 obtain ⟨H, h1, h2⟩ := ZP5 (d := d) h hm h6 h0 h8
 exact Z2m (by rw [Z11 rfl]; exact h1) h2 (by rw [Z6]; exact (ZCt h hm h6 h0 h8).1.len)
end Go.AM.Ytfmnoohhhokicaa
end
end
