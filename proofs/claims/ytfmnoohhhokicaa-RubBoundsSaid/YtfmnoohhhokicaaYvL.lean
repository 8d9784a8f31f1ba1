/- A part of the proof of rubBounds_holds: RsL. Own work of this project; texts printed by own programs among it. -/
import Derived.KernelRfl
import Derived.Test.YtfmnoohhhokicaaYvK
set_option maxRecDepth 1000000
set_option maxHeartbeats 16000000
noncomputable section
noncomputable section
namespace Go.AM.Ytfmnoohhhokicaa
open Go Go.AM
variable {C : Callee} {B N : Nat} {E0 : AHeap} (φ : AFr) (H : AHeap) (s : St)
def Z9Y := kBody Proofs.Try.f92
def ZCH := kL Z9Y
def Zh4 := kO ZCH
def ZyP := opN Zh4 0
theorem Z0gk : XG 92 14 ZCH Zh4 [1] := Z1 (by rfl) (by rfl) _
theorem Z01H : Zh4.toList = [ZyP] := nf
theorem ZSz : stepA E C B 14 Zh4 ZyP (φ, H) = stp (some 3) φ H (opBox (B + 3) (acells (fget φ 1))) := nf
def Zhg := kR Z9Y
def ZDo := kL Zhg
def Z2z := kO ZDo
def Ztv := opN Z2z 0
def ZuG := opN Z2z 1
def Zvz := opN Z2z 2
def Zzo := opN Z2z 3
theorem Z0hq : XG 92 14 ZDo Z2z [7, 8] := Z1 (by rfl) (by rfl) _
theorem Z02T : Z2z.toList = [Ztv, ZuG, Zvz, Zzo] := nf
theorem Z01d : stepA E C B 14 Z2z Ztv (φ, H) = some (fput φ 7 (fget φ 0), H) := nf
theorem Z03T : stepA E C B 14 Z2z ZuG (φ, H) = stp (some 8) φ H (aCall C (fun j => B + j * 14 + 8) true 79 [(fget φ 7)]) := nf
theorem ZYN : stepA E C B 14 Z2z Zvz (φ, H) = stp (some 4) φ H (opBox (B + 4) (zeroCells E.T 22)) := nf
theorem Z04r : stepA E C B 14 Z2z Zzo (φ, H) = stp none φ H (opStore E.T 22 (fget φ 4) (fget φ 8)) := nf
def Zhs := kR Zhg
def ZCa := kL Zhs
def Z2x := kO ZCa
def Zvn := opN Z2x 0
def ZB2 := opN Z2x 1
def Zzy := opN Z2x 2
def Zzm := opN Z2x 3
theorem Z0he : XG 92 14 ZCa Z2x [0, 9, 10] := Z1 (by rfl) (by rfl) _
theorem ZYi : Z2x.toList = [Zvn, ZB2, Zzy, Zzm] := nf
theorem ZV9 : stepA E C B 14 Z2x Zvn (φ, H) = some (fput φ 9 (fget φ 0), H) := nf
theorem Z03K : stepA E C B 14 Z2x ZB2 (φ, H) = stp (some 10) φ H (Z2 E.T (B + 10) .len #[22] [(fget φ 9)]) := nf
theorem ZTK : stepA E C B 14 Z2x Zzy (φ, H) = stp (some 5) φ H (opBox (B + 5) (zeroCells E.T 3)) := nf
theorem ZYq : stepA E C B 14 Z2x Zzm (φ, H) = stp none φ H (opStore E.T 3 (fget φ 5) (fget φ 10)) := nf
def ZgG := kR Zhs
def ZBZ := kL ZgG
def Zh8 := kO ZBZ
def Zti := opN Zh8 0
theorem Z0g0 : XG 92 14 ZBZ Zh8 [] := Z1 (by rfl) (by rfl) _
theorem ZVB : Zh8.toList = [Zti] := nf
theorem ZVh : stepA E C B 14 Zh8 Zti (φ, H) = stp (some 6) φ H (opBox (B + 6) (zeroCells E.T 94)) := nf
def Zhc := kR ZgG
def ZBp := kL Zhc
def Z7J := kO ZBp
def ZzP := opN Z7J 0
def ZvQ := opN Z7J 1
theorem Z0jP : XG 92 14 ZBp Z7J [3, 4, 5, 11] := Z1 (by rfl) (by rfl) _
theorem Z04P : Z7J.toList = [ZzP, ZvQ] := nf
theorem ZTH : stepA E C B 14 Z7J ZzP (φ, H) = stp (some 11) φ H (.pure (.clo 116 [(fget φ 5), (fget φ 3), (fget φ 4), (fget φ 6)], [])) := nf
theorem Z00G : stepA E C B 14 Z7J ZvQ (φ, H) = stp none φ H (opStore E.T 94 (fget φ 6) (fget φ 11)) := nf
def ZpB := kR Zhc
def Z6g := kO ZpB
def Zv2 := opN Z6g 0
def ZuA := opN Z6g 1
theorem Z06p : XG 92 14 ZpB Z6g [6, 12, 13] := Z1 (by rfl) (by rfl) _
theorem Z02b : Z6g.toList = [Zv2, ZuA] := nf
theorem ZYd : stepA E C B 14 Z6g Zv2 (φ, H) = stp (some 12) φ H (just (aLoad E.T 94 (fget φ 6))) := nf
theorem ZTC : stepA E C B 14 Z6g ZuA (φ, H) = callV E C (B + 14 * 8) (some 13) (fun j => B + j * 14 + 13) φ H (fget φ 12) [(.nilsl), (.int .i64 0), (.int .i64 8)] true := nf
theorem Z0fC : XQ 92 14 Zhc ZBp ZpB := Z0 (by rfl) _
theorem Z0hC : XQ 92 14 ZgG ZBZ Zhc := Z0 (by rfl) _
theorem Z0hx : XQ 92 14 Zhs ZCa ZgG := Z0 (by rfl) _
theorem Z0iT : XQ 92 14 Zhg ZDo Zhs := Z0 (by rfl) _
theorem Z0id : XQ 92 14 Z9Y ZCH Zhg := Z0 (by rfl) _
theorem Z0ko : fInfo E 92 = some ⟨14, #[], Z9Y⟩ := nf
theorem b_92 (args : List AV) : bodyA E C fg N 92 args H B = bodyX E [] (execA E C (fg 92) B 14 H N Z9Y (Z4 args 0 [], H)) := Zq Z0ko args H
abbrev F_92 := And.intro (And.intro (And.intro (And.intro (And.intro @Z0gk @Z01H) (And.intro @ZSz @Z0hq)) (And.intro (And.intro @Z02T @Z01d) (And.intro @Z03T @ZYN))) (And.intro (And.intro (And.intro @Z04r @Z0he) (And.intro @ZYi @ZV9)) (And.intro (And.intro @Z03K @ZTK) (And.intro @ZYq @Z0g0)))) (And.intro (And.intro (And.intro (And.intro @ZVB @ZVh) (And.intro @Z0jP @Z04P)) (And.intro (And.intro @ZTH @Z00G) (And.intro @Z06p @Z02b))) (And.intro (And.intro (And.intro @ZYd @ZTC) (And.intro @Z0fC @Z0hC)) (And.intro (And.intro @Z0hx @Z0iT) (And.intro @Z0id @b_92))))
def Z5C := kBody Proofs.Try.f116
def Zix := kL Z5C
def Z37 := kO Zix
def ZiO := opN Z37 0
def Znu := opN Z37 1
def Zni := opN Z37 2
theorem Z0aK : XG 116 62 Zix Z37 [13, 14] := Z1 (by rfl) (by rfl) _
theorem ZOd : Z37.toList = [ZiO, Znu, Zni] := nf
theorem ZRe : stepA E C B 62 Z37 ZiO (φ, H) = some (fput φ 13 (fget φ 0), H) := nf
theorem ZOs : stepA E C B 62 Z37 Znu (φ, H) = stp (some 14) φ H (Z2 E.T (B + 14) .len #[22] [(fget φ 13)]) := nf
theorem ZJM : stepA E C B 62 Z37 Zni (φ, H) = some (fput φ 10 (fget φ 14), H) := nf
def ZaP := kR Z5C
def Z8O := kL ZaP
def Zpl := kL Z8O
def Z35 := kO Zpl
def Zqx := opN Z35 0
def ZoU := opN Z35 1
def Zp5 := opN Z35 2
theorem Z0cm : XG 116 62 Zpl Z35 [15, 16] := Z1 (by rfl) (by rfl) _
theorem ZNL : Z35.toList = [Zqx, ZoU, Zp5] := nf
theorem ZOm : stepA E C B 62 Z35 Zqx (φ, H) = some (fput φ 15 (fget φ 10), H) := nf
theorem ZLE : stepA E C B 62 Z35 ZoU (φ, H) = stp (some 16) φ H (just (aLoad E.T 3 (fget φ 3))) := nf
theorem ZLZ : stepA E C B 62 Z35 Zp5 (φ, H) = stp (some 17) φ H (just (aBin E.T .eql 3 (fget φ 15) (fget φ 16))) := nf
def Zbz := kR Z8O
def Z9s := kT Zbz
def ZkM := kL Z9s
def Z31 := kO ZkM
def ZmA := opN Z31 0
def Zkj := opN Z31 1
def ZmP := opN Z31 2
theorem Z067 : XG 116 62 ZkM Z31 [0, 1, 2, 3, 4, 5, 6, 10, 17, 18, 19, 20] := Z1 (by rfl) (by rfl) _
theorem ZLu : Z31.toList = [ZmA, Zkj, ZmP] := nf
theorem ZOA : stepA E C B 62 Z31 ZmA (φ, H) = stp (some 18) φ H (just (aLoad E.T 65 (fget φ 4))) := nf
theorem ZQI : stepA E C B 62 Z31 Zkj (φ, H) = some (fput φ 19 (fget φ 0), H) := nf
theorem ZKN : stepA E C B 62 Z31 ZmP (φ, H) = callV E C (B + 62 * 8) (some 20) (fun j => B + j * 62 + 20) φ H (fget φ 18) [(fget φ 19)] true := nf
def ZH9 := kR Z9s
theorem Z071 : execA E C (fg 116) B 62 E0 N ZH9 s = some (.ret, s) := Zj (by rfl) s
theorem Z0f2 : XQ 116 62 Z9s ZkM ZH9 := Z0 (by rfl) _
def ZGW := kE Zbz
theorem Z0aW : execA E C (fg 116) B 62 E0 N ZGW s = some (.normal, s) := Ze (by rfl) s
theorem Z0ez : XC 116 62 Zbz 17 Z9s ZGW := Zb (by rfl) _
theorem Z0aX : XQ 116 62 Z8O Zpl Zbz := Z0 (by rfl) _
def Z6G := kR ZaP
def ZdK := kL Z6G
def Z0h := kO ZdK
def ZiR := opN Z0h 0
def ZoJ := opN Z0h 1
def Zpg := opN Z0h 2
def Zla := opN Z0h 3
def ZmT := opN Z0h 4
def Zrk := opN Z0h 5
def ZjA := opN Z0h 6
theorem ZXr : XG 116 62 ZdK Z0h [4, 17, 21, 22, 23, 24, 25, 26] := Z1 (by rfl) (by rfl) _
theorem ZLX : Z0h.toList = [ZiR, ZoJ, Zpg, Zla, ZmT, Zrk, ZjA] := nf
theorem ZMt : stepA E C B 62 Z0h ZiR (φ, H) = stp (some 21) φ H (just (aLoad E.T 22 (fget φ 5))) := nf
theorem ZMu : stepA E C B 62 Z0h ZoJ (φ, H) = stp (some 22) φ H (just (aLoad E.T 3 (fget φ 3))) := nf
theorem ZQj : stepA E C B 62 Z0h Zpg (φ, H) = stp (some 23) φ H (just (Z3 E.T 22 (fget φ 21) (fget φ 22))) := nf
theorem ZQ9 : stepA E C B 62 Z0h Zla (φ, H) = stp (some 24) φ H (just (aLoad E.T 3 (fget φ 23))) := nf
theorem ZPo : stepA E C B 62 Z0h ZmT (φ, H) = some (fput φ 25 (fget φ 1), H) := nf
theorem ZJp : stepA E C B 62 Z0h Zrk (φ, H) = stp (some 26) φ H (just (aBin E.T .sub 3 (fget φ 24) (fget φ 25))) := nf
theorem ZPB : stepA E C B 62 Z0h ZjA (φ, H) = some (fput φ 11 (fget φ 26), H) := nf
def Z6u := kR Z6G
def Zdr := kL Z6u
def ZN := kO Zdr
def Zpi := opN ZN 0
def Zpu := opN ZN 1
def Zm5 := opN ZN 2
def ZmS := opN ZN 3
def Zmb := opN ZN 4
def Zng := opN ZN 5
def Zr2 := opN ZN 6
def ZqT := opN ZN 7
def ZkW := opN ZN 8
def ZmY := opN ZN 9
theorem ZSm : XG 116 62 Zdr ZN [2, 5, 27, 28, 29, 30, 31, 32, 33, 34, 35] := Z1 (by rfl) (by rfl) _
theorem ZNa : ZN.toList = [Zpi, Zpu, Zm5, ZmS, Zmb, Zng, Zr2, ZqT, ZkW, ZmY] := nf
theorem ZLy : stepA E C B 62 ZN Zpi (φ, H) = some (fput φ 27 (fget φ 2), H) := nf
theorem ZLQ : stepA E C B 62 ZN Zpu (φ, H) = stp (some 28) φ H (just (aLoad E.T 22 (fget φ 5))) := nf
theorem ZR3 : stepA E C B 62 ZN Zm5 (φ, H) = some (fput φ 29 (fget φ 10), H) := nf
theorem ZMU : stepA E C B 62 ZN ZmS (φ, H) = stp (some 30) φ H (just (aBin E.T .add 3 (fget φ 29) (.int .i64 1))) := nf
theorem ZOh : stepA E C B 62 ZN Zmb (φ, H) = stp (some 31) φ H (just (Z3 E.T 22 (fget φ 28) (fget φ 30))) := nf
theorem ZL1 : stepA E C B 62 ZN Zng (φ, H) = stp (some 32) φ H (just (aLoad E.T 3 (fget φ 31))) := nf
theorem ZM2 : stepA E C B 62 ZN Zr2 (φ, H) = some (fput φ 33 (fget φ 1), H) := nf
theorem ZPd : stepA E C B 62 ZN ZqT (φ, H) = stp (some 34) φ H (just (aBin E.T .sub 3 (fget φ 32) (fget φ 33))) := nf
theorem ZOu : stepA E C B 62 ZN ZkW (φ, H) = stp (some 35) φ H (Z2 E.T (B + 35) .min #[3, 3] [(fget φ 27), (fget φ 34)]) := nf
theorem ZQn : stepA E C B 62 ZN ZmY (φ, H) = some (fput φ 12 (fget φ 35), H) := nf
def Zdt := kR Z6u
def Zdb := kB Zdt
def Z1X := kB Zdb
def Z6i := kL Z1X
def ZdP := kL Z6i
def ZH := kO ZdP
def Zmk := opN ZH 0
def Zqv := opN ZH 1
def ZqA := opN ZH 2
def Zro := opN ZH 3
def Zl2 := opN ZH 4
def Zlz := opN ZH 5
def Zq0 := opN ZH 6
def Z5s := opN ZH 7
def Zpx := opN ZH 8
def ZoE := opN ZH 9
def ZfD := opN ZH 10
theorem ZWA : XG 116 62 ZdP ZH [36, 37, 38, 39, 40, 41, 42, 43, 44, 45] := Z1 (by rfl) (by rfl) _
theorem ZJC : ZH.toList = [Zmk, Zqv, ZqA, Zro, Zl2, Zlz, Zq0, Z5s, Zpx, ZoE, ZfD] := nf
theorem ZNw : stepA E C B 62 ZH Zmk (φ, H) = some (fput φ 36 (fget φ 12), H) := nf
theorem ZMi : stepA E C B 62 ZH Zqv (φ, H) = stp (some 37) φ H (just (aLoad E.T 3 (fget φ 3))) := nf
theorem ZPZ : stepA E C B 62 ZH ZqA (φ, H) = some (fput φ 38 (fget φ 10), H) := nf
theorem ZP7 : stepA E C B 62 ZH Zro (φ, H) = stp (some 39) φ H (just (aBin E.T .sub 3 (fget φ 37) (fget φ 38))) := nf
theorem ZJX : stepA E C B 62 ZH Zl2 (φ, H) = stp (some 40) φ H (just (aBin E.T .mul 3 (fget φ 36) (fget φ 39))) := nf
theorem ZO6 : stepA E C B 62 ZH Zlz (φ, H) = some (fput φ 41 (fget φ 11), H) := nf
theorem ZKu : stepA E C B 62 ZH Zq0 (φ, H) = stp (some 42) φ H (just (aBin E.T .geq 3 (fget φ 40) (fget φ 41))) := nf
theorem ZQK : stepA E C B 62 ZH Z5s (φ, H) = some (fput φ 43 (fget φ 42), H) := nf
theorem ZPO : stepA E C B 62 ZH Zpx (φ, H) = gd φ 43 true (fun φ => some (fput φ 44 (.tup []), H)) (fun φ => some (fput φ 44 (fget φ 12), H)) := s_gd (j := 7) (oj := Z5s) rfl rfl rfl (fun _ => rfl) (fun _ => rfl)
theorem ZOH : stepA E C B 62 ZH ZoE (φ, H) = gd φ 43 true (fun φ => some (fput φ 45 (.tup []), H)) (fun φ => stp (some 45) φ H (just (aBin E.T .geq 3 (fget φ 44) (.int .i64 0)))) := s_gd (j := 7) (oj := Z5s) rfl rfl rfl (fun _ => rfl) (fun _ => rfl)
theorem ZDL : stepA E C B 62 ZH ZfD (φ, H) = stp (some 46) φ H (opPick (fget φ 43) (fget φ 45) (.bool false)) := nf
def Z6e := kR Z6i
def ZxE := kT Z6e
theorem ZTs : execA E C (fg 116) B 62 E0 N ZxE s = some (.normal, s) := Ze (by rfl) s
def ZuD := kE Z6e
theorem ZUY : execA E C (fg 116) B 62 E0 N ZuD s = some (.exit 0, s) := ZL (by rfl) s
theorem ZSS : XC 116 62 Z6e 46 ZxE ZuD := Zb (by rfl) _
theorem ZZl : XQ 116 62 Z6i ZdP Z6e := Z0 (by rfl) _
def Z6k := kR Z1X
def ZdE := kL Z6k
def Zdj := kB ZdE
def Zt := kO Zdj
def Zn3 := opN Zt 0
def Zrm := opN Zt 1
def Zrs := opN Zt 2
def Zmz := opN Zt 3
def Zmv := opN Zt 4
def Zob := opN Zt 5
def Zrp := opN Zt 6
def Zme := opN Zt 7
def Zj3 := opN Zt 8
def ZoN := opN Zt 9
def Zf0 := opN Zt 10
def ZfP := opN Zt 11
def ZfS := opN Zt 12
theorem ZZV : XD 116 62 Zdj Zt [46, 49, 50, 51, 52, 53, 54, 55, 56, 57, 58, 59, 60, 61] := Z3I (by rfl) (by rfl) _
theorem ZMW : Zt.toList = [Zn3, Zrm, Zrs, Zmz, Zmv, Zob, Zrp, Zme, Zj3, ZoN, Zf0, ZfP, ZfS] := nf
theorem ZDT : statOk Zt = true := by kernel_rfl
theorem ZH7 : drawA E C B 62 Zt s = if neat 62 s = true then drX Zt (runT E C B 62 Zt Zt.toList 0 s) else none := Z2e ZDT s
theorem ZE5 (l : List (Nat × Tr)) : dynOk Zt l = (!writing l || Zo [[], [], [], [], [1, 2, 3], [], [5], [1, 2, 3, 4, 5, 6], [], [], [8, 9], [], [0, 1, 2, 3, 4, 5, 6, 7, 8, 9, 10, 11]] (Zm l)) := Z1P (by kernel_rfl) l
theorem ZMb : stepT E C B 62 Zt Zn3 (φ, H) = stpT (some 49) φ H (just (aLoad E.T 94 (fget φ 6))) := Z9 rfl (Zi rfl rfl)
theorem ZMx : stepT E C B 62 Zt Zrm (φ, H) = some ((fput φ 50 (fget φ 0), H), ⟨false, [], []⟩) := Z9 rfl (Zh rfl rfl)
theorem ZPF : stepT E C B 62 Zt Zrs (φ, H) = some ((fput φ 51 (fget φ 10), H), ⟨false, [], []⟩) := Z9 rfl (Zh rfl rfl)
theorem ZO5 : stepT E C B 62 Zt Zmz (φ, H) = some ((fput φ 52 (fget φ 10), H), ⟨false, [], []⟩) := Z9 rfl (Zh rfl rfl)
theorem ZNu : stepT E C B 62 Zt Zmv (φ, H) = stpT (some 53) φ H (just (aSlice E.T 22 (fget φ 50) none (some (fget φ 51)) (some (fget φ 52)))) := Z9 rfl (Zi rfl rfl)
theorem ZJB : stepT E C B 62 Zt Zob (φ, H) = some ((fput φ 54 (fget φ 12), H), ⟨false, [], []⟩) := Z9 rfl (Zh rfl rfl)
theorem ZKh : stepT E C B 62 Zt Zrp (φ, H) = stpT (some 55) φ H (Z8 E.T (B + 55) 22 1 (evO E φ) [(0, Operand.tmp 54)]) := Z9 rfl (Zi rfl rfl)
theorem ZPc : stepT E C B 62 Zt Zme (φ, H) = stpT (some 56) φ H (Z2 E.T (B + 56) .append #[22, 22] [(fget φ 53), (fget φ 55)]) := Z9 rfl (Zi rfl rfl)
theorem ZQC : stepT E C B 62 Zt Zj3 (φ, H) = some ((fput φ 57 (fget φ 1), H), ⟨false, [], []⟩) := Z9 rfl (Zh rfl rfl)
theorem ZKG : stepT E C B 62 Zt ZoN (φ, H) = some ((fput φ 58 (fget φ 12), H), ⟨false, [], []⟩) := Z9 rfl (Zh rfl rfl)
theorem ZFE : stepT E C B 62 Zt Zf0 (φ, H) = stpT (some 59) φ H (just (aBin E.T .add 3 (fget φ 57) (fget φ 58))) := Z9 rfl (Zi rfl rfl)
theorem ZGs : stepT E C B 62 Zt ZfP (φ, H) = some ((fput φ 60 (fget φ 12), H), ⟨false, [], []⟩) := Z9 rfl (Zh rfl rfl)
theorem ZIX : stepT E C B 62 Zt ZfS (φ, H) = callVT E C (B + 62 * 8) (some 61) (fun j => B + j * 62 + 61) φ H (fget φ 49) [(fget φ 56), (fget φ 59), (fget φ 60)] true := Z9 rfl (Z0hF rfl rfl)
theorem ZVM : execA E C (fg 116) B 62 E0 N ZdE s = blockX 1 (fun s => (forget s.1 [], s.2)) (execA E C (fg 116) B 62 E0 N Zdj s) := Zf (by rfl) (by rfl) s
def Zd2 := kR Z6k
def Z2J := kO Zd2
def ZoR := opN Z2J 0
def ZlI := opN Z2J 1
def Zjx := opN Z2J 2
theorem Z00z : XG 116 62 Zd2 Z2J [47, 48] := Z1 (by rfl) (by rfl) _
theorem ZNb : Z2J.toList = [ZoR, ZlI, Zjx] := nf
theorem ZMh : stepA E C B 62 Z2J ZoR (φ, H) = some (fput φ 47 (fget φ 12), H) := nf
theorem ZJt : stepA E C B 62 Z2J ZlI (φ, H) = stp (some 48) φ H (just (aBin E.T .sub 3 (fget φ 47) (.int .i64 1))) := nf
theorem ZPi : stepA E C B 62 Z2J Zjx (φ, H) = some (fput φ 12 (fget φ 48), H) := nf
theorem ZZQ : XQ 116 62 Z6k ZdE Zd2 := Z0 (by rfl) _
theorem ZXb : XQ 116 62 Z1X Z6i Z6k := Z0 (by rfl) _
theorem ZYf : execA E C (fg 116) B 62 E0 N Zdb s = iterA (execA E C (fg 116) B 62 E0 N Z1X) (headA E0) N s := ZM (by rfl) s
theorem ZZr : execA E C (fg 116) B 62 E0 N Zdt s = blockX 0 (fun s => (forget s.1 [0, 1, 3, 6, 10, 11, 12, 46], s.2)) (execA E C (fg 116) B 62 E0 N Zdb s) := Zf (by rfl) (by rfl) s
theorem Z05R : XQ 116 62 Z6u Zdr Zdt := Z0 (by rfl) _
theorem Z05A : XQ 116 62 Z6G ZdK Z6u := Z0 (by rfl) _
theorem Z0cz : XQ 116 62 ZaP Z8O Z6G := Z0 (by rfl) _
theorem Z0d7 : XQ 116 62 Z5C Zix ZaP := Z0 (by rfl) _
theorem Z0cu : fInfo E 116 = some ⟨62, #[], Z5C⟩ := nf
theorem Z0jb (args : List AV) : bodyA E C fg N 116 args H B = bodyX E [] (execA E C (fg 116) B 62 H N Z5C (Z4 args 0 [], H)) := Zq Z0cu args H
abbrev Z3e := And.intro (And.intro (And.intro (And.intro (And.intro (And.intro @Z0aK @ZOd) (And.intro @ZRe (And.intro @ZOs @ZJM))) (And.intro (And.intro @Z0cm (And.intro @ZNL @ZOm)) (And.intro @ZLE (And.intro @ZLZ @Z067)))) (And.intro (And.intro (And.intro @ZLu @ZOA) (And.intro @ZQI (And.intro @ZKN @Z071))) (And.intro (And.intro @Z0f2 (And.intro @Z0aW @Z0ez)) (And.intro @Z0aX (And.intro @ZXr @ZLX))))) (And.intro (And.intro (And.intro (And.intro @ZMt @ZMu) (And.intro @ZQj (And.intro @ZQ9 @ZPo))) (And.intro (And.intro @ZJp (And.intro @ZPB @ZSm)) (And.intro @ZNa (And.intro @ZLy @ZLQ)))) (And.intro (And.intro (And.intro @ZR3 (And.intro @ZMU @ZOh)) (And.intro @ZL1 (And.intro @ZM2 @ZPd))) (And.intro (And.intro @ZOu (And.intro @ZQn @ZWA)) (And.intro @ZJC (And.intro @ZNw @ZMi)))))) (And.intro (And.intro (And.intro (And.intro (And.intro @ZPZ @ZP7) (And.intro @ZJX (And.intro @ZO6 @ZKu))) (And.intro (And.intro @ZQK (And.intro @ZPO @ZOH)) (And.intro @ZDL (And.intro @ZTs @ZUY)))) (And.intro (And.intro (And.intro @ZSS @ZZl) (And.intro @ZZV (And.intro @ZMW @ZH7))) (And.intro (And.intro @ZE5 (And.intro @ZMb @ZMx)) (And.intro @ZPF (And.intro @ZO5 @ZNu))))) (And.intro (And.intro (And.intro (And.intro @ZJB @ZKh) (And.intro @ZPc (And.intro @ZQC @ZKG))) (And.intro (And.intro @ZFE (And.intro @ZGs @ZIX)) (And.intro @ZVM (And.intro @Z00z @ZNb)))) (And.intro (And.intro (And.intro @ZMh (And.intro @ZJt @ZPi)) (And.intro @ZZQ (And.intro @ZXb @ZYf))) (And.intro (And.intro @ZZr (And.intro @Z05R @Z05A)) (And.intro @Z0cz (And.intro @Z0d7 @Z0jb))))))
def Z5Z := kBody Proofs.Try.f103
def Zjp := kL Z5Z
def Z92 := kO Zjp
def Zmn := opN Z92 0
theorem Z07B : XG 103 34 Zjp Z92 [4] := Z1 (by rfl) (by rfl) _
theorem ZPx : Z92.toList = [Zmn] := nf
theorem ZQk : stepA E C B 34 Z92 Zmn (φ, H) = some (fput φ 4 (.nilsl), H) := nf
def ZbN := kR Z5Z
def Zm0 := kL ZbN
def Z3b := kO Zm0
def ZqV := opN Z3b 0
def Zm9 := opN Z3b 1
def ZjB := opN Z3b 2
theorem Z09h : XG 103 34 Zm0 Z3b [1, 9, 10] := Z1 (by rfl) (by rfl) _
theorem ZMD : Z3b.toList = [ZqV, Zm9, ZjB] := nf
theorem ZR1 : stepA E C B 34 Z3b ZqV (φ, H) = some (fput φ 9 (fget φ 1), H) := nf
theorem ZPT : stepA E C B 34 Z3b Zm9 (φ, H) = stp (some 10) φ H (aMake E.T (B + 10) 22 (fget φ 9) (fget φ 9)) := nf
theorem ZKS : stepA E C B 34 Z3b ZjB (φ, H) = some (fput φ 5 (fget φ 10), H) := nf
def ZaX := kR ZbN
def Zas := kL ZaX
def Zp4 := kL Zas
def Z3a := kO Zp4
def ZnR := opN Z3a 0
def Zp6 := opN Z3a 1
def Zpz := opN Z3a 2
theorem Z07b : XG 103 34 Zp4 Z3a [11] := Z1 (by rfl) (by rfl) _
theorem ZO2 : Z3a.toList = [ZnR, Zp6, Zpz] := nf
theorem ZN9 : stepA E C B 34 Z3a ZnR (φ, H) = some (fput φ 11 (fget φ 5), H) := nf
theorem ZOb : stepA E C B 34 Z3a Zp6 (φ, H) = stp (some 12) φ H (Z2 E.T (B + 12) .len #[22] [(fget φ 11)]) := nf
theorem ZJo : stepA E C B 34 Z3a Zpz (φ, H) = some (fput φ 13 (.int .i64 0), H) := nf
def ZjP := kR Zas
def ZoZ := kB ZjP
def Z4F := kB ZoZ
def Zdn := kL Z4F
def Zb9 := kO Zdn
def Zoz := opN Zb9 0
theorem Z04j : XG 103 34 Zdn Zb9 [] := Z1 (by rfl) (by rfl) _
theorem ZLH : Zb9.toList = [Zoz] := nf
theorem ZPj : stepA E C B 34 Zb9 Zoz (φ, H) = stp (some 14) φ H (just (aBin E.T .lss 3 (fget φ 13) (fget φ 12))) := nf
def Z7G := kR Z4F
def Z7c := kL Z7G
def Zuy := kT Z7c
theorem Z02d : execA E C (fg 103) B 34 E0 N Zuy s = some (.normal, s) := Ze (by rfl) s
def Zwd := kE Z7c
theorem ZSi : execA E C (fg 103) B 34 E0 N Zwd s = some (.exit 0, s) := ZL (by rfl) s
theorem Z04t : XC 103 34 Z7c 14 Zuy Zwd := Zb (by rfl) _
def Z6V := kR Z7G
def ZdI := kL Z6V
def Z6K := kB ZdI
def ZcT := kL Z6K
def Z50 := kO ZcT
def Zjf := opN Z50 0
def ZjZ := opN Z50 1
theorem ZV2 : XG 103 34 ZcT Z50 [14, 15] := Z1 (by rfl) (by rfl) _
theorem ZPa : Z50.toList = [Zjf, ZjZ] := nf
theorem ZQl : stepA E C B 34 Z50 Zjf (φ, H) = some (fput φ 15 (fget φ 13), H) := nf
theorem ZQg : stepA E C B 34 Z50 ZjZ (φ, H) = some (fput φ 6 (fget φ 15), H) := nf
def Z7l := kR Z6K
def Zds := kL Z7l
def Z2I := kO Zds
def Zly := opN Z2I 0
def ZmV := opN Z2I 1
def ZqY := opN Z2I 2
theorem ZSX : XG 103 34 Zds Z2I [] := Z1 (by rfl) (by rfl) _
theorem ZOZ : Z2I.toList = [Zly, ZmV, ZqY] := nf
theorem ZLe : stepA E C B 34 Z2I Zly (φ, H) = some (fput φ 16 (fget φ 0), H) := nf
theorem ZKF : stepA E C B 34 Z2I ZmV (φ, H) = stp (some 17) φ H (Z2 E.T (B + 17) .len #[22] [(fget φ 16)]) := nf
theorem ZLc : stepA E C B 34 Z2I ZqY (φ, H) = some (fput φ 18 (.int .i64 0), H) := nf
def Zd5 := kR Z7l
def ZcS := kB Zd5
def Z3t := kB ZcS
def Zdm := kL Z3t
def Z8z := kO Zdm
def ZkZ := opN Z8z 0
theorem Z03G : XG 103 34 Zdm Z8z [] := Z1 (by rfl) (by rfl) _
theorem ZPA : Z8z.toList = [ZkZ] := nf
theorem ZPN : stepA E C B 34 Z8z ZkZ (φ, H) = stp (some 19) φ H (just (aBin E.T .lss 3 (fget φ 18) (fget φ 17))) := nf
def Z6m := kR Z3t
def Z6D := kL Z6m
def ZvC := kT Z6D
theorem ZW6 : execA E C (fg 103) B 34 E0 N ZvC s = some (.normal, s) := Ze (by rfl) s
def Ztp := kE Z6D
theorem Z04p : execA E C (fg 103) B 34 E0 N Ztp s = some (.exit 2, s) := ZL (by rfl) s
theorem Z03y : XC 103 34 Z6D 19 ZvC Ztp := Zb (by rfl) _
def Z6N := kR Z6m
def Zd0 := kL Z6N
def Z7v := kB Zd0
def Ze0 := kL Z7v
def Z2O := kO Ze0
def ZnH := opN Z2O 0
def Zm7 := opN Z2O 1
def Znt := opN Z2O 2
theorem ZYM : XG 103 34 Ze0 Z2O [19, 20, 21] := Z1 (by rfl) (by rfl) _
theorem ZOR : Z2O.toList = [ZnH, Zm7, Znt] := nf
theorem ZQA : stepA E C B 34 Z2O ZnH (φ, H) = stp (some 20) φ H (just (Z3 E.T 22 (fget φ 16) (fget φ 18))) := nf
theorem ZNG : stepA E C B 34 Z2O Zm7 (φ, H) = stp (some 21) φ H (just (aLoad E.T 3 (fget φ 20))) := nf
theorem ZQv : stepA E C B 34 Z2O Znt (φ, H) = some (fput φ 8 (fget φ 21), H) := nf
def Z70 := kR Z7v
def Ze4 := kL Z70
def Z33 := kO Ze4
def Zq2 := opN Z33 0
def Zqw := opN Z33 1
def ZoQ := opN Z33 2
theorem ZYz : XG 103 34 Ze4 Z33 [8, 22, 23] := Z1 (by rfl) (by rfl) _
theorem ZQ4 : Z33.toList = [Zq2, Zqw, ZoQ] := nf
theorem ZOG : stepA E C B 34 Z33 Zq2 (φ, H) = some (fput φ 22 (fget φ 8), H) := nf
theorem ZMY : stepA E C B 34 Z33 Zqw (φ, H) = some (fput φ 23 (fget φ 6), H) := nf
theorem ZQD : stepA E C B 34 Z33 ZoQ (φ, H) = stp (some 24) φ H (just (aBin E.T .gtr 3 (fget φ 22) (fget φ 23))) := nf
def Z6n := kR Z70
def Zdi := kT Z6n
def Z0j := kO Zdi
def Zkt := opN Z0j 0
def Zn8 := opN Z0j 1
def ZjD := opN Z0j 2
def Zjc := opN Z0j 3
def ZnF := opN Z0j 4
def Zk4 := opN Z0j 5
def Znb := opN Z0j 6
theorem ZXz : XG 103 34 Zdi Z0j [24, 25, 26, 27, 28, 29, 30] := Z1 (by rfl) (by rfl) _
theorem ZOo : Z0j.toList = [Zkt, Zn8, ZjD, Zjc, ZnF, Zk4, Znb] := nf
theorem ZPM : stepA E C B 34 Z0j Zkt (φ, H) = some (fput φ 25 (fget φ 5), H) := nf
theorem ZKW : stepA E C B 34 Z0j Zn8 (φ, H) = some (fput φ 26 (fget φ 6), H) := nf
theorem ZN1 : stepA E C B 34 Z0j ZjD (φ, H) = stp (some 27) φ H (just (Z3 E.T 22 (fget φ 25) (fget φ 26))) := nf
theorem ZP9 : stepA E C B 34 Z0j Zjc (φ, H) = stp (some 28) φ H (just (aLoad E.T 3 (fget φ 27))) := nf
theorem ZNX : stepA E C B 34 Z0j ZnF (φ, H) = stp (some 29) φ H (just (aBin E.T .add 3 (fget φ 28) (.int .i64 1))) := nf
theorem ZRg : stepA E C B 34 Z0j Zk4 (φ, H) = stp (some 30) φ H (just (Z3 E.T 22 (fget φ 25) (fget φ 26))) := nf
theorem ZL5 : stepA E C B 34 Z0j Znb (φ, H) = stp none φ H (opStore E.T 3 (fget φ 30) (fget φ 29)) := nf
def Zz3 := kE Z6n
theorem Z05j : execA E C (fg 103) B 34 E0 N Zz3 s = some (.normal, s) := Ze (by rfl) s
theorem Z002 : XC 103 34 Z6n 24 Zdi Zz3 := Zb (by rfl) _
theorem ZZO : XQ 103 34 Z70 Ze4 Z6n := Z0 (by rfl) _
theorem Z01U : XQ 103 34 Z7v Ze0 Z70 := Z0 (by rfl) _
theorem ZXi : execA E C (fg 103) B 34 E0 N Zd0 s = blockX 3 (fun s => (forget s.1 [24], s.2)) (execA E C (fg 103) B 34 E0 N Z7v s) := Zf (by rfl) (by rfl) s
def ZdG := kR Z6N
def Z3A := kO ZdG
def ZeO := opN Z3A 0
def ZfL := opN Z3A 1
theorem ZT3 : XG 103 34 ZdG Z3A [31] := Z1 (by rfl) (by rfl) _
theorem ZHV : Z3A.toList = [ZeO, ZfL] := nf
theorem ZFo : stepA E C B 34 Z3A ZeO (φ, H) = stp (some 31) φ H (just (aBin E.T .add 3 (fget φ 18) (.int .i64 1))) := nf
theorem ZIa : stepA E C B 34 Z3A ZfL (φ, H) = some (fput φ 18 (fget φ 31), H) := nf
theorem ZYa : XQ 103 34 Z6N Zd0 ZdG := Z0 (by rfl) _
theorem Z02f : XQ 103 34 Z6m Z6D Z6N := Z0 (by rfl) _
theorem ZSx : XQ 103 34 Z3t Zdm Z6m := Z0 (by rfl) _
theorem ZVE : execA E C (fg 103) B 34 E0 N ZcS s = iterA (execA E C (fg 103) B 34 E0 N Z3t) (headA E0) N s := ZM (by rfl) s
theorem Z00n : execA E C (fg 103) B 34 E0 N Zd5 s = blockX 2 (fun s => (forget s.1 [6, 16, 17, 18, 19], s.2)) (execA E C (fg 103) B 34 E0 N ZcS s) := Zf (by rfl) (by rfl) s
theorem ZXP : XQ 103 34 Z7l Zds Zd5 := Z0 (by rfl) _
theorem ZWF : XQ 103 34 Z6K ZcT Z7l := Z0 (by rfl) _
theorem Z01L : execA E C (fg 103) B 34 E0 N ZdI s = blockX 1 (fun s => (forget s.1 [], s.2)) (execA E C (fg 103) B 34 E0 N Z6K s) := Zf (by rfl) (by rfl) s
def ZdV := kR Z6V
def Z3v := kO ZdV
def ZfW := opN Z3v 0
def ZeG := opN Z3v 1
theorem ZTr : XG 103 34 ZdV Z3v [32] := Z1 (by rfl) (by rfl) _
theorem ZDB : Z3v.toList = [ZfW, ZeG] := nf
theorem ZDV : stepA E C B 34 Z3v ZfW (φ, H) = stp (some 32) φ H (just (aBin E.T .add 3 (fget φ 13) (.int .i64 1))) := nf
theorem ZGC : stepA E C B 34 Z3v ZeG (φ, H) = some (fput φ 13 (fget φ 32), H) := nf
theorem Z00Z : XQ 103 34 Z6V ZdI ZdV := Z0 (by rfl) _
theorem Z01m : XQ 103 34 Z7G Z7c Z6V := Z0 (by rfl) _
theorem Z0d9 : XQ 103 34 Z4F Zdn Z7G := Z0 (by rfl) _
theorem Z07G : execA E C (fg 103) B 34 E0 N ZoZ s = iterA (execA E C (fg 103) B 34 E0 N Z4F) (headA E0) N s := ZM (by rfl) s
theorem Z0ea : execA E C (fg 103) B 34 E0 N ZjP s = blockX 0 (fun s => (forget s.1 [0, 12, 13, 14], s.2)) (execA E C (fg 103) B 34 E0 N ZoZ s) := Zf (by rfl) (by rfl) s
theorem Z06Z : XQ 103 34 Zas Zp4 ZjP := Z0 (by rfl) _
def Z7z := kR ZaX
def ZcW := kL Z7z
def Z3z := kO ZcW
def Zfv := opN Z3z 0
def ZeF := opN Z3z 1
theorem Z04Q : XG 103 34 ZcW Z3z [5, 33] := Z1 (by rfl) (by rfl) _
theorem ZHf : Z3z.toList = [Zfv, ZeF] := nf
theorem ZIY : stepA E C B 34 Z3z Zfv (φ, H) = some (fput φ 33 (fget φ 5), H) := nf
theorem ZEh : stepA E C B 34 Z3z ZeF (φ, H) = some (fput φ 4 (fget φ 33), H) := nf
def Zvc := kR Z7z
theorem Z039 : execA E C (fg 103) B 34 E0 N Zvc s = some (.ret, s) := Zj (by rfl) s
theorem ZXO : XQ 103 34 Z7z ZcW Zvc := Z0 (by rfl) _
theorem Z08k : XQ 103 34 ZaX Zas Z7z := Z0 (by rfl) _
theorem Z0aL : XQ 103 34 ZbN Zm0 ZaX := Z0 (by rfl) _
theorem Z0e1 : XQ 103 34 Z5Z Zjp ZbN := Z0 (by rfl) _
theorem Z0cG : fInfo E 103 = some ⟨34, #[.tmp 4], Z5Z⟩ := nf
theorem Z0gA (args : List AV) : bodyA E C fg N 103 args H B = bodyX E [.tmp 4] (execA E C (fg 103) B 34 H N Z5Z (Z4 args 0 [], H)) := Zq Z0cG args H
abbrev Z7I := And.intro (And.intro (And.intro (And.intro (And.intro (And.intro @Z07B @ZPx) (And.intro @ZQk (And.intro @Z09h @ZMD))) (And.intro (And.intro @ZR1 (And.intro @ZPT @ZKS)) (And.intro @Z07b (And.intro @ZO2 @ZN9)))) (And.intro (And.intro (And.intro @ZOb @ZJo) (And.intro @Z04j (And.intro @ZLH @ZPj))) (And.intro (And.intro @Z02d (And.intro @ZSi @Z04t)) (And.intro @ZV2 (And.intro @ZPa @ZQl))))) (And.intro (And.intro (And.intro (And.intro @ZQg @ZSX) (And.intro @ZOZ (And.intro @ZLe @ZKF))) (And.intro (And.intro @ZLc (And.intro @Z03G @ZPA)) (And.intro @ZPN (And.intro @ZW6 @Z04p)))) (And.intro (And.intro (And.intro @Z03y (And.intro @ZYM @ZOR)) (And.intro @ZQA (And.intro @ZNG @ZQv))) (And.intro (And.intro @ZYz (And.intro @ZQ4 @ZOG)) (And.intro @ZMY (And.intro @ZQD @ZXz)))))) (And.intro (And.intro (And.intro (And.intro (And.intro @ZOo @ZPM) (And.intro @ZKW (And.intro @ZN1 @ZP9))) (And.intro (And.intro @ZNX (And.intro @ZRg @ZL5)) (And.intro @Z05j (And.intro @Z002 @ZZO)))) (And.intro (And.intro (And.intro @Z01U @ZXi) (And.intro @ZT3 (And.intro @ZHV @ZFo))) (And.intro (And.intro @ZIa (And.intro @ZYa @Z02f)) (And.intro @ZSx (And.intro @ZVE @Z00n))))) (And.intro (And.intro (And.intro (And.intro @ZXP @ZWF) (And.intro @Z01L (And.intro @ZTr @ZDB))) (And.intro (And.intro @ZDV (And.intro @ZGC @Z00Z)) (And.intro @Z01m (And.intro @Z0d9 @Z07G)))) (And.intro (And.intro (And.intro @Z0ea (And.intro @Z06Z @Z04Q)) (And.intro @ZHf (And.intro @ZIY @ZEh))) (And.intro (And.intro @Z039 (And.intro @ZXO @Z08k)) (And.intro @Z0aL (And.intro @Z0e1 @Z0gA))))))
def Z5R := kBody Proofs.Try.f101
def Zph := kL Z5R
def Zb2 := kO Zph
def Zmf := opN Zb2 0
theorem Z0bE : XG 101 44 Zph Zb2 [4] := Z1 (by rfl) (by rfl) _
theorem ZNv : Zb2.toList = [Zmf] := nf
theorem ZN4 : stepA E C B 44 Zb2 Zmf (φ, H) = some (fput φ 4 (.nilsl), H) := nf
def Z9n := kR Z5R
def Zqu := kL Z9n
def Z0D := kO Zqu
def Zmh := opN Z0D 0
def Zkd := opN Z0D 1
def ZnI := opN Z0D 2
def ZkU := opN Z0D 3
def ZoD := opN Z0D 4
def Zj8 := opN Z0D 5
theorem Z0cQ : XG 101 44 Zqu Z0D [1, 9, 10, 11, 12] := Z1 (by rfl) (by rfl) _
theorem ZLv : Z0D.toList = [Zmh, Zkd, ZnI, ZkU, ZoD, Zj8] := nf
theorem ZMg : stepA E C B 44 Z0D Zmh (φ, H) = some (fput φ 9 (fget φ 0), H) := nf
theorem ZJQ : stepA E C B 44 Z0D Zkd (φ, H) = stp (some 10) φ H (aCall C (fun j => B + j * 44 + 10) true 79 [(fget φ 9)]) := nf
theorem ZJP : stepA E C B 44 Z0D ZnI (φ, H) = some (fput φ 11 (fget φ 1), H) := nf
theorem ZKm : stepA E C B 44 Z0D ZkU (φ, H) = stp (some 12) φ H (aCall C (fun j => B + j * 44 + 12) true 79 [(fget φ 11)]) := nf
theorem ZOy : stepA E C B 44 Z0D ZoD (φ, H) = some (fput φ 5 (fget φ 10), H) := nf
theorem ZKE : stepA E C B 44 Z0D Zj8 (φ, H) = some (fput φ 6 (fget φ 12), H) := nf
def ZbX := kR Z9n
def Zqg := kL ZbX
def Zam := kO Zqg
def Znn := opN Zam 0
theorem Z0dt : XG 101 44 Zqg Zam [] := Z1 (by rfl) (by rfl) _
theorem ZLs : Zam.toList = [Znn] := nf
theorem ZMX : stepA E C B 44 Zam Znn (φ, H) = some (fput φ 7 (.nilsl), H) := nf
def ZbA := kR ZbX
def Z9D := kL ZbA
def ZqW := kL Z9D
def Z2S := kO ZqW
def ZkE := opN Z2S 0
def Zmd := opN Z2S 1
def Zk1 := opN Z2S 2
theorem Z0dS : XG 101 44 ZqW Z2S [0, 13] := Z1 (by rfl) (by rfl) _
theorem ZNc : Z2S.toList = [ZkE, Zmd, Zk1] := nf
theorem ZJG : stepA E C B 44 Z2S ZkE (φ, H) = some (fput φ 13 (fget φ 0), H) := nf
theorem ZNW : stepA E C B 44 Z2S Zmd (φ, H) = stp (some 14) φ H (Z2 E.T (B + 14) .len #[22] [(fget φ 13)]) := nf
theorem ZKr : stepA E C B 44 Z2S Zk1 (φ, H) = some (fput φ 15 (.int .i64 0), H) := nf
def ZiV := kR Z9D
def Zd1 := kB ZiV
def Z3u := kB Zd1
def ZdR := kL Z3u
def Z9V := kO ZdR
def Zn6 := opN Z9V 0
theorem Z05N : XG 101 44 ZdR Z9V [] := Z1 (by rfl) (by rfl) _
theorem ZQp : Z9V.toList = [Zn6] := nf
theorem ZKy : stepA E C B 44 Z9V Zn6 (φ, H) = stp (some 16) φ H (just (aBin E.T .lss 3 (fget φ 15) (fget φ 14))) := nf
def Z7s := kR Z3u
def Z71 := kL Z7s
def Zu0 := kT Z71
theorem ZX0 : execA E C (fg 101) B 44 E0 N Zu0 s = some (.normal, s) := Ze (by rfl) s
def ZwJ := kE Z71
theorem ZUC : execA E C (fg 101) B 44 E0 N ZwJ s = some (.exit 0, s) := ZL (by rfl) s
theorem Z03W : XC 101 44 Z71 16 Zu0 ZwJ := Zb (by rfl) _
def Z6X := kR Z7s
def Ze1 := kL Z6X
def Z6T := kB Ze1
def Zdh := kL Z6T
def Z4X := kO Zdh
def Zr0 := opN Z4X 0
def ZlD := opN Z4X 1
theorem ZZh : XG 101 44 Zdh Z4X [16, 17] := Z1 (by rfl) (by rfl) _
theorem ZR0 : Z4X.toList = [Zr0, ZlD] := nf
theorem ZKA : stepA E C B 44 Z4X Zr0 (φ, H) = some (fput φ 17 (fget φ 15), H) := nf
theorem ZKn : stepA E C B 44 Z4X ZlD (φ, H) = some (fput φ 8 (fget φ 17), H) := nf
def ZdB := kR Z6T
def Zd := kO ZdB
def Zo3 := opN Zd 0
def ZjL := opN Zd 1
def ZlQ := opN Zd 2
def Zlb := opN Zd 3
def ZpR := opN Zd 4
def Zog := opN Zd 5
def Zrt := opN Zd 6
def ZjU := opN Zd 7
def Zou := opN Zd 8
def Zpo := opN Zd 9
def ZeK := opN Zd 10
def Zfl := opN Zd 11
def Zfq := opN Zd 12
def ZfG := opN Zd 13
def Zek := opN Zd 14
def Zg8 := opN Zd 15
def Zfk := opN Zd 16
def Zez := opN Zd 17
def ZeX := opN Zd 18
def Zen := opN Zd 19
def ZeI := opN Zd 20
def ZfX := opN Zd 21
def Zeb := opN Zd 22
def Zfr := opN Zd 23
def Zff := opN Zd 24
theorem ZSG : XD 101 44 ZdB Zd [8, 18, 19, 20, 21, 22, 23, 24, 25, 26, 27, 28, 29, 30, 31, 32, 33, 34, 35, 36, 37, 38, 39, 40, 41] := Z3I (by rfl) (by rfl) _
theorem ZLT : Zd.toList = [Zo3, ZjL, ZlQ, Zlb, ZpR, Zog, Zrt, ZjU, Zou, Zpo, ZeK, Zfl, Zfq, ZfG, Zek, Zg8, Zfk, Zez, ZeX, Zen, ZeI, ZfX, Zeb, Zfr, Zff] := nf
theorem ZDQ : statOk Zd = true := by kernel_rfl
theorem ZGb : drawA E C B 44 Zd s = if neat 44 s = true then drX Zd (runT E C B 44 Zd Zd.toList 0 s) else none := Z2e ZDQ s
theorem ZEe (l : List (Nat × Tr)) : dynOk Zd l = (!writing l || Zo [[], [], [], [2], [1, 2, 3], [1, 2, 3, 4], [], [], [7], [6, 7, 8], [6, 7, 8, 9], [1, 2, 3, 4, 5, 6, 7, 8, 9, 10], [], [], [12, 13], [12, 13, 14], [], [], [16, 17], [16, 17, 18], [12, 13, 14, 15, 16, 17, 18, 19], [1, 2, 3, 4, 5, 6, 7, 8, 9, 10, 11, 12, 13, 14, 15, 16, 17, 18, 19, 20], [1, 2, 3, 4, 5, 6, 7, 8, 9, 10, 11, 12, 13, 14, 15, 16, 17, 18, 19, 20, 21], [0, 1, 2, 3, 4, 5, 6, 7, 8, 9, 10, 11, 12, 13, 14, 15, 16, 17, 18, 19, 20, 21, 22], [0, 1, 2, 3, 4, 5, 6, 7, 8, 9, 10, 11, 12, 13, 14, 15, 16, 17, 18, 19, 20, 21, 22, 23]] (Zm l)) := Z1P (by kernel_rfl) l
theorem ZMZ : stepT E C B 44 Zd Zo3 (φ, H) = some ((fput φ 18 (fget φ 7), H), ⟨false, [], []⟩) := Z9 rfl (Zh rfl rfl)
theorem ZNd : stepT E C B 44 Zd ZjL (φ, H) = some ((fput φ 19 (fget φ 5), H), ⟨false, [], []⟩) := Z9 rfl (Zh rfl rfl)
theorem ZNF : stepT E C B 44 Zd ZlQ (φ, H) = some ((fput φ 20 (fget φ 8), H), ⟨false, [], []⟩) := Z9 rfl (Zh rfl rfl)
theorem ZKD : stepT E C B 44 Zd Zlb (φ, H) = stpT (some 21) φ H (just (aBin E.T .add 3 (fget φ 20) (.int .i64 1))) := Z9 rfl (Zi rfl rfl)
theorem ZQt : stepT E C B 44 Zd ZpR (φ, H) = stpT (some 22) φ H (just (Z3 E.T 22 (fget φ 19) (fget φ 21))) := Z9 rfl (Zi rfl rfl)
theorem ZJS : stepT E C B 44 Zd Zog (φ, H) = stpT (some 23) φ H (just (aLoad E.T 3 (fget φ 22))) := Z9 rfl (Zi rfl rfl)
theorem ZMp : stepT E C B 44 Zd Zrt (φ, H) = some ((fput φ 24 (fget φ 6), H), ⟨false, [], []⟩) := Z9 rfl (Zh rfl rfl)
theorem ZJA : stepT E C B 44 Zd ZjU (φ, H) = some ((fput φ 25 (fget φ 8), H), ⟨false, [], []⟩) := Z9 rfl (Zh rfl rfl)
theorem ZLx : stepT E C B 44 Zd Zou (φ, H) = stpT (some 26) φ H (just (aBin E.T .add 3 (fget φ 25) (.int .i64 1))) := Z9 rfl (Zi rfl rfl)
theorem ZQN : stepT E C B 44 Zd Zpo (φ, H) = stpT (some 27) φ H (just (Z3 E.T 22 (fget φ 24) (fget φ 26))) := Z9 rfl (Zi rfl rfl)
theorem ZF5 : stepT E C B 44 Zd ZeK (φ, H) = stpT (some 28) φ H (just (aLoad E.T 3 (fget φ 27))) := Z9 rfl (Zi rfl rfl)
theorem ZEO : stepT E C B 44 Zd Zfl (φ, H) = stpT (some 29) φ H (Z2 E.T (B + 29) .min #[3, 3] [(fget φ 23), (fget φ 28)]) := Z9 rfl (Zi rfl rfl)
theorem ZIF : stepT E C B 44 Zd Zfq (φ, H) = some ((fput φ 30 (fget φ 5), H), ⟨false, [], []⟩) := Z9 rfl (Zh rfl rfl)
theorem ZEs : stepT E C B 44 Zd ZfG (φ, H) = some ((fput φ 31 (fget φ 8), H), ⟨false, [], []⟩) := Z9 rfl (Zh rfl rfl)
theorem ZIu : stepT E C B 44 Zd Zek (φ, H) = stpT (some 32) φ H (just (Z3 E.T 22 (fget φ 30) (fget φ 31))) := Z9 rfl (Zi rfl rfl)
theorem ZHC : stepT E C B 44 Zd Zg8 (φ, H) = stpT (some 33) φ H (just (aLoad E.T 3 (fget φ 32))) := Z9 rfl (Zi rfl rfl)
theorem ZEj : stepT E C B 44 Zd Zfk (φ, H) = some ((fput φ 34 (fget φ 6), H), ⟨false, [], []⟩) := Z9 rfl (Zh rfl rfl)
theorem ZIB : stepT E C B 44 Zd Zez (φ, H) = some ((fput φ 35 (fget φ 8), H), ⟨false, [], []⟩) := Z9 rfl (Zh rfl rfl)
theorem ZEH : stepT E C B 44 Zd ZeX (φ, H) = stpT (some 36) φ H (just (Z3 E.T 22 (fget φ 34) (fget φ 35))) := Z9 rfl (Zi rfl rfl)
theorem ZDw : stepT E C B 44 Zd Zen (φ, H) = stpT (some 37) φ H (just (aLoad E.T 3 (fget φ 36))) := Z9 rfl (Zi rfl rfl)
theorem ZHK : stepT E C B 44 Zd ZeI (φ, H) = stpT (some 38) φ H (Z2 E.T (B + 38) .min #[3, 3] [(fget φ 33), (fget φ 37)]) := Z9 rfl (Zi rfl rfl)
theorem ZEl : stepT E C B 44 Zd ZfX (φ, H) = stpT (some 39) φ H (just (aBin E.T .sub 3 (fget φ 29) (fget φ 38))) := Z9 rfl (Zi rfl rfl)
theorem ZGK : stepT E C B 44 Zd Zeb (φ, H) = stpT (some 40) φ H (Z8 E.T (B + 40) 22 1 (evO E φ) [(0, Operand.tmp 39)]) := Z9 rfl (Zi rfl rfl)
theorem ZGA : stepT E C B 44 Zd Zfr (φ, H) = stpT (some 41) φ H (Z2 E.T (B + 41) .append #[22, 22] [(fget φ 18), (fget φ 40)]) := Z9 rfl (Zi rfl rfl)
theorem ZEd : stepT E C B 44 Zd Zff (φ, H) = some ((fput φ 7 (fget φ 41), H), ⟨false, [], []⟩) := Z9 rfl (Zh rfl rfl)
theorem ZYe : XQ 101 44 Z6T Zdh ZdB := Z0 (by rfl) _
theorem Z04Z : execA E C (fg 101) B 44 E0 N Ze1 s = blockX 1 (fun s => (forget s.1 [], s.2)) (execA E C (fg 101) B 44 E0 N Z6T s) := Zf (by rfl) (by rfl) s
def Ze3 := kR Z6X
def Z4G := kO Ze3
def Zra := opN Z4G 0
def ZnD := opN Z4G 1
theorem ZU4 : XG 101 44 Ze3 Z4G [42] := Z1 (by rfl) (by rfl) _
theorem ZQu : Z4G.toList = [Zra, ZnD] := nf
theorem ZOc : stepA E C B 44 Z4G Zra (φ, H) = stp (some 42) φ H (just (aBin E.T .add 3 (fget φ 15) (.int .i64 1))) := nf
theorem ZKO : stepA E C B 44 Z4G ZnD (φ, H) = some (fput φ 15 (fget φ 42), H) := nf
theorem ZXc : XQ 101 44 Z6X Ze1 Ze3 := Z0 (by rfl) _
theorem ZVC : XQ 101 44 Z7s Z71 Z6X := Z0 (by rfl) _
theorem ZWt : XQ 101 44 Z3u ZdR Z7s := Z0 (by rfl) _
theorem ZWg : execA E C (fg 101) B 44 E0 N Zd1 s = iterA (execA E C (fg 101) B 44 E0 N Z3u) (headA E0) N s := ZM (by rfl) s
theorem Z0bI : execA E C (fg 101) B 44 E0 N ZiV s = blockX 0 (fun s => (forget s.1 [5, 6, 14, 15, 16], s.2)) (execA E C (fg 101) B 44 E0 N Zd1 s) := Zf (by rfl) (by rfl) s
theorem Z0cx : XQ 101 44 Z9D ZqW ZiV := Z0 (by rfl) _
def Z7B := kR ZbA
def Zdz := kL Z7B
def Z57 := kO Zdz
def ZiS := opN Z57 0
def ZkL := opN Z57 1
theorem ZVV : XG 101 44 Zdz Z57 [7, 43] := Z1 (by rfl) (by rfl) _
theorem ZR8 : Z57.toList = [ZiS, ZkL] := nf
theorem ZNz : stepA E C B 44 Z57 ZiS (φ, H) = some (fput φ 43 (fget φ 7), H) := nf
theorem ZPy : stepA E C B 44 Z57 ZkL (φ, H) = some (fput φ 4 (fget φ 43), H) := nf
def ZyO := kR Z7B
theorem ZXn : execA E C (fg 101) B 44 E0 N ZyO s = some (.ret, s) := Zj (by rfl) s
theorem Z035 : XQ 101 44 Z7B Zdz ZyO := Z0 (by rfl) _
theorem Z0ds : XQ 101 44 ZbA Z9D Z7B := Z0 (by rfl) _
theorem Z0bm : XQ 101 44 ZbX Zqg ZbA := Z0 (by rfl) _
theorem Z0dB : XQ 101 44 Z9n Zqu ZbX := Z0 (by rfl) _
theorem Z0dN : XQ 101 44 Z5R Zph Z9n := Z0 (by rfl) _
theorem Z07R : fInfo E 101 = some ⟨44, #[.tmp 4], Z5R⟩ := nf
theorem Z0iM (args : List AV) : bodyA E C fg N 101 args H B = bodyX E [.tmp 4] (execA E C (fg 101) B 44 H N Z5R (Z4 args 0 [], H)) := Zq Z07R args H
abbrev Zil := And.intro (And.intro (And.intro (And.intro (And.intro (And.intro @Z0bE @ZNv) (And.intro @ZN4 (And.intro @Z0cQ @ZLv))) (And.intro (And.intro @ZMg @ZJQ) (And.intro @ZJP (And.intro @ZKm @ZOy)))) (And.intro (And.intro (And.intro @ZKE @Z0dt) (And.intro @ZLs (And.intro @ZMX @Z0dS))) (And.intro (And.intro @ZNc @ZJG) (And.intro @ZNW (And.intro @ZKr @Z05N))))) (And.intro (And.intro (And.intro (And.intro @ZQp @ZKy) (And.intro @ZX0 (And.intro @ZUC @Z03W))) (And.intro (And.intro @ZZh @ZR0) (And.intro @ZKA (And.intro @ZKn @ZSG)))) (And.intro (And.intro (And.intro @ZLT @ZGb) (And.intro @ZEe (And.intro @ZMZ @ZNd))) (And.intro (And.intro @ZNF @ZKD) (And.intro @ZQt (And.intro @ZJS @ZMp)))))) (And.intro (And.intro (And.intro (And.intro (And.intro @ZJA @ZLx) (And.intro @ZQN (And.intro @ZF5 @ZEO))) (And.intro (And.intro @ZIF @ZEs) (And.intro @ZIu (And.intro @ZHC @ZEj)))) (And.intro (And.intro (And.intro @ZIB @ZEH) (And.intro @ZDw (And.intro @ZHK @ZEl))) (And.intro (And.intro @ZGK @ZGA) (And.intro @ZEd (And.intro @ZYe @Z04Z))))) (And.intro (And.intro (And.intro (And.intro @ZU4 @ZQu) (And.intro @ZOc (And.intro @ZKO @ZXc))) (And.intro (And.intro @ZVC @ZWt) (And.intro @ZWg (And.intro @Z0bI @Z0cx)))) (And.intro (And.intro (And.intro @ZVV @ZR8) (And.intro @ZNz (And.intro @ZPy @ZXn))) (And.intro (And.intro @Z035 (And.intro @Z0ds @Z0bm)) (And.intro @Z0dB (And.intro @Z0dN @Z0iM))))))
def Zcj := kBody Proofs.Try.f46
def ZBq := kL Zcj
def Z6t := kO ZBq
def Zs0 := opN Z6t 0
def Zyg := opN Z6t 1
theorem Z0j2 : XG 46 22 ZBq Z6t [4, 5] := Z1 (by rfl) (by rfl) _
theorem ZZu : Z6t.toList = [Zs0, Zyg] := nf
theorem ZTw : stepA E C B 22 Z6t Zs0 (φ, H) = some (fput φ 4 (.nilsl), H) := nf
theorem ZWC : stepA E C B 22 Z6t Zyg (φ, H) = some (fput φ 5 (.int .i64 0), H) := nf
def ZhR := kR Zcj
def ZhU := kL ZhR
def ZD2 := kL ZhU
def Z01 := kO ZD2
def ZxM := opN Z01 0
def Zs6 := opN Z01 1
def ZrS := opN Z01 2
def Zxq := opN Z01 3
def ZAW := opN Z01 4
def Zy6 := opN Z01 5
def Zsm := opN Z01 6
def Zuw := opN Z01 7
def ZvE := opN Z01 8
def ZB9 := opN Z01 9
theorem Z0iB : XG 46 22 ZD2 Z01 [6, 7, 9, 10, 11, 12, 13, 14, 15] := Z1 (by rfl) (by rfl) _
theorem ZXy : Z01.toList = [ZxM, Zs6, ZrS, Zxq, ZAW, Zy6, Zsm, Zuw, ZvE, ZB9] := nf
theorem ZVx : stepA E C B 22 Z01 ZxM (φ, H) = some (fput φ 10 (fget φ 0), H) := nf
theorem Z05S : stepA E C B 22 Z01 Zs6 (φ, H) = some (fput φ 11 (fget φ 1), H) := nf
theorem Z04a : stepA E C B 22 Z01 ZrS (φ, H) = stp (some 12) φ H (aCall C (fun j => B + j * 22 + 12) true 85 [(fget φ 10), (fget φ 11)]) := nf
theorem Z02J : stepA E C B 22 Z01 Zxq (φ, H) = some (fput φ 9 (fget φ 12), H) := nf
theorem ZUf : stepA E C B 22 Z01 ZAW (φ, H) = stp (some 13) φ H (Zc (fget φ 9) 0) := nf
theorem ZXT : stepA E C B 22 Z01 Zy6 (φ, H) = stp (some 14) φ H (Zc (fget φ 9) 1) := nf
theorem ZZy : stepA E C B 22 Z01 Zsm (φ, H) = stp (some 15) φ H (Zc (fget φ 9) 2) := nf
theorem ZWf : stepA E C B 22 Z01 Zuw (φ, H) = some (fput φ 6 (fget φ 13), H) := nf
theorem Z04u : stepA E C B 22 Z01 ZvE (φ, H) = some (fput φ 7 (fget φ 14), H) := nf
theorem ZW3 : stepA E C B 22 Z01 ZB9 (φ, H) = some (fput φ 8 (fget φ 15), H) := nf
def ZgD := kR ZhU
def ZBL := kL ZgD
def Z6z := kO ZBL
def Zwo := opN Z6z 0
def Zzq := opN Z6z 1
theorem Z0g4 : XG 46 22 ZBL Z6z [16] := Z1 (by rfl) (by rfl) _
theorem Z03I : Z6z.toList = [Zwo, Zzq] := nf
theorem Z038 : stepA E C B 22 Z6z Zwo (φ, H) = some (fput φ 16 (fget φ 8), H) := nf
theorem Z02r : stepA E C B 22 Z6z Zzq (φ, H) = stp (some 17) φ H (just (aBin E.T .neq 24 (fget φ 16) (.int .i64 0))) := nf
def Zik := kR ZgD
def Zhe := kT Zik
def ZBT := kL Zhe
def Z44 := kO ZBT
def Zyn := opN Z44 0
def ZxR := opN Z44 1
def Zsk := opN Z44 2
theorem Z0gG : XG 46 22 ZBT Z44 [0, 1, 8, 17, 18] := Z1 (by rfl) (by rfl) _
theorem Z00N : Z44.toList = [Zyn, ZxR, Zsk] := nf
theorem Z04m : stepA E C B 22 Z44 Zyn (φ, H) = some (fput φ 18 (fget φ 8), H) := nf
theorem ZUF : stepA E C B 22 Z44 ZxR (φ, H) = some (fput φ 4 (.nilsl), H) := nf
theorem ZXZ : stepA E C B 22 Z44 Zsk (φ, H) = some (fput φ 5 (fget φ 18), H) := nf
def ZDK := kR Zhe
theorem Z0dy : execA E C (fg 46) B 22 E0 N ZDK s = some (.ret, s) := Zj (by rfl) s
theorem Z0gq : XQ 46 22 Zhe ZBT ZDK := Z0 (by rfl) _
def ZEW := kE Zik
theorem Z0cO : execA E C (fg 46) B 22 E0 N ZEW s = some (.normal, s) := Ze (by rfl) s
theorem Z0gf : XC 46 22 Zik 17 Zhe ZEW := Zb (by rfl) _
theorem Z0iw : XQ 46 22 ZgD ZBL Zik := Z0 (by rfl) _
theorem Z0hG : XQ 46 22 ZhU ZD2 ZgD := Z0 (by rfl) _
def Zav := kR ZhR
def ZnZ := kL Zav
def Z1L := kO ZnZ
def ZxC := opN Z1L 0
def ZvV := opN Z1L 1
def Zzn := opN Z1L 2
def ZzD := opN Z1L 3
def ZAs := opN Z1L 4
theorem Z0dL : XG 46 22 ZnZ Z1L [0, 1, 8, 17, 19, 20, 21] := Z1 (by rfl) (by rfl) _
theorem Z02u : Z1L.toList = [ZxC, ZvV, Zzn, ZzD, ZAs] := nf
theorem ZYp : stepA E C B 22 Z1L ZxC (φ, H) = some (fput φ 19 (fget φ 0), H) := nf
theorem ZVU : stepA E C B 22 Z1L ZvV (φ, H) = some (fput φ 20 (fget φ 1), H) := nf
theorem ZV7 : stepA E C B 22 Z1L Zzn (φ, H) = stp (some 21) φ H (aCall C (fun j => B + j * 22 + 21) true 101 [(fget φ 19), (fget φ 20)]) := nf
theorem ZSA : stepA E C B 22 Z1L ZzD (φ, H) = some (fput φ 4 (fget φ 21), H) := nf
theorem Z03x : stepA E C B 22 Z1L ZAs (φ, H) = some (fput φ 5 (.int .i64 0), H) := nf
def ZJ2 := kR Zav
theorem Z09X : execA E C (fg 46) B 22 E0 N ZJ2 s = some (.ret, s) := Zj (by rfl) s
theorem Z0cE : XQ 46 22 Zav ZnZ ZJ2 := Z0 (by rfl) _
theorem Z0gC : XQ 46 22 ZhR ZhU Zav := Z0 (by rfl) _
theorem Z0ki : XQ 46 22 Zcj ZBq ZhR := Z0 (by rfl) _
theorem Z0hs : fInfo E 46 = some ⟨22, #[.tmp 4, .tmp 5], Zcj⟩ := nf
theorem b_46 (args : List AV) : bodyA E C fg N 46 args H B = bodyX E [.tmp 4, .tmp 5] (execA E C (fg 46) B 22 H N Zcj (Z4 args 0 [], H)) := Zq Z0hs args H
abbrev F_46 := And.intro (And.intro (And.intro (And.intro (And.intro @Z0j2 @ZZu) (And.intro @ZTw (And.intro @ZWC @Z0iB))) (And.intro (And.intro @ZXy @ZVx) (And.intro @Z05S (And.intro @Z04a @Z02J)))) (And.intro (And.intro (And.intro @ZUf @ZXT) (And.intro @ZZy (And.intro @ZWf @Z04u))) (And.intro (And.intro @ZW3 (And.intro @Z0g4 @Z03I)) (And.intro @Z038 (And.intro @Z02r @Z0gG))))) (And.intro (And.intro (And.intro (And.intro @Z00N @Z04m) (And.intro @ZUF (And.intro @ZXZ @Z0dy))) (And.intro (And.intro @Z0gq (And.intro @Z0cO @Z0gf)) (And.intro @Z0iw (And.intro @Z0hG @Z0dL)))) (And.intro (And.intro (And.intro @Z02u @ZYp) (And.intro @ZVU (And.intro @ZV7 @ZSA))) (And.intro (And.intro @Z03x (And.intro @Z09X @Z0cE)) (And.intro @Z0gC (And.intro @Z0ki @b_46)))))
def Zcc := kBody Proofs.Try.f48
def ZD6 := kL Zcc
def Z6y := kO ZD6
def Zvw := opN Z6y 0
def Zs2 := opN Z6y 1
theorem Z0jv : XG 48 27 ZD6 Z6y [4, 5] := Z1 (by rfl) (by rfl) _
theorem ZWw : Z6y.toList = [Zvw, Zs2] := nf
theorem Z041 : stepA E C B 27 Z6y Zvw (φ, H) = some (fput φ 4 (.nilsl), H) := nf
theorem ZUv : stepA E C B 27 Z6y Zs2 (φ, H) = some (fput φ 5 (.int .i64 0), H) := nf
def Zig := kR Zcc
def Zhk := kL Zig
def ZCN := kL Zhk
def Z05 := kO ZCN
def ZzW := opN Z05 0
def Zuz := opN Z05 1
def ZvU := opN Z05 2
def Zy5 := opN Z05 3
def ZsN := opN Z05 4
def ZsW := opN Z05 5
def ZAd := opN Z05 6
def Ztt := opN Z05 7
def ZyM := opN Z05 8
def ZvL := opN Z05 9
theorem Z0fX : XG 48 27 ZCN Z05 [6, 7, 9, 10, 11, 12, 13, 14, 15] := Z1 (by rfl) (by rfl) _
theorem ZVG : Z05.toList = [ZzW, Zuz, ZvU, Zy5, ZsN, ZsW, ZAd, Ztt, ZyM, ZvL] := nf
theorem Z03q : stepA E C B 27 Z05 ZzW (φ, H) = some (fput φ 10 (fget φ 0), H) := nf
theorem ZZM : stepA E C B 27 Z05 Zuz (φ, H) = some (fput φ 11 (fget φ 1), H) := nf
theorem ZT7 : stepA E C B 27 Z05 ZvU (φ, H) = stp (some 12) φ H (aCall C (fun j => B + j * 27 + 12) true 85 [(fget φ 10), (fget φ 11)]) := nf
theorem ZZD : stepA E C B 27 Z05 Zy5 (φ, H) = some (fput φ 9 (fget φ 12), H) := nf
theorem ZUg : stepA E C B 27 Z05 ZsN (φ, H) = stp (some 13) φ H (Zc (fget φ 9) 0) := nf
theorem Z05D : stepA E C B 27 Z05 ZsW (φ, H) = stp (some 14) φ H (Zc (fget φ 9) 1) := nf
theorem ZZU : stepA E C B 27 Z05 ZAd (φ, H) = stp (some 15) φ H (Zc (fget φ 9) 2) := nf
theorem ZUo : stepA E C B 27 Z05 Ztt (φ, H) = some (fput φ 6 (fget φ 13), H) := nf
theorem ZUm : stepA E C B 27 Z05 ZyM (φ, H) = some (fput φ 7 (fget φ 14), H) := nf
theorem Z00M : stepA E C B 27 Z05 ZvL (φ, H) = some (fput φ 8 (fget φ 15), H) := nf
def Zhq := kR Zhk
def ZCy := kL Zhq
def Z6b := kO ZCy
def Zup := opN Z6b 0
def Zu2 := opN Z6b 1
theorem Z0fY : XG 48 27 ZCy Z6b [16] := Z1 (by rfl) (by rfl) _
theorem ZYK : Z6b.toList = [Zup, Zu2] := nf
theorem Z01K : stepA E C B 27 Z6b Zup (φ, H) = some (fput φ 16 (fget φ 8), H) := nf
theorem ZZA : stepA E C B 27 Z6b Zu2 (φ, H) = stp (some 17) φ H (just (aBin E.T .neq 24 (fget φ 16) (.int .i64 0))) := nf
def ZhW := kR Zhq
def Zh5 := kT ZhW
def ZCA := kL Zh5
def Z49 := kO ZCA
def Zv9 := opN Z49 0
def ZyA := opN Z49 1
def ZzZ := opN Z49 2
theorem Z0ka : XG 48 27 ZCA Z49 [0, 1, 8, 17, 18] := Z1 (by rfl) (by rfl) _
theorem ZTk : Z49.toList = [Zv9, ZyA, ZzZ] := nf
theorem ZZH : stepA E C B 27 Z49 Zv9 (φ, H) = some (fput φ 18 (fget φ 8), H) := nf
theorem ZX6 : stepA E C B 27 Z49 ZyA (φ, H) = some (fput φ 4 (.nilsl), H) := nf
theorem ZXB : stepA E C B 27 Z49 ZzZ (φ, H) = some (fput φ 5 (fget φ 18), H) := nf
def ZIi := kR Zh5
theorem Z0ek : execA E C (fg 48) B 27 E0 N ZIi s = some (.ret, s) := Zj (by rfl) s
theorem Z0hS : XQ 48 27 Zh5 ZCA ZIi := Z0 (by rfl) _
def ZE0 := kE ZhW
theorem Z080 : execA E C (fg 48) B 27 E0 N ZE0 s = some (.normal, s) := Ze (by rfl) s
theorem Z0hb : XC 48 27 ZhW 17 Zh5 ZE0 := Zb (by rfl) _
theorem Z0gd : XQ 48 27 Zhq ZCy ZhW := Z0 (by rfl) _
theorem Z0fV : XQ 48 27 Zhk ZCN Zhq := Z0 (by rfl) _
def Z98 := kR Zig
def ZpT := kL Z98
def Z03 := kO ZpT
def Ztj := opN Z03 0
def Zzt := opN Z03 1
def ZtC := opN Z03 2
def ZwB := opN Z03 3
def Zts := opN Z03 4
def Zzb := opN Z03 5
def ZuF := opN Z03 6
def Zsb := opN Z03 7
def Zx8 := opN Z03 8
def Ztd := opN Z03 9
theorem Z06u : XG 48 27 ZpT Z03 [0, 1, 8, 17, 19, 20, 21, 22, 23, 24, 25, 26] := Z1 (by rfl) (by rfl) _
theorem Z02w : Z03.toList = [Ztj, Zzt, ZtC, ZwB, Zts, Zzb, ZuF, Zsb, Zx8, Ztd] := nf
theorem ZSk : stepA E C B 27 Z03 Ztj (φ, H) = some (fput φ 19 (fget φ 0), H) := nf
theorem ZYV : stepA E C B 27 Z03 Zzt (φ, H) = stp (some 20) φ H (aCall C (fun j => B + j * 27 + 20) true 103 [(fget φ 19), (.int .i64 8)]) := nf
theorem ZXW : stepA E C B 27 Z03 ZtC (φ, H) = some (fput φ 21 (fget φ 1), H) := nf
theorem Z05y : stepA E C B 27 Z03 ZwB (φ, H) = stp (some 22) φ H (aCall C (fun j => B + j * 27 + 22) true 103 [(fget φ 21), (.int .i64 8)]) := nf
theorem Z04O : stepA E C B 27 Z03 Zts (φ, H) = stp (some 23) φ H (aCall C (fun j => B + j * 27 + 23) true 101 [(fget φ 20), (fget φ 22)]) := nf
theorem ZVc : stepA E C B 27 Z03 Zzb (φ, H) = some (fput φ 24 (fget φ 0), H) := nf
theorem ZUj : stepA E C B 27 Z03 ZuF (φ, H) = stp (some 25) φ H (Z2 E.T (B + 25) .len #[22] [(fget φ 24)]) := nf
theorem Z04n : stepA E C B 27 Z03 Zsb (φ, H) = stp (some 26) φ H (aCall C (fun j => B + j * 27 + 26) true 103 [(fget φ 23), (fget φ 25)]) := nf
theorem ZZ7 : stepA E C B 27 Z03 Zx8 (φ, H) = some (fput φ 4 (fget φ 26), H) := nf
theorem ZTj : stepA E C B 27 Z03 Ztd (φ, H) = some (fput φ 5 (.int .i64 0), H) := nf
def ZFk := kR Z98
theorem Z0cl : execA E C (fg 48) B 27 E0 N ZFk s = some (.ret, s) := Zj (by rfl) s
theorem Z0bQ : XQ 48 27 Z98 ZpT ZFk := Z0 (by rfl) _
theorem Z0iO : XQ 48 27 Zig Zhk Z98 := Z0 (by rfl) _
theorem Z0gN : XQ 48 27 Zcc ZD6 Zig := Z0 (by rfl) _
theorem Z0iq : fInfo E 48 = some ⟨27, #[.tmp 4, .tmp 5], Zcc⟩ := nf
theorem b_48 (args : List AV) : bodyA E C fg N 48 args H B = bodyX E [.tmp 4, .tmp 5] (execA E C (fg 48) B 27 H N Zcc (Z4 args 0 [], H)) := Zq Z0iq args H
abbrev F_48 := And.intro (And.intro (And.intro (And.intro (And.intro @Z0jv (And.intro @ZWw @Z041)) (And.intro @ZUv (And.intro @Z0fX @ZVG))) (And.intro (And.intro @Z03q (And.intro @ZZM @ZT7)) (And.intro @ZZD (And.intro @ZUg @Z05D)))) (And.intro (And.intro (And.intro @ZZU (And.intro @ZUo @ZUm)) (And.intro @Z00M (And.intro @Z0fY @ZYK))) (And.intro (And.intro @Z01K (And.intro @ZZA @Z0ka)) (And.intro @ZTk (And.intro @ZZH @ZX6))))) (And.intro (And.intro (And.intro (And.intro @ZXB (And.intro @Z0ek @Z0hS)) (And.intro @Z080 (And.intro @Z0hb @Z0gd))) (And.intro (And.intro @Z0fV (And.intro @Z06u @Z02w)) (And.intro @ZSk (And.intro @ZYV @ZXW)))) (And.intro (And.intro (And.intro @Z05y (And.intro @Z04O @ZVc)) (And.intro @ZUj (And.intro @Z04n @ZZ7))) (And.intro (And.intro @ZTj (And.intro @Z0cl @Z0bQ)) (And.intro @Z0iO (And.intro @Z0gN @b_48)))))
def Z9S := kBody Proofs.Try.f50
def ZBQ := kL Z9S
def Z6Z := kO ZBQ
def ZzB := opN Z6Z 0
def Zsd := opN Z6Z 1
theorem Z0iF : XG 50 48 ZBQ Z6Z [4, 5] := Z1 (by rfl) (by rfl) _
theorem ZTS : Z6Z.toList = [ZzB, Zsd] := nf
theorem ZUD : stepA E C B 48 Z6Z ZzB (φ, H) = some (fput φ 4 (.int .i64 0), H) := nf
theorem Z02n : stepA E C B 48 Z6Z Zsd (φ, H) = some (fput φ 5 (.int .i64 0), H) := nf
def ZhA := kR Z9S
def Zhv := kL ZhA
def ZCk := kL Zhv
def Zz := kO ZCk
def Zzj := opN Zz 0
def ZvD := opN Zz 1
def Z7a := opN Zz 2
def ZuE := opN Zz 3
def Zxe := opN Zz 4
def Zyz := opN Zz 5
def Z7A := opN Zz 6
def Zw9 := opN Zz 7
def ZB8 := opN Zz 8
def ZAP := opN Zz 9
def Z2k := opN Zz 10
def ZkJ := opN Zz 11
def Zkm := opN Zz 12
def Zpe := opN Zz 13
def Zo6 := opN Zz 14
def Zmc := opN Zz 15
theorem Z0fU : XG 50 48 ZCk Zz [9, 10, 11, 12, 13, 14, 15, 16, 17, 18, 19, 20, 21, 22, 23] := Z1 (by rfl) (by rfl) _
theorem ZVg : Zz.toList = [Zzj, ZvD, Z7a, ZuE, Zxe, Zyz, Z7A, Zw9, ZB8, ZAP, Z2k, ZkJ, Zkm, Zpe, Zo6, Zmc] := nf
theorem ZSt : stepA E C B 48 Zz Zzj (φ, H) = some (fput φ 9 (fget φ 0), H) := nf
theorem ZTD : stepA E C B 48 Zz ZvD (φ, H) = stp (some 10) φ H (just (aBin E.T .lss 3 (fget φ 9) (.int .i64 1))) := nf
theorem Z058 : stepA E C B 48 Zz Z7a (φ, H) = some (fput φ 11 (fget φ 10), H) := nf
theorem ZUH : stepA E C B 48 Zz ZuE (φ, H) = gd φ 11 false (fun φ => some (fput φ 12 (.tup []), H)) (fun φ => some (fput φ 12 (fget φ 0), H)) := s_gd (j := 2) (oj := Z7a) rfl rfl rfl (fun _ => rfl) (fun _ => rfl)
theorem ZSq : stepA E C B 48 Zz Zxe (φ, H) = gd φ 11 false (fun φ => some (fput φ 13 (.tup []), H)) (fun φ => stp (some 13) φ H (just (aBin E.T .gtr 3 (fget φ 12) (.int .i64 6)))) := s_gd (j := 2) (oj := Z7a) rfl rfl rfl (fun _ => rfl) (fun _ => rfl)
theorem Z01o : stepA E C B 48 Zz Zyz (φ, H) = stp (some 14) φ H (opPick (fget φ 11) (.bool true) (fget φ 13)) := nf
theorem Z024 : stepA E C B 48 Zz Z7A (φ, H) = some (fput φ 15 (fget φ 14), H) := nf
theorem ZUx : stepA E C B 48 Zz Zw9 (φ, H) = gd φ 15 false (fun φ => some (fput φ 16 (.tup []), H)) (fun φ => some (fput φ 16 (fget φ 1), H)) := s_gd (j := 6) (oj := Z7A) rfl rfl rfl (fun _ => rfl) (fun _ => rfl)
theorem ZT4 : stepA E C B 48 Zz ZB8 (φ, H) = gd φ 15 false (fun φ => some (fput φ 17 (.tup []), H)) (fun φ => stp (some 17) φ H (just (aBin E.T .lss 3 (fget φ 16) (.int .i64 0)))) := s_gd (j := 6) (oj := Z7A) rfl rfl rfl (fun _ => rfl) (fun _ => rfl)
theorem ZZj : stepA E C B 48 Zz ZAP (φ, H) = stp (some 18) φ H (opPick (fget φ 15) (.bool true) (fget φ 17)) := nf
theorem ZQB : stepA E C B 48 Zz Z2k (φ, H) = some (fput φ 19 (fget φ 18), H) := nf
theorem ZP0 : stepA E C B 48 Zz ZkJ (φ, H) = gd φ 19 false (fun φ => some (fput φ 20 (.tup []), H)) (fun φ => some (fput φ 20 (fget φ 1), H)) := s_gd (j := 10) (oj := Z2k) rfl rfl rfl (fun _ => rfl) (fun _ => rfl)
theorem ZPk : stepA E C B 48 Zz Zkm (φ, H) = gd φ 19 false (fun φ => some (fput φ 21 (.tup []), H)) (fun φ => some (fput φ 21 (fget φ 0), H)) := s_gd (j := 10) (oj := Z2k) rfl rfl rfl (fun _ => rfl) (fun _ => rfl)
theorem ZJD : stepA E C B 48 Zz Zpe (φ, H) = gd φ 19 false (fun φ => some (fput φ 22 (.tup []), H)) (fun φ => stp (some 22) φ H (just (aBin E.T .mul 3 (fget φ 21) (.int .i64 8)))) := s_gd (j := 10) (oj := Z2k) rfl rfl rfl (fun _ => rfl) (fun _ => rfl)
theorem ZNt : stepA E C B 48 Zz Zo6 (φ, H) = gd φ 19 false (fun φ => some (fput φ 23 (.tup []), H)) (fun φ => stp (some 23) φ H (just (aBin E.T .gtr 3 (fget φ 20) (fget φ 22)))) := s_gd (j := 10) (oj := Z2k) rfl rfl rfl (fun _ => rfl) (fun _ => rfl)
theorem ZM9 : stepA E C B 48 Zz Zmc (φ, H) = stp (some 24) φ H (opPick (fget φ 19) (.bool true) (fget φ 23)) := nf
def Zia := kR Zhv
def Zid := kT Zia
def ZCr := kL Zid
def Z76 := kO ZCr
def Zst := opN Z76 0
def ZsV := opN Z76 1
theorem Z0k6 : XG 50 48 ZCr Z76 [0, 1, 24] := Z1 (by rfl) (by rfl) _
theorem Z037 : Z76.toList = [Zst, ZsV] := nf
theorem ZSy : stepA E C B 48 Z76 Zst (φ, H) = some (fput φ 4 (.int .i64 0), H) := nf
theorem Z03m : stepA E C B 48 Z76 ZsV (φ, H) = some (fput φ 5 (.int .i64 1), H) := nf
def ZRx := kR Zid
theorem Z0hK : execA E C (fg 50) B 48 E0 N ZRx s = some (.ret, s) := Zj (by rfl) s
theorem Z0iL : XQ 50 48 Zid ZCr ZRx := Z0 (by rfl) _
def ZRn := kE Zia
theorem Z0jq : execA E C (fg 50) B 48 E0 N ZRn s = some (.normal, s) := Ze (by rfl) s
theorem Z0hR : XC 50 48 Zia 24 Zid ZRn := Zb (by rfl) _
theorem Z0j8 : XQ 50 48 Zhv ZCk Zia := Z0 (by rfl) _
def Z8p := kR ZhA
def Zjl := kL Z8p
def Z3Y := kO Zjl
def Zuf := opN Z3Y 0
def ZtW := opN Z3Y 1
def ZuX := opN Z3Y 2
theorem Z09f : XG 50 48 Zjl Z3Y [0, 24, 25, 26] := Z1 (by rfl) (by rfl) _
theorem Z01h : Z3Y.toList = [Zuf, ZtW, ZuX] := nf
theorem Z05I : stepA E C B 48 Z3Y Zuf (φ, H) = some (fput φ 25 (fget φ 0), H) := nf
theorem Z04d : stepA E C B 48 Z3Y ZtW (φ, H) = stp (some 26) φ H (aMake E.T (B + 26) 22 (fget φ 25) (fget φ 25)) := nf
theorem Z02W : stepA E C B 48 Z3Y ZuX (φ, H) = some (fput φ 6 (fget φ 26), H) := nf
def Zc1 := kR Z8p
def ZaZ := kL Zc1
def ZiM := kL ZaZ
def Z4h := kO ZiM
def Zyr := opN Z4h 0
def Zzl := opN Z4h 1
def Zuq := opN Z4h 2
theorem Z0aZ : XG 50 48 ZiM Z4h [27] := Z1 (by rfl) (by rfl) _
theorem ZYR : Z4h.toList = [Zyr, Zzl, Zuq] := nf
theorem Z00r : stepA E C B 48 Z4h Zyr (φ, H) = some (fput φ 27 (fget φ 6), H) := nf
theorem ZYw : stepA E C B 48 Z4h Zzl (φ, H) = stp (some 28) φ H (Z2 E.T (B + 28) .len #[22] [(fget φ 27)]) := nf
theorem ZXa : stepA E C B 48 Z4h Zuq (φ, H) = some (fput φ 29 (.int .i64 0), H) := nf
def ZiD := kR ZaZ
def Zo2 := kB ZiD
def Z51 := kB Zo2
def Zpw := kL Z51
def Zij := kO Zpw
def Zuh := opN Zij 0
theorem Z0f4 : XG 50 48 Zpw Zij [] := Z1 (by rfl) (by rfl) _
theorem ZTo : Zij.toList = [Zuh] := nf
theorem ZTE : stepA E C B 48 Zij Zuh (φ, H) = stp (some 30) φ H (just (aBin E.T .lss 3 (fget φ 29) (fget φ 28))) := nf
def ZcI := kR Z51
def Z8I := kL ZcI
def ZFU := kT Z8I
theorem Z07j : execA E C (fg 50) B 48 E0 N ZFU s = some (.normal, s) := Ze (by rfl) s
def ZFm := kE Z8I
theorem Z0e0 : execA E C (fg 50) B 48 E0 N ZFm s = some (.exit 0, s) := ZL (by rfl) s
theorem Z07p : XC 50 48 Z8I 30 ZFU ZFm := Zb (by rfl) _
def Zbf := kR ZcI
def ZjW := kL Zbf
def Zb0 := kB ZjW
def Zqt := kL Zb0
def Z6f := kO Zqt
def ZsE := opN Z6f 0
def ZuK := opN Z6f 1
theorem Z0bS : XG 50 48 Zqt Z6f [30, 31] := Z1 (by rfl) (by rfl) _
theorem Z02a : Z6f.toList = [ZsE, ZuK] := nf
theorem ZV3 : stepA E C B 48 Z6f ZsE (φ, H) = some (fput φ 31 (fget φ 29), H) := nf
theorem Z01P : stepA E C B 48 Z6f ZuK (φ, H) = some (fput φ 7 (fget φ 31), H) := nf
def ZaB := kR Zb0
def Zls := kL ZaB
def Z1e := kO Zls
def ZAZ := opN Z1e 0
def ZzE := opN Z1e 1
def ZAT := opN Z1e 2
def ZAh := opN Z1e 3
def ZxD := opN Z1e 4
def Zz7 := opN Z1e 5
theorem Z08h : XG 50 48 Zls Z1e [32, 33, 34, 35, 36] := Z1 (by rfl) (by rfl) _
theorem Z03U : Z1e.toList = [ZAZ, ZzE, ZAT, ZAh, ZxD, Zz7] := nf
theorem ZWK : stepA E C B 48 Z1e ZAZ (φ, H) = some (fput φ 32 (fget φ 6), H) := nf
theorem Z01F : stepA E C B 48 Z1e ZzE (φ, H) = some (fput φ 33 (fget φ 7), H) := nf
theorem ZSv : stepA E C B 48 Z1e ZAT (φ, H) = some (fput φ 34 (fget φ 1), H) := nf
theorem ZUk : stepA E C B 48 Z1e ZAh (φ, H) = stp (some 35) φ H (Z2 E.T (B + 35) .min #[3, 3] [(fget φ 34), (.int .i64 8)]) := nf
theorem Z00v : stepA E C B 48 Z1e ZxD (φ, H) = stp (some 36) φ H (just (Z3 E.T 22 (fget φ 32) (fget φ 33))) := nf
theorem Z03D : stepA E C B 48 Z1e Zz7 (φ, H) = stp none φ H (opStore E.T 3 (fget φ 36) (fget φ 35)) := nf
def Zlw := kR ZaB
def Z0Q := kO Zlw
def ZsY := opN Z0Q 0
def ZAg := opN Z0Q 1
def ZB7 := opN Z0Q 2
def ZyX := opN Z0Q 3
def Zvi := opN Z0Q 4
def Zz8 := opN Z0Q 5
def Zxa := opN Z0Q 6
theorem Z0dz : XG 50 48 Zlw Z0Q [7, 37, 38, 39, 40, 41, 42] := Z1 (by rfl) (by rfl) _
theorem Z05L : Z0Q.toList = [ZsY, ZAg, ZB7, ZyX, Zvi, Zz8, Zxa] := nf
theorem Z02V : stepA E C B 48 Z0Q ZsY (φ, H) = some (fput φ 37 (fget φ 1), H) := nf
theorem Z03P : stepA E C B 48 Z0Q ZAg (φ, H) = some (fput φ 38 (fget φ 6), H) := nf
theorem Z022 : stepA E C B 48 Z0Q ZB7 (φ, H) = some (fput φ 39 (fget φ 7), H) := nf
theorem Z05Z : stepA E C B 48 Z0Q ZyX (φ, H) = stp (some 40) φ H (just (Z3 E.T 22 (fget φ 38) (fget φ 39))) := nf
theorem ZRY : stepA E C B 48 Z0Q Zvi (φ, H) = stp (some 41) φ H (just (aLoad E.T 3 (fget φ 40))) := nf
theorem Z056 : stepA E C B 48 Z0Q Zz8 (φ, H) = stp (some 42) φ H (just (aBin E.T .sub 3 (fget φ 37) (fget φ 41))) := nf
theorem Z05d : stepA E C B 48 Z0Q Zxa (φ, H) = some (fput φ 1 (fget φ 42), H) := nf
theorem Z083 : XQ 50 48 ZaB Zls Zlw := Z0 (by rfl) _
theorem Z0cg : XQ 50 48 Zb0 Zqt ZaB := Z0 (by rfl) _
theorem Z0aB : execA E C (fg 50) B 48 E0 N ZjW s = blockX 1 (fun s => (forget s.1 [], s.2)) (execA E C (fg 50) B 48 E0 N Zb0 s) := Zf (by rfl) (by rfl) s
def Zne := kR Zbf
def Z67 := kO Zne
def ZwG := opN Z67 0
def ZB0 := opN Z67 1
theorem Z07d : XG 50 48 Zne Z67 [43] := Z1 (by rfl) (by rfl) _
theorem ZWy : Z67.toList = [ZwG, ZB0] := nf
theorem ZV1 : stepA E C B 48 Z67 ZwG (φ, H) = stp (some 43) φ H (just (aBin E.T .add 3 (fget φ 29) (.int .i64 1))) := nf
theorem Z02K : stepA E C B 48 Z67 ZB0 (φ, H) = some (fput φ 29 (fget φ 43), H) := nf
theorem Z0dl : XQ 50 48 Zbf ZjW Zne := Z0 (by rfl) _
theorem Z0c2 : XQ 50 48 ZcI Z8I Zbf := Z0 (by rfl) _
theorem Z0aE : XQ 50 48 Z51 Zpw ZcI := Z0 (by rfl) _
theorem Z07t : execA E C (fg 50) B 48 E0 N Zo2 s = iterA (execA E C (fg 50) B 48 E0 N Z51) (headA E0) N s := ZM (by rfl) s
theorem Z08d : execA E C (fg 50) B 48 E0 N ZiD s = blockX 0 (fun s => (forget s.1 [1, 28, 29, 30], s.2)) (execA E C (fg 50) B 48 E0 N Zo2 s) := Zf (by rfl) (by rfl) s
theorem Z0cK : XQ 50 48 ZaZ ZiM ZiD := Z0 (by rfl) _
def Z9b := kR Zc1
def ZpQ := kL Z9b
def Z53 := kO ZpQ
def Zrj := opN Z53 0
def ZqU := opN Z53 1
theorem Z06F : XG 50 48 ZpQ Z53 [] := Z1 (by rfl) (by rfl) _
theorem ZOK : Z53.toList = [Zrj, ZqU] := nf
theorem ZPf : stepA E C B 48 Z53 Zrj (φ, H) = stp (some 8) φ H (opBox (B + 8) (zeroCells E.T 3)) := nf
theorem ZKB : stepA E C B 48 Z53 ZqU (φ, H) = stp none φ H (opStore E.T 3 (fget φ 8) (.int .i64 0)) := nf
def Zau := kR Z9b
def Zpc := kL Zau
def Z2K := kO Zpc
def Zqk := opN Z2K 0
def Zo1 := opN Z2K 1
def Zjw := opN Z2K 2
theorem Z0eM : XG 50 48 Zpc Z2K [6, 44, 45, 46] := Z1 (by rfl) (by rfl) _
theorem ZMv : Z2K.toList = [Zqk, Zo1, Zjw] := nf
theorem ZQq : stepA E C B 48 Z2K Zqk (φ, H) = some (fput φ 44 (fget φ 6), H) := nf
theorem ZJu : stepA E C B 48 Z2K Zo1 (φ, H) = stp (some 45) φ H (.pure (.clo 104 [(fget φ 8)], [])) := nf
theorem ZKl : stepA E C B 48 Z2K Zjw (φ, H) = mutX (some 46) φ (C 92 [(fget φ 44), (fget φ 45)] H (B + 48 * 8)) := nf
def Z8r := kR Zau
def ZpK := kL Z8r
def Z2Y := kO ZpK
def Zm4 := opN Z2Y 0
def ZoW := opN Z2Y 1
def Zrv := opN Z2Y 2
theorem Z0bv : XG 50 48 ZpK Z2Y [8, 47] := Z1 (by rfl) (by rfl) _
theorem ZLV : Z2Y.toList = [Zm4, ZoW, Zrv] := nf
theorem ZNf : stepA E C B 48 Z2Y Zm4 (φ, H) = stp (some 47) φ H (just (aLoad E.T 3 (fget φ 8))) := nf
theorem ZPD : stepA E C B 48 Z2Y ZoW (φ, H) = some (fput φ 4 (fget φ 47), H) := nf
theorem ZJw : stepA E C B 48 Z2Y Zrv (φ, H) = some (fput φ 5 (.int .i64 0), H) := nf
def ZFF := kR Z8r
theorem Z06J : execA E C (fg 50) B 48 E0 N ZFF s = some (.ret, s) := Zj (by rfl) s
theorem Z087 : XQ 50 48 Z8r ZpK ZFF := Z0 (by rfl) _
theorem Z0ay : XQ 50 48 Zau Zpc Z8r := Z0 (by rfl) _
theorem Z0as : XQ 50 48 Z9b ZpQ Zau := Z0 (by rfl) _
theorem Z095 : XQ 50 48 Zc1 ZaZ Z9b := Z0 (by rfl) _
theorem Z0av : XQ 50 48 Z8p Zjl Zc1 := Z0 (by rfl) _
theorem Z0g1 : XQ 50 48 ZhA Zhv Z8p := Z0 (by rfl) _
theorem Z0gs : XQ 50 48 Z9S ZBQ ZhA := Z0 (by rfl) _
theorem Z0iU : fInfo E 50 = some ⟨48, #[.tmp 4, .tmp 5], Z9S⟩ := nf
theorem b_50 (args : List AV) : bodyA E C fg N 50 args H B = bodyX E [.tmp 4, .tmp 5] (execA E C (fg 50) B 48 H N Z9S (Z4 args 0 [], H)) := Zq Z0iU args H
abbrev F_50 := And.intro (And.intro (And.intro (And.intro (And.intro (And.intro @Z0iF (And.intro @ZTS @ZUD)) (And.intro @Z02n (And.intro @Z0fU @ZVg))) (And.intro (And.intro @ZSt (And.intro @ZTD @Z058)) (And.intro (And.intro @ZUH @ZSq) (And.intro @Z01o @Z024)))) (And.intro (And.intro (And.intro @ZUx (And.intro @ZT4 @ZZj)) (And.intro @ZQB (And.intro @ZP0 @ZPk))) (And.intro (And.intro @ZJD (And.intro @ZNt @ZM9)) (And.intro (And.intro @Z0k6 @Z037) (And.intro @ZSy @Z03m))))) (And.intro (And.intro (And.intro (And.intro @Z0hK (And.intro @Z0iL @Z0jq)) (And.intro @Z0hR (And.intro @Z0j8 @Z09f))) (And.intro (And.intro @Z01h (And.intro @Z05I @Z04d)) (And.intro (And.intro @Z02W @Z0aZ) (And.intro @ZYR @Z00r)))) (And.intro (And.intro (And.intro @ZYw (And.intro @ZXa @Z0f4)) (And.intro @ZTo (And.intro @ZTE @Z07j))) (And.intro (And.intro @Z0e0 (And.intro @Z07p @Z0bS)) (And.intro (And.intro @Z02a @ZV3) (And.intro @Z01P @Z08h)))))) (And.intro (And.intro (And.intro (And.intro (And.intro @Z03U (And.intro @ZWK @Z01F)) (And.intro @ZSv (And.intro @ZUk @Z00v))) (And.intro (And.intro @Z03D (And.intro @Z0dz @Z05L)) (And.intro (And.intro @Z02V @Z03P) (And.intro @Z022 @Z05Z)))) (And.intro (And.intro (And.intro @ZRY (And.intro @Z056 @Z05d)) (And.intro @Z083 (And.intro @Z0cg @Z0aB))) (And.intro (And.intro @Z07d (And.intro @ZWy @ZV1)) (And.intro (And.intro @Z02K @Z0dl) (And.intro @Z0c2 @Z0aE))))) (And.intro (And.intro (And.intro (And.intro @Z07t (And.intro @Z08d @Z0cK)) (And.intro @Z06F (And.intro @ZOK @ZPf))) (And.intro (And.intro @ZKB (And.intro @Z0eM @ZMv)) (And.intro (And.intro @ZQq @ZJu) (And.intro @ZKl @Z0bv)))) (And.intro (And.intro (And.intro @ZLV (And.intro @ZNf @ZPD)) (And.intro @ZJw (And.intro @Z06J @Z087))) (And.intro (And.intro @Z0ay (And.intro @Z0as @Z095)) (And.intro (And.intro @Z0av @Z0g1) (And.intro @Z0gs @b_50))))))
def Za8 := kBody Proofs.Try.f104
def Z38 := kO Za8
def Zkv := opN Z38 0
def Zji := opN Z38 1
def Zm2 := opN Z38 2
theorem Z065 : XG 104 5 Za8 Z38 [0, 1, 3, 4] := Z1 (by rfl) (by rfl) _
theorem ZLK : Z38.toList = [Zkv, Zji, Zm2] := nf
theorem ZLd : stepA E C B 5 Z38 Zkv (φ, H) = stp (some 3) φ H (just (aLoad E.T 3 (fget φ 1))) := nf
theorem ZNh : stepA E C B 5 Z38 Zji (φ, H) = stp (some 4) φ H (just (aBin E.T .add 3 (fget φ 3) (.int .i64 1))) := nf
theorem ZQi : stepA E C B 5 Z38 Zm2 (φ, H) = stp none φ H (opStore E.T 3 (fget φ 1) (fget φ 4)) := nf
theorem Z0ah : fInfo E 104 = some ⟨5, #[], Za8⟩ := nf
theorem Z0gu (args : List AV) : bodyA E C fg N 104 args H B = bodyX E [] (execA E C (fg 104) B 5 H N Za8 (Z4 args 0 [], H)) := Zq Z0ah args H
abbrev Z0hY := And.intro (And.intro @Z065 (And.intro @ZLK @ZLd)) (And.intro @ZNh (And.intro @ZQi @Z0gu))
def Zcv := kBody Proofs.Try.f52
def ZBo := kL Zcv
def Z6L := kO ZBo
def ZzA := opN Z6L 0
def Zt6 := opN Z6L 1
theorem Z0fM : XG 52 26 ZBo Z6L [2, 3] := Z1 (by rfl) (by rfl) _
theorem ZT9 : Z6L.toList = [ZzA, Zt6] := nf
theorem ZZJ : stepA E C B 26 Z6L ZzA (φ, H) = some (fput φ 2 (.nilsl), H) := nf
theorem ZS9 : stepA E C B 26 Z6L Zt6 (φ, H) = some (fput φ 3 (.int .i64 0), H) := nf
def ZhO := kR Zcv
def ZBl := kL ZhO
def Z4f := kO ZBl
def ZuQ := opN Z4f 0
def ZwC := opN Z4f 1
def ZxF := opN Z4f 2
theorem Z0iY : XG 52 26 ZBl Z4f [5, 6] := Z1 (by rfl) (by rfl) _
theorem Z03o : Z4f.toList = [ZuQ, ZwC, ZxF] := nf
theorem Z00g : stepA E C B 26 Z4f ZuQ (φ, H) = some (fput φ 5 (fget φ 0), H) := nf
theorem ZYy : stepA E C B 26 Z4f ZwC (φ, H) = stp (some 6) φ H (aCall C (fun j => B + j * 26 + 6) true 25 [(fget φ 5)]) := nf
theorem Z03g : stepA E C B 26 Z4f ZxF (φ, H) = some (fput φ 4 (fget φ 6), H) := nf
def Zhu := kR ZhO
def ZC2 := kL Zhu
def Zif := kB ZC2
def ZCX := kL Zif
def Z4g := kO ZCX
def Zxz := opN Z4g 0
def Zsq := opN Z4g 1
def Zye := opN Z4g 2
theorem Z0gJ : XG 52 26 ZCX Z4g [8, 9] := Z1 (by rfl) (by rfl) _
theorem ZVu : Z4g.toList = [Zxz, Zsq, Zye] := nf
theorem ZS4 : stepA E C B 26 Z4g Zxz (φ, H) = some (fput φ 8 (fget φ 4), H) := nf
theorem ZSl : stepA E C B 26 Z4g Zsq (φ, H) = stp (some 9) φ H (just (aBin E.T .neq 24 (fget φ 8) (.int .i64 0))) := nf
theorem ZU7 : stepA E C B 26 Z4g Zye (φ, H) = some (fput φ 7 (fget φ 9), H) := nf
def Zie := kR Zif
def Zi3 := kT Zie
def ZkX := kL Zi3
def Z4e := kO ZkX
def ZAf := opN Z4e 0
def Zxi := opN Z4e 1
def Zzk := opN Z4e 2
theorem Z0cy : XG 52 26 ZkX Z4e [0, 4, 7, 10] := Z1 (by rfl) (by rfl) _
theorem ZX9 : Z4e.toList = [ZAf, Zxi, Zzk] := nf
theorem ZUq : stepA E C B 26 Z4e ZAf (φ, H) = some (fput φ 10 (fget φ 4), H) := nf
theorem ZWM : stepA E C B 26 Z4e Zxi (φ, H) = some (fput φ 2 (.nilsl), H) := nf
theorem ZXt : stepA E C B 26 Z4e Zzk (φ, H) = some (fput φ 3 (fget φ 10), H) := nf
def ZHa := kR Zi3
theorem Z06z : execA E C (fg 52) B 26 E0 N ZHa s = some (.ret, s) := Zj (by rfl) s
theorem Z0gx : XQ 52 26 Zi3 ZkX ZHa := Z0 (by rfl) _
def ZbR := kE Zie
def Zlk := kL ZbR
def Z1N := kO Zlk
def Zu9 := opN Z1N 0
def Zwi := opN Z1N 1
def Zzi := opN Z1N 2
def ZxZ := opN Z1N 3
def ZsX := opN Z1N 4
theorem Z0dx : XG 52 26 Zlk Z1N [4, 7, 12, 13, 14, 15] := Z1 (by rfl) (by rfl) _
theorem ZSU : Z1N.toList = [Zu9, Zwi, Zzi, ZxZ, ZsX] := nf
theorem ZV0 : stepA E C B 26 Z1N Zu9 (φ, H) = some (fput φ 12 (fget φ 0), H) := nf
theorem ZS1 : stepA E C B 26 Z1N Zwi (φ, H) = stp (some 13) φ H (just (Z3 E.T 22 (fget φ 12) (.int .i64 0))) := nf
theorem ZYm : stepA E C B 26 Z1N Zzi (φ, H) = stp (some 14) φ H (just (aLoad E.T 3 (fget φ 13))) := nf
theorem ZWa : stepA E C B 26 Z1N ZxZ (φ, H) = stp (some 15) φ H (just (aBin E.T .eql 3 (fget φ 14) (.int .i64 0))) := nf
theorem Z01b : stepA E C B 26 Z1N ZsX (φ, H) = some (fput φ 11 (fget φ 15), H) := nf
def Z8x := kR ZbR
def Z9p := kT Z8x
def Zr3 := kL Z9p
def Z6h := kO Zr3
def Zw8 := opN Z6h 0
def Zy0 := opN Z6h 1
theorem Z0bU : XG 52 26 Zr3 Z6h [0, 11] := Z1 (by rfl) (by rfl) _
theorem ZY9 : Z6h.toList = [Zw8, Zy0] := nf
theorem Z02C : stepA E C B 26 Z6h Zw8 (φ, H) = some (fput φ 2 (.nilsl), H) := nf
theorem Z00D : stepA E C B 26 Z6h Zy0 (φ, H) = some (fput φ 3 (.int .i64 21), H) := nf
def ZEE := kR Z9p
theorem Z0b4 : execA E C (fg 52) B 26 E0 N ZEE s = some (.ret, s) := Zj (by rfl) s
theorem Z08D : XQ 52 26 Z9p Zr3 ZEE := Z0 (by rfl) _
def ZaC := kE Z8x
def Zqh := kL ZaC
def Z1J := kO Zqh
def ZrK := opN Z1J 0
def ZzL := opN Z1J 1
def ZrO := opN Z1J 2
def Zxd := opN Z1J 3
def Zt2 := opN Z1J 4
theorem Z0ey : XG 52 26 Zqh Z1J [11, 17, 18, 19, 20] := Z1 (by rfl) (by rfl) _
theorem ZSZ : Z1J.toList = [ZrK, ZzL, ZrO, Zxd, Zt2] := nf
theorem ZUt : stepA E C B 26 Z1J ZrK (φ, H) = some (fput φ 17 (fget φ 0), H) := nf
theorem Z008 : stepA E C B 26 Z1J ZzL (φ, H) = stp (some 18) φ H (just (Z3 E.T 22 (fget φ 17) (.int .i64 0))) := nf
theorem Z04h : stepA E C B 26 Z1J ZrO (φ, H) = stp (some 19) φ H (just (aLoad E.T 3 (fget φ 18))) := nf
theorem Z05n : stepA E C B 26 Z1J Zxd (φ, H) = stp (some 20) φ H (just (aBin E.T .gtr 3 (fget φ 19) (.int .i64 6))) := nf
theorem Z059 : stepA E C B 26 Z1J Zt2 (φ, H) = some (fput φ 16 (fget φ 20), H) := nf
def Zbb := kR ZaC
def Z8L := kT Zbb
def ZjH := kL Z8L
def Z6C := kO ZjH
def Zsr := opN Z6C 0
def ZvF := opN Z6C 1
theorem Z0eq : XG 52 26 ZjH Z6C [0, 16] := Z1 (by rfl) (by rfl) _
theorem ZS5 : Z6C.toList = [Zsr, ZvF] := nf
theorem ZXU : stepA E C B 26 Z6C Zsr (φ, H) = some (fput φ 2 (.nilsl), H) := nf
theorem ZUd : stepA E C B 26 Z6C ZvF (φ, H) = some (fput φ 3 (.int .i64 3), H) := nf
def ZIK := kR Z8L
theorem Z09r : execA E C (fg 52) B 26 E0 N ZIK s = some (.ret, s) := Zj (by rfl) s
theorem Z07i : XQ 52 26 Z8L ZjH ZIK := Z0 (by rfl) _
def ZHA := kE Zbb
theorem Z06g : execA E C (fg 52) B 26 E0 N ZHA s = some (.normal, s) := Ze (by rfl) s
theorem Z0bg : XC 52 26 Zbb 16 Z8L ZHA := Zb (by rfl) _
theorem Z0a4 : XQ 52 26 ZaC Zqh Zbb := Z0 (by rfl) _
theorem Z061 : XC 52 26 Z8x 11 Z9p ZaC := Zb (by rfl) _
theorem Z08s : XQ 52 26 ZbR Zlk Z8x := Z0 (by rfl) _
theorem Z0ip : XC 52 26 Zie 7 Zi3 ZbR := Zb (by rfl) _
theorem Z0iV : XQ 52 26 Zif ZCX Zie := Z0 (by rfl) _
theorem Z0j6 : execA E C (fg 52) B 26 E0 N ZC2 s = blockX 0 (fun s => (forget s.1 [16], s.2)) (execA E C (fg 52) B 26 E0 N Zif s) := Zf (by rfl) (by rfl) s
def Zb8 := kR Zhu
def Zko := kL Zb8
def Z0J := kO Zko
def Zv5 := opN Z0J 0
def Zyc := opN Z0J 1
def Zvo := opN Z0J 2
def Zyl := opN Z0J 3
def ZvN := opN Z0J 4
def ZxA := opN Z0J 5
def Zya := opN Z0J 6
theorem Z0cp : XG 52 26 Zko Z0J [0, 21, 22, 23, 24, 25] := Z1 (by rfl) (by rfl) _
theorem Z006 : Z0J.toList = [Zv5, Zyc, Zvo, Zyl, ZvN, ZxA, Zya] := nf
theorem ZTV : stepA E C B 26 Z0J Zv5 (φ, H) = some (fput φ 21 (fget φ 0), H) := nf
theorem Z04X : stepA E C B 26 Z0J Zyc (φ, H) = some (fput φ 22 (fget φ 0), H) := nf
theorem ZUM : stepA E C B 26 Z0J Zvo (φ, H) = stp (some 23) φ H (just (Z3 E.T 22 (fget φ 22) (.int .i64 0))) := nf
theorem Z00p : stepA E C B 26 Z0J Zyl (φ, H) = stp (some 24) φ H (just (aLoad E.T 3 (fget φ 23))) := nf
theorem Z03b : stepA E C B 26 Z0J ZvN (φ, H) = stp (some 25) φ H (aCall C (fun j => B + j * 26 + 25) true 103 [(fget φ 21), (fget φ 24)]) := nf
theorem ZTq : stepA E C B 26 Z0J ZxA (φ, H) = some (fput φ 2 (fget φ 25), H) := nf
theorem Z00B : stepA E C B 26 Z0J Zya (φ, H) = some (fput φ 3 (.int .i64 0), H) := nf
def ZDy := kR Zb8
theorem Z09d : execA E C (fg 52) B 26 E0 N ZDy s = some (.ret, s) := Zj (by rfl) s
theorem Z09B : XQ 52 26 Zb8 Zko ZDy := Z0 (by rfl) _
theorem Z0g8 : XQ 52 26 Zhu ZC2 Zb8 := Z0 (by rfl) _
theorem Z0hh : XQ 52 26 ZhO ZBl Zhu := Z0 (by rfl) _
theorem Z0kn : XQ 52 26 Zcv ZBo ZhO := Z0 (by rfl) _
theorem Z0fx : fInfo E 52 = some ⟨26, #[.tmp 2, .tmp 3], Zcv⟩ := nf
theorem b_52 (args : List AV) : bodyA E C fg N 52 args H B = bodyX E [.tmp 2, .tmp 3] (execA E C (fg 52) B 26 H N Zcv (Z4 args 0 [], H)) := Zq Z0fx args H
abbrev F_52 := And.intro (And.intro (And.intro (And.intro (And.intro (And.intro @Z0fM @ZT9) (And.intro @ZZJ @ZS9)) (And.intro (And.intro @Z0iY @Z03o) (And.intro @Z00g @ZYy))) (And.intro (And.intro (And.intro @Z03g @Z0gJ) (And.intro @ZVu @ZS4)) (And.intro (And.intro @ZSl @ZU7) (And.intro @Z0cy (And.intro @ZX9 @ZUq))))) (And.intro (And.intro (And.intro (And.intro @ZWM @ZXt) (And.intro @Z06z @Z0gx)) (And.intro (And.intro @Z0dx @ZSU) (And.intro @ZV0 (And.intro @ZS1 @ZYm)))) (And.intro (And.intro (And.intro @ZWa @Z01b) (And.intro @Z0bU @ZY9)) (And.intro (And.intro @Z02C @Z00D) (And.intro @Z0b4 (And.intro @Z08D @Z0ey)))))) (And.intro (And.intro (And.intro (And.intro (And.intro @ZSZ @ZUt) (And.intro @Z008 @Z04h)) (And.intro (And.intro @Z05n @Z059) (And.intro @Z0eq @ZS5))) (And.intro (And.intro (And.intro @ZXU @ZUd) (And.intro @Z09r @Z07i)) (And.intro (And.intro @Z06g @Z0bg) (And.intro @Z0a4 (And.intro @Z061 @Z08s))))) (And.intro (And.intro (And.intro (And.intro @Z0ip @Z0iV) (And.intro @Z0j6 @Z0cp)) (And.intro (And.intro @Z006 @ZTV) (And.intro @Z04X (And.intro @ZUM @Z00p)))) (And.intro (And.intro (And.intro @Z03b @ZTq) (And.intro @Z00B @Z09d)) (And.intro (And.intro @Z09B @Z0g8) (And.intro @Z0hh (And.intro @Z0kn @b_52))))))
def Zbk := kBody Proofs.Try.f54
def ZBm := kL Zbk
def Z7i := kO ZBm
def ZtR := opN Z7i 0
def ZAe := opN Z7i 1
theorem Z0ke : XG 54 44 ZBm Z7i [4, 5] := Z1 (by rfl) (by rfl) _
theorem Z01S : Z7i.toList = [ZtR, ZAe] := nf
theorem ZZC : stepA E C B 44 Z7i ZtR (φ, H) = some (fput φ 4 (.int .i64 0), H) := nf
theorem ZX1 : stepA E C B 44 Z7i ZAe (φ, H) = some (fput φ 5 (.int .i64 0), H) := nf
def Zih := kR Zbk
def ZCJ := kL Zih
def Z4n := kO ZCJ
def ZwE := opN Z4n 0
def ZtQ := opN Z4n 1
def Zsx := opN Z4n 2
theorem Z0io : XG 54 44 ZCJ Z4n [11, 12] := Z1 (by rfl) (by rfl) _
theorem ZT0 : Z4n.toList = [ZwE, ZtQ, Zsx] := nf
theorem Z030 : stepA E C B 44 Z4n ZwE (φ, H) = some (fput φ 11 (fget φ 0), H) := nf
theorem Z014 : stepA E C B 44 Z4n ZtQ (φ, H) = stp (some 12) φ H (aCall C (fun j => B + j * 44 + 12) true 25 [(fget φ 11)]) := nf
theorem Z05B : stepA E C B 44 Z4n Zsx (φ, H) = some (fput φ 6 (fget φ 12), H) := nf
def Zgu := kR Zih
def ZCV := kL Zgu
def ZgR := kB ZCV
def ZDd := kL ZgR
def Z4k := kO ZDd
def ZwX := opN Z4k 0
def ZuU := opN Z4k 1
def ZuC := opN Z4k 2
theorem Z0jm : XG 54 44 ZDd Z4k [14, 15] := Z1 (by rfl) (by rfl) _
theorem ZXf : Z4k.toList = [ZwX, ZuU, ZuC] := nf
theorem ZZe : stepA E C B 44 Z4k ZwX (φ, H) = some (fput φ 14 (fget φ 6), H) := nf
theorem ZWQ : stepA E C B 44 Z4k ZuU (φ, H) = stp (some 15) φ H (just (aBin E.T .neq 24 (fget φ 14) (.int .i64 0))) := nf
theorem ZZR : stepA E C B 44 Z4k ZuC (φ, H) = some (fput φ 13 (fget φ 15), H) := nf
def Zic := kR ZgR
def ZhP := kT Zic
def ZoV := kL ZhP
def Z4a := kO ZoV
def ZvS := opN Z4a 0
def Zuu := opN Z4a 1
def ZzU := opN Z4a 2
theorem Z0ai : XG 54 44 ZoV Z4a [0, 1, 6, 13, 16] := Z1 (by rfl) (by rfl) _
theorem Z05z : Z4a.toList = [ZvS, Zuu, ZzU] := nf
theorem ZTf : stepA E C B 44 Z4a ZvS (φ, H) = some (fput φ 16 (fget φ 6), H) := nf
theorem Z03F : stepA E C B 44 Z4a Zuu (φ, H) = some (fput φ 4 (.int .i64 0), H) := nf
theorem ZXV : stepA E C B 44 Z4a ZzU (φ, H) = some (fput φ 5 (fget φ 16), H) := nf
def ZFx := kR ZhP
theorem Z06U : execA E C (fg 54) B 44 E0 N ZFx s = some (.ret, s) := Zj (by rfl) s
theorem Z0ge : XQ 54 44 ZhP ZoV ZFx := Z0 (by rfl) _
def Zcf := kE Zic
def ZoO := kL Zcf
def Z0N := kO ZoO
def ZwS := opN Z0N 0
def Zxk := opN Z0N 1
def Z6s := opN Z0N 2
def Zwc := opN Z0N 3
def ZB3 := opN Z0N 4
def ZsM := opN Z0N 5
def Zyi := opN Z0N 6
theorem Z0dj : XG 54 44 ZoO Z0N [6, 13, 18, 19, 20, 21, 22, 23] := Z1 (by rfl) (by rfl) _
theorem Z02m : Z0N.toList = [ZwS, Zxk, Z6s, Zwc, ZB3, ZsM, Zyi] := nf
theorem Z02B : stepA E C B 44 Z0N ZwS (φ, H) = some (fput φ 18 (fget φ 1), H) := nf
theorem ZYS : stepA E C B 44 Z0N Zxk (φ, H) = stp (some 19) φ H (just (aBin E.T .lss 3 (fget φ 18) (.int .i64 1))) := nf
theorem Z05c : stepA E C B 44 Z0N Z6s (φ, H) = some (fput φ 20 (fget φ 19), H) := nf
theorem ZTl : stepA E C B 44 Z0N Zwc (φ, H) = gd φ 20 false (fun φ => some (fput φ 21 (.tup []), H)) (fun φ => some (fput φ 21 (fget φ 1), H)) := s_gd (j := 2) (oj := Z6s) rfl rfl rfl (fun _ => rfl) (fun _ => rfl)
theorem Z04y : stepA E C B 44 Z0N ZB3 (φ, H) = gd φ 20 false (fun φ => some (fput φ 22 (.tup []), H)) (fun φ => stp (some 22) φ H (just (aBin E.T .gtr 3 (fget φ 21) (.int .i64 4)))) := s_gd (j := 2) (oj := Z6s) rfl rfl rfl (fun _ => rfl) (fun _ => rfl)
theorem ZSE : stepA E C B 44 Z0N ZsM (φ, H) = stp (some 23) φ H (opPick (fget φ 20) (.bool true) (fget φ 22)) := nf
theorem Z05E : stepA E C B 44 Z0N Zyi (φ, H) = some (fput φ 17 (fget φ 23), H) := nf
def Zce := kR Zcf
def Z9W := kT Zce
def ZnM := kL Z9W
def Z7f := kO ZnM
def ZyQ := opN Z7f 0
def ZuI := opN Z7f 1
theorem Z07y : XG 54 44 ZnM Z7f [0, 1, 17] := Z1 (by rfl) (by rfl) _
theorem Z02Z : Z7f.toList = [ZyQ, ZuI] := nf
theorem ZZz : stepA E C B 44 Z7f ZyQ (φ, H) = some (fput φ 4 (.int .i64 0), H) := nf
theorem ZRN : stepA E C B 44 Z7f ZuI (φ, H) = some (fput φ 5 (.int .i64 1), H) := nf
def ZHx := kR Z9W
theorem Z0ei : execA E C (fg 54) B 44 E0 N ZHx s = some (.ret, s) := Zj (by rfl) s
theorem Z06Q : XQ 54 44 Z9W ZnM ZHx := Z0 (by rfl) _
def ZE4 := kE Zce
theorem Z0ae : execA E C (fg 54) B 44 E0 N ZE4 s = some (.normal, s) := Ze (by rfl) s
theorem Z09m : XC 54 44 Zce 17 Z9W ZE4 := Zb (by rfl) _
theorem Z06X : XQ 54 44 Zcf ZoO Zce := Z0 (by rfl) _
theorem Z0h5 : XC 54 44 Zic 13 ZhP Zcf := Zb (by rfl) _
theorem Z0jl : XQ 54 44 ZgR ZDd Zic := Z0 (by rfl) _
theorem Z0g2 : execA E C (fg 54) B 44 E0 N ZCV s = blockX 0 (fun s => (forget s.1 [17], s.2)) (execA E C (fg 54) B 44 E0 N ZgR s) := Zf (by rfl) (by rfl) s
def Zbd := kR Zgu
def Zo5 := kL Zbd
def Zgz := kO Zo5
def Ztr := opN Zgz 0
theorem Z0cf : XG 54 44 Zo5 Zgz [] := Z1 (by rfl) (by rfl) _
theorem ZRU : Zgz.toList = [Ztr] := nf
theorem ZVX : stepA E C B 44 Zgz Ztr (φ, H) = some (fput φ 7 (.int .i64 0), H) := nf
def Zab := kR Zbd
def Zco := kL Zab
def Zp1 := kL Zco
def Z43 := kO Zp1
def Ztl := opN Z43 0
def Zwf := opN Z43 1
def Zwq := opN Z43 2
theorem Z0ff : XG 54 44 Zp1 Z43 [0] := Z1 (by rfl) (by rfl) _
theorem Z031 : Z43.toList = [Ztl, Zwf, Zwq] := nf
theorem Z03k : stepA E C B 44 Z43 Ztl (φ, H) = some (fput φ 24 (fget φ 0), H) := nf
theorem Z04i : stepA E C B 44 Z43 Zwf (φ, H) = stp (some 25) φ H (Z2 E.T (B + 25) .len #[22] [(fget φ 24)]) := nf
theorem ZUJ : stepA E C B 44 Z43 Zwq (φ, H) = some (fput φ 26 (.int .i64 0), H) := nf
def ZiQ := kR Zco
def Zp2 := kB ZiQ
def Z4P := kB Zp2
def Znf := kL Z4P
def Zh7 := kO Znf
def ZuJ := opN Zh7 0
theorem Z06l : XG 54 44 Znf Zh7 [] := Z1 (by rfl) (by rfl) _
theorem Z05V : Zh7.toList = [ZuJ] := nf
theorem ZX8 : stepA E C B 44 Zh7 ZuJ (φ, H) = stp (some 27) φ H (just (aBin E.T .lss 3 (fget φ 26) (fget φ 25))) := nf
def ZbP := kR Z4P
def Z9w := kL ZbP
def ZHH := kT Z9w
theorem Z0a0 : execA E C (fg 54) B 44 E0 N ZHH s = some (.normal, s) := Ze (by rfl) s
def ZE9 := kE Z9w
theorem Z0aT : execA E C (fg 54) B 44 E0 N ZE9 s = some (.exit 1, s) := ZL (by rfl) s
theorem Z08c : XC 54 44 Z9w 27 ZHH ZE9 := Zb (by rfl) _
def Zcm := kR ZbP
def Zqp := kL Zcm
def ZaU := kB Zqp
def Zmu := kL ZaU
def Z3Z := kO Zmu
def Zx7 := opN Z3Z 0
def Zx0 := opN Z3Z 1
def ZAS := opN Z3Z 2
theorem Z0d5 : XG 54 44 Zmu Z3Z [27, 28, 29] := Z1 (by rfl) (by rfl) _
theorem Z029 : Z3Z.toList = [Zx7, Zx0, ZAS] := nf
theorem Z04w : stepA E C B 44 Z3Z Zx7 (φ, H) = stp (some 28) φ H (just (Z3 E.T 22 (fget φ 24) (fget φ 26))) := nf
theorem ZTN : stepA E C B 44 Z3Z Zx0 (φ, H) = stp (some 29) φ H (just (aLoad E.T 3 (fget φ 28))) := nf
theorem ZZs : stepA E C B 44 Z3Z ZAS (φ, H) = some (fput φ 9 (fget φ 29), H) := nf
def Za7 := kR ZaU
def ZlX := kL Za7
def Z58 := kO ZlX
def Zma := opN Z58 0
def Zjo := opN Z58 1
theorem Z0al : XG 54 44 ZlX Z58 [30] := Z1 (by rfl) (by rfl) _
theorem ZRd : Z58.toList = [Zma, Zjo] := nf
theorem ZJV : stepA E C B 44 Z58 Zma (φ, H) = some (fput φ 30 (fget φ 9), H) := nf
theorem ZM8 : stepA E C B 44 Z58 Zjo (φ, H) = some (fput φ 10 (fget φ 30), H) := nf
def ZbT := kR Za7
def Za6 := kL ZbT
def ZjM := kL Za6
def Z36 := kO ZjM
def Zjh := opN Z36 0
def ZiX := opN Z36 1
def ZpI := opN Z36 2
theorem Z0fh : XG 54 44 ZjM Z36 [31] := Z1 (by rfl) (by rfl) _
theorem ZLN : Z36.toList = [Zjh, ZiX, ZpI] := nf
theorem ZMI : stepA E C B 44 Z36 Zjh (φ, H) = some (fput φ 31 (fget φ 1), H) := nf
theorem ZLn : stepA E C B 44 Z36 ZiX (φ, H) = stp (some 32) φ H (just (aBin E.T .sub 3 (fget φ 31) (.int .i64 1))) := nf
theorem ZPW : stepA E C B 44 Z36 ZpI (φ, H) = some (fput φ 33 (.int .i64 0), H) := nf
def Zkw := kR Za6
def ZqO := kB Zkw
def Z5J := kB ZqO
def Zol := kL Z5J
def Za3 := kO Zol
def Znl := opN Za3 0
theorem Z0bb : XG 54 44 Zol Za3 [] := Z1 (by rfl) (by rfl) _
theorem ZJx : Za3.toList = [Znl] := nf
theorem ZOn : stepA E C B 44 Za3 Znl (φ, H) = stp (some 34) φ H (just (aBin E.T .lss 3 (fget φ 33) (fget φ 32))) := nf
def ZaK := kR Z5J
def ZbC := kL ZaK
def ZIc := kT ZbC
theorem Z0eE : execA E C (fg 54) B 44 E0 N ZIc s = some (.normal, s) := Ze (by rfl) s
def ZIL := kE ZbC
theorem Z0dq : execA E C (fg 54) B 44 E0 N ZIL s = some (.exit 3, s) := ZL (by rfl) s
theorem Z0cb : XC 54 44 ZbC 34 ZIc ZIL := Zb (by rfl) _
def ZbJ := kR ZaK
def ZkK := kL ZbJ
def Ziw := kB ZkK
def Z1A := kO Ziw
def ZlA := opN Z1A 0
def ZkD := opN Z1A 1
def Zk9 := opN Z1A 2
def Zkb := opN Z1A 3
theorem Z0db : XG 54 44 Ziw Z1A [34, 35, 36, 37] := Z1 (by rfl) (by rfl) _
theorem ZL8 : Z1A.toList = [ZlA, ZkD, Zk9, Zkb] := nf
theorem ZPI : stepA E C B 44 Z1A ZlA (φ, H) = some (fput φ 35 (fget φ 10), H) := nf
theorem ZLD : stepA E C B 44 Z1A ZkD (φ, H) = some (fput φ 36 (fget φ 9), H) := nf
theorem ZNe : stepA E C B 44 Z1A Zk9 (φ, H) = stp (some 37) φ H (just (aBin E.T .mul 3 (fget φ 35) (fget φ 36))) := nf
theorem ZR2 : stepA E C B 44 Z1A Zkb (φ, H) = some (fput φ 10 (fget φ 37), H) := nf
theorem Z06b : execA E C (fg 54) B 44 E0 N ZkK s = blockX 4 (fun s => (forget s.1 [], s.2)) (execA E C (fg 54) B 44 E0 N Ziw s) := Zf (by rfl) (by rfl) s
def ZqR := kR ZbJ
def Z4T := kO ZqR
def Zoc := opN Z4T 0
def ZlU := opN Z4T 1
theorem Z06I : XG 54 44 ZqR Z4T [38] := Z1 (by rfl) (by rfl) _
theorem ZLb : Z4T.toList = [Zoc, ZlU] := nf
theorem ZLt : stepA E C B 44 Z4T Zoc (φ, H) = stp (some 38) φ H (just (aBin E.T .add 3 (fget φ 33) (.int .i64 1))) := nf
theorem ZLm : stepA E C B 44 Z4T ZlU (φ, H) = some (fput φ 33 (fget φ 38), H) := nf
theorem Z064 : XQ 54 44 ZbJ ZkK ZqR := Z0 (by rfl) _
theorem Z07m : XQ 54 44 ZaK ZbC ZbJ := Z0 (by rfl) _
theorem Z0bT : XQ 54 44 Z5J Zol ZaK := Z0 (by rfl) _
theorem Z0b8 : execA E C (fg 54) B 44 E0 N ZqO s = iterA (execA E C (fg 54) B 44 E0 N Z5J) (headA E0) N s := ZM (by rfl) s
theorem Z09p : execA E C (fg 54) B 44 E0 N Zkw s = blockX 3 (fun s => (forget s.1 [9, 32, 33, 34], s.2)) (execA E C (fg 54) B 44 E0 N ZqO s) := Zf (by rfl) (by rfl) s
theorem Z0dU : XQ 54 44 Za6 ZjM Zkw := Z0 (by rfl) _
def ZkP := kR ZbT
def Z1B := kO ZkP
def Zkl := opN Z1B 0
def Zk8 := opN Z1B 1
def ZkH := opN Z1B 2
def Zqd := opN Z1B 3
theorem Z0fk : XG 54 44 ZkP Z1B [10, 39, 40, 41] := Z1 (by rfl) (by rfl) _
theorem ZPJ : Z1B.toList = [Zkl, Zk8, ZkH, Zqd] := nf
theorem ZQo : stepA E C B 44 Z1B Zkl (φ, H) = some (fput φ 39 (fget φ 7), H) := nf
theorem ZR6 : stepA E C B 44 Z1B Zk8 (φ, H) = some (fput φ 40 (fget φ 10), H) := nf
theorem ZOY : stepA E C B 44 Z1B ZkH (φ, H) = stp (some 41) φ H (just (aBin E.T .add 3 (fget φ 39) (fget φ 40))) := nf
theorem ZN0 : stepA E C B 44 Z1B Zqd (φ, H) = some (fput φ 7 (fget φ 41), H) := nf
theorem Z0cq : XQ 54 44 ZbT Za6 ZkP := Z0 (by rfl) _
theorem Z09U : XQ 54 44 Za7 ZlX ZbT := Z0 (by rfl) _
theorem Z0dV : XQ 54 44 ZaU Zmu Za7 := Z0 (by rfl) _
theorem Z08O : execA E C (fg 54) B 44 E0 N Zqp s = blockX 2 (fun s => (forget s.1 [], s.2)) (execA E C (fg 54) B 44 E0 N ZaU s) := Zf (by rfl) (by rfl) s
def Zoa := kR Zcm
def Z4N := kO Zoa
def Zri := opN Z4N 0
def ZlB := opN Z4N 1
theorem Z06P : XG 54 44 Zoa Z4N [42] := Z1 (by rfl) (by rfl) _
theorem ZJN : Z4N.toList = [Zri, ZlB] := nf
theorem ZLa : stepA E C B 44 Z4N Zri (φ, H) = stp (some 42) φ H (just (aBin E.T .add 3 (fget φ 26) (.int .i64 1))) := nf
theorem ZOU : stepA E C B 44 Z4N ZlB (φ, H) = some (fput φ 26 (fget φ 42), H) := nf
theorem Z0aN : XQ 54 44 Zcm Zqp Zoa := Z0 (by rfl) _
theorem Z0bL : XQ 54 44 ZbP Z9w Zcm := Z0 (by rfl) _
theorem Z0dv : XQ 54 44 Z4P Znf ZbP := Z0 (by rfl) _
theorem Z08y : execA E C (fg 54) B 44 E0 N Zp2 s = iterA (execA E C (fg 54) B 44 E0 N Z4P) (headA E0) N s := ZM (by rfl) s
theorem Z0ag : execA E C (fg 54) B 44 E0 N ZiQ s = blockX 1 (fun s => (forget s.1 [1, 24, 25, 26, 27], s.2)) (execA E C (fg 54) B 44 E0 N Zp2 s) := Zf (by rfl) (by rfl) s
theorem Z0bB : XQ 54 44 Zco Zp1 ZiQ := Z0 (by rfl) _
def Z9k := kR Zab
def ZpX := kL Z9k
def Z34 := kO ZpX
def Zl6 := opN Z34 0
def ZjS := opN Z34 1
def ZoF := opN Z34 2
theorem Z0dm : XG 54 44 ZpX Z34 [7, 43] := Z1 (by rfl) (by rfl) _
theorem ZMz : Z34.toList = [Zl6, ZjS, ZoF] := nf
theorem ZO8 : stepA E C B 44 Z34 Zl6 (φ, H) = some (fput φ 43 (fget φ 7), H) := nf
theorem ZOj : stepA E C B 44 Z34 ZjS (φ, H) = some (fput φ 4 (fget φ 43), H) := nf
theorem ZKk : stepA E C B 44 Z34 ZoF (φ, H) = some (fput φ 5 (.int .i64 0), H) := nf
def ZFB := kR Z9k
theorem Z06w : execA E C (fg 54) B 44 E0 N ZFB s = some (.ret, s) := Zj (by rfl) s
theorem Z0au : XQ 54 44 Z9k ZpX ZFB := Z0 (by rfl) _
theorem Z0bt : XQ 54 44 Zab Zco Z9k := Z0 (by rfl) _
theorem Z0bR : XQ 54 44 Zbd Zo5 Zab := Z0 (by rfl) _
theorem Z0k7 : XQ 54 44 Zgu ZCV Zbd := Z0 (by rfl) _
theorem Z0i1 : XQ 54 44 Zih ZCJ Zgu := Z0 (by rfl) _
theorem Z0gj : XQ 54 44 Zbk ZBm Zih := Z0 (by rfl) _
theorem Z0hH : fInfo E 54 = some ⟨44, #[.tmp 4, .tmp 5], Zbk⟩ := nf
theorem b_54 (args : List AV) : bodyA E C fg N 54 args H B = bodyX E [.tmp 4, .tmp 5] (execA E C (fg 54) B 44 H N Zbk (Z4 args 0 [], H)) := Zq Z0hH args H
abbrev F_54 := And.intro (And.intro (And.intro (And.intro (And.intro (And.intro @Z0ke (And.intro @Z01S @ZZC)) (And.intro (And.intro @ZX1 @Z0io) (And.intro @ZT0 @Z030))) (And.intro (And.intro (And.intro @Z014 @Z05B) (And.intro @Z0jm @ZXf)) (And.intro (And.intro @ZZe @ZWQ) (And.intro @ZZR @Z0ai)))) (And.intro (And.intro (And.intro (And.intro @Z05z @ZTf) (And.intro @Z03F @ZXV)) (And.intro (And.intro @Z06U @Z0ge) (And.intro @Z0dj @Z02m))) (And.intro (And.intro (And.intro @Z02B @ZYS) (And.intro @Z05c @ZTl)) (And.intro (And.intro @Z04y @ZSE) (And.intro @Z05E @Z07y))))) (And.intro (And.intro (And.intro (And.intro (And.intro @Z02Z @ZZz) (And.intro @ZRN @Z0ei)) (And.intro (And.intro @Z06Q @Z0ae) (And.intro @Z09m @Z06X))) (And.intro (And.intro (And.intro @Z0h5 @Z0jl) (And.intro @Z0g2 @Z0cf)) (And.intro (And.intro @ZRU @ZVX) (And.intro @Z0ff @Z031)))) (And.intro (And.intro (And.intro (And.intro @Z03k @Z04i) (And.intro @ZUJ @Z06l)) (And.intro (And.intro @Z05V @ZX8) (And.intro @Z0a0 @Z0aT))) (And.intro (And.intro (And.intro @Z08c @Z0d5) (And.intro @Z029 @Z04w)) (And.intro (And.intro @ZTN @ZZs) (And.intro @Z0al @ZRd)))))) (And.intro (And.intro (And.intro (And.intro (And.intro @ZJV (And.intro @ZM8 @Z0fh)) (And.intro (And.intro @ZLN @ZMI) (And.intro @ZLn @ZPW))) (And.intro (And.intro (And.intro @Z0bb @ZJx) (And.intro @ZOn @Z0eE)) (And.intro (And.intro @Z0dq @Z0cb) (And.intro @Z0db @ZL8)))) (And.intro (And.intro (And.intro (And.intro @ZPI @ZLD) (And.intro @ZNe @ZR2)) (And.intro (And.intro @Z06b @Z06I) (And.intro @ZLb @ZLt))) (And.intro (And.intro (And.intro @ZLm @Z064) (And.intro @Z07m @Z0bT)) (And.intro (And.intro @Z0b8 @Z09p) (And.intro @Z0dU @Z0fk))))) (And.intro (And.intro (And.intro (And.intro (And.intro @ZPJ @ZQo) (And.intro @ZR6 @ZOY)) (And.intro (And.intro @ZN0 @Z0cq) (And.intro @Z09U @Z0dV))) (And.intro (And.intro (And.intro @Z08O @Z06P) (And.intro @ZJN @ZLa)) (And.intro (And.intro @ZOU @Z0aN) (And.intro @Z0bL @Z0dv)))) (And.intro (And.intro (And.intro (And.intro @Z08y @Z0ag) (And.intro @Z0bB @Z0dm)) (And.intro (And.intro @ZMz @ZO8) (And.intro @ZOj @ZKk))) (And.intro (And.intro (And.intro @Z06w @Z0au) (And.intro @Z0bt @Z0bR)) (And.intro (And.intro @Z0k7 @Z0i1) (And.intro @Z0gj @b_54))))))
end Go.AM.Ytfmnoohhhokicaa
end
noncomputable section
namespace Go.AM.Rub
def cntE (left : Int) (m : Nat) : Nat → Int → Nat
 | 0, _ => 0
 | f + 1, t => if t * (m : Int) ≥ left ∧ t ≥ 0 then cntE left m f (t - 1) + 1 else 0
theorem Z4y (left : Int) (m : Nat) : ∀ (f : Nat) (t : Int), t < f → (∀ j : Nat, j < cntE left m f t → (t - j) * (m : Int) ≥ left ∧ t - j ≥ 0) ∧ ¬ ((t - cntE left m f t) * (m : Int) ≥ left ∧ t - cntE left m f t ≥ 0)
 | 0, t, h => by
   refine ⟨fun j hj => by simp [cntE] at hj, ?_⟩
   simp only [cntE]
   intro hh
   omega
 | f + 1, t, h => by
   simp only [cntE]
   split
   · rename_i hc
     obtain ⟨h1, h2⟩ := Z4y left m f (t - 1) (by omega)
     have e : ∀ c : Nat, t - ((c + 1 : Nat) : Int) = t - 1 - (c : Int) := fun c => by omega
     refine ⟨fun j hj => ?_, ?_⟩
     · cases j with
       | zero => simpa using hc
       | succ j =>
         have := h1 j (by omega)
         rw [← e] at this
         exact this
     · rw [← e] at h2; exact h2
   · rename_i hc
     refine ⟨fun j hj => absurd hj (by omega), ?_⟩
     simpa using hc
def eaR (x : Nat → Int) (n : Nat) : Nat → List Int → Int → Int → List (List Int)
 | 0, l, _, _ => [l]
 | m + 1, l, sum, most => (List.range (cntE (x n - sum) (m + 1) 100 (min most (x (l.length + 1) - sum)))).flatMap fun (i : Nat) =>
     eaR x n m (l ++ [min most (x (l.length + 1) - sum) - i]) (sum + (min most (x (l.length + 1) - sum) - i)) (min most (x (l.length + 1) - sum) - i)
def eaP (x : Nat → Int) (n m : Nat) (l : List Int) (sum t0 : Int) (j : Nat) : List (List Int) := (List.range j).flatMap fun (i : Nat) => eaR x n m (l ++ [t0 - i]) (sum + (t0 - i)) (t0 - i)
theorem Z5p (x : Nat → Int) (n m : Nat) (l : List Int) (sum t0 : Int) (j : Nat) : eaP x n m l sum t0 (j + 1) = eaP x n m l sum t0 j ++ eaR x n m (l ++ [t0 - j]) (sum + (t0 - j)) (t0 - j) := by
 unfold eaP
 rw [List.range_succ, List.flatMap_append]
 simp
theorem Z5o (x : Nat → Int) (n m : Nat) (l : List Int) (sum most : Int) : eaR x n (m + 1) l sum most = eaP x n m l sum (min most (x (l.length + 1) - sum)) (cntE (x n - sum) (m + 1) 100 (min most (x (l.length + 1) - sum))) := rfl
theorem ZdU (left : Int) (m : Nat) : ∀ (f : Nat) (t : Int), t ≤ 8 → cntE left m f t ≤ 9
 | 0, t, _ => by simp [cntE]
 | f + 1, t, h => by
   have key : ∀ (f : Nat) (t : Int) (c : Nat), t + 1 ≤ c → cntE left m f t ≤ c := by
     intro f
     induction f with
     | zero => intro t c _; simp [cntE]
     | succ f ih =>
       intro t c hc
       simp only [cntE]
       split
       · rename_i hh
         have := ih (t - 1) (c - 1) (by omega)
         omega
       · omega
   exact key (f + 1) t 9 (by omega)
theorem ZsG (x : Nat → Int) (n : Nat) : ∀ (m : Nat) (l : List Int) (sum most : Int), most ≤ 8 → (eaR x n m l sum most).length ≤ 9 ^ m
 | 0, l, _, _, _ => by simp [eaR]
 | m + 1, l, sum, most, h => by
   rw [Z5o]
   have hc := ZdU (x n - sum) (m + 1) 100 (min most (x (l.length + 1) - sum)) (by omega)
   have key : ∀ j, (eaP x n m l sum (min most (x (l.length + 1) - sum)) j).length ≤ j * 9 ^ m := by
     intro j
     induction j with
     | zero => simp [eaP]
     | succ j ih =>
       rw [Z5p, List.length_append, Nat.succ_mul]
       have := ZsG x n m (l ++ [min most (x (l.length + 1) - sum) - j]) (sum + (min most (x (l.length + 1) - sum) - j)) (min most (x (l.length + 1) - sum) - j) (by omega)
       omega
   have := key (cntE (x n - sum) (m + 1) 100 (min most (x (l.length + 1) - sum)))
   have h2 := Nat.mul_le_mul_right (9 ^ m) hc
   rw [Nat.pow_succ, Nat.mul_comm (9 ^ m)]
   omega
theorem Zdv (x : Nat → Int) (n m : Nat) (l : List Int) (sum t0 : Int) (h : t0 ≤ 8) : ∀ j, (eaP x n m l sum t0 j).length ≤ j * 9 ^ m
 | 0 => by simp [eaP]
 | j + 1 => by
   have ih := Zdv x n m l sum t0 h j
   rw [Z5p, List.length_append, Nat.succ_mul]
   have := ZsG x n m (l ++ [t0 - j]) (sum + (t0 - j)) (t0 - j) (by omega)
   omega
end Go.AM.Rub
end
noncomputable section
namespace Go.AM.Ytfmnoohhhokicaa
open Go Go.AM Go.AM.Rub
abbrev puK (i j k q : Nat) : AV := .clo 116 [.ptr i 0 1, .ptr j 0 1, .ptr k 0 1, .ptr q 0 1]
end Go.AM.Ytfmnoohhhokicaa
end
noncomputable section
namespace Go.AM.Ytfmnoohhhokicaa
open Go Go.AM Go.AM.Rub
theorem Zrc (caps args : List AV) : mutV E (.clo 116 caps) args = some (116, args ++ caps) := rfl
theorem mulb {t : Int} {m : Nat} (h : -1000 ≤ t ∧ t ≤ 1000) (hm : m ≤ 8) : -8000 ≤ t * (m : Int) ∧ t * (m : Int) ≤ 8000 := by
 rcases (by omega : m = 0 ∨ m = 1 ∨ m = 2 ∨ m = 3 ∨ m = 4 ∨ m = 5 ∨ m = 6 ∨ m = 7 ∨ m = 8) with rfl | rfl | rfl | rfl | rfl | rfl | rfl | rfl | rfl <;> omega
end Go.AM.Ytfmnoohhhokicaa
end
noncomputable section
namespace Go.AM.Ytfmnoohhhokicaa
open Go Go.AM Go.AM.Rub
theorem nineA {N a : Nat} (h1 : a ≤ 8 * N) (h2 : 9 * N ≤ 531441) : a + N ≤ 900000 := by omega
end Go.AM.Ytfmnoohhhokicaa
end
noncomputable section
namespace Go.AM.Ytfmnoohhhokicaa
open Go Go.AM Go.AM.Rub
abbrev vC (p : Nat) : AV := .clo 104 [.ptr p 0 1]
abbrev chA (l : List Int) (X : List AV) (n : Nat) (c : Int) : AHeap := [(0, ⟨.row, ics l⟩), (1, ⟨.box, [.int .i64 n]⟩), (2, ⟨.box, [vC 3]⟩), (3, ⟨.box, [.int .i64 c]⟩), (4, ⟨.box, [.ref 5 0 (n + 1) (n + 1) (n + 1) 1 false]⟩), (5, ⟨.row, X⟩), (6, ⟨.box, [puK 1 2 4 6]⟩)]
theorem visc {d : Nat} {l : List Int} {k : Nat} {c : Int} (hc : 0 ≤ c ∧ c ≤ 1000000) : pF (d + 1) 104 [.ref 0 0 k k k 1 false, .ptr 1 0 1] [(0, ⟨.row, ics l⟩), (1, ⟨.box, [.int .i64 c]⟩)] 64 = some (.tup [], [(0, ⟨.row, ics l⟩), (1, ⟨.box, [.int .i64 (c + 1)]⟩)]) := by
 rw [pF_s]
 have w : wrp .i64 (c + 1) = c + 1 := Zs (by omega)
 generalize kF d = C at *
 simp (disch := omega) only [ZF, Z4, stp, just, Rd.bind, Rd.run, Rd.opt, upds, acells, tsz, rdCells, aLoad, aStore, opStore, resA, resL, aBin, aInt, putC, Nat.reduceBEq, Nat.reduceEqDiff, Nat.reduceLeDiff, ↓reduceIte, reduceCtorEq, snaps, ZT, Z0hY, w]
theorem ZE6 {d : Nat} {l : List Int} {X : List AV} {k n : Nat} {c : Int} (hc : 0 ≤ c ∧ c ≤ 1000000) : kF (d + 1) 104 [.ref 0 0 k k k 1 false, .ptr 3 0 1] (chA l X n c) 560 = some (.tup [], chA l X n (c + 1)) := by
 have hp := visc (d := d) (l := l) (k := k) hc
 rw [Zii rfl]
 have hks : (mark (chA l X n c) 1000 (refsL [.ref 0 0 k k k 1 false, .ptr 3 0 1]) []).reverse = [0, 3] := rfl
 have hap : AM.apart [0, 3] = true := rfl
 have e1 : renL (posF [0, 3] 0) [.ref 0 0 k k k 1 false, .ptr 3 0 1] = some [.ref 0 0 k k k 1 false, .ptr 1 0 1] := rfl
 have e2 : foc (posF [0, 3] 0) (chA l X n c) 0 [0, 3] = some [(0, ⟨.row, ics l⟩), (1, ⟨.box, [.int .i64 c]⟩)] := rfl
 have hn : newsF [(0, ⟨.row, ics l⟩), (1, ⟨.box, [.int .i64 (c + 1)]⟩)] (.tup []) 2 = [] := rfl
 have hl2 : ([0, 3] : List Nat).length = 2 := rfl
 have er : List.range 2 = [0, 1] := rfl
 rw [hks]
 unfold focus
 rw [if_pos hap]
 simp only [e1, e2, hp, backF, hl2, hn, er]
 simp only [List.length_nil, baseF, freeL, AM.apart, if_true, if_false, List.append_nil, ren, renL, unf, outF, posF, List.getElem?_cons_zero, List.getElem?_cons_succ, Nat.reduceLT, goodB, BS.open_, Bool.true_or, chA, Z11, decide_true, Bool.and_self, renB, hl2, upds, Z21, Z2H, Nat.reduceEqDiff, Nat.reduceLeDiff, Nat.reduceAdd, reduceCtorEq]
structure EcA (l xs : List Int) (n : Nat) (c : Int) (H : AHeap) : Prop where
 h0 : hget H 0 = some ⟨.row, ics l⟩
 h1 : hget H 1 = some ⟨.box, [.int .i64 n]⟩
 h2 : hget H 2 = some ⟨.box, [vC 3]⟩
 h3 : hget H 3 = some ⟨.box, [.int .i64 c]⟩
 h4 : hget H 4 = some ⟨.box, [.ref 5 0 (n + 1) (n + 1) (n + 1) 1 false]⟩
 h5 : hget H 5 = some ⟨.row, ics xs⟩
 h6 : hget H 6 = some ⟨.box, [puK 1 2 4 6]⟩
def EcC (d : Nat) (l xs : List Int) (x : Nat → Int) (n k m : Nat) (sum most : Int) : Prop :=
 ∀ c : Nat, c + 9 ^ m ≤ 900000 → ∃ H, pF d 116 [.ref 0 0 k k k 1 false, .int .i64 sum, .int .i64 most, .ptr 1 0 1, .ptr 2 0 1, .ptr 4 0 1, .ptr 6 0 1] (chA l (ics xs) n c) 64 = some (.tup [], H) ∧ EcA l xs n ((c + (eaR x n m l sum most).length : Nat) : Int) H
theorem newsEc {l xs : List Int} {n : Nat} {c : Int} {H : AHeap} (h : EcA l xs n c H) : newsF H (.tup []) 7 = [] := by
 obtain ⟨h0, h1, h2, h3, h4, h5, h6⟩ := h
 have e : refsOf (.tup []) ++ List.range 7 = [0, 1, 2, 3, 4, 5, 6] := rfl
 unfold newsF
 rw [e]
 simp [mark, h0, h1, h2, h3, h4, h5, h6, refsL, refsOf]
noncomputable section
variable {d : Nat} {l l' xs : List Int} {x : Nat → Int} {n k m : Nat} {sum most : Int} {v : List AV}
theorem Z03r (hC : EcC d l' xs x n k m sum most) {c : Nat} (h8 : c + 9 ^ m ≤ 900000) : kF d 116 [.ref 120 0 k k k 1 false, .int .i64 sum, .int .i64 most, .ptr 1 0 1, .ptr 2 0 1, .ptr 4 0 1, .ptr 6 0 1]
     [(0, ⟨.row, ics l⟩), (1, ⟨.box, [.int .i64 n]⟩), (2, ⟨.box, [vC 3]⟩), (3, ⟨.box, [.int .i64 c]⟩), (4, ⟨.box, [.ref 5 0 (n + 1) (n + 1) (n + 1) 1 false]⟩), (5, ⟨.row, ics xs⟩), (6, ⟨.box, [puK 1 2 4 6]⟩), (119, ⟨.row, v⟩), (120, ⟨.row, ics l'⟩)] 560 =
   some (.tup [], [(0, ⟨.row, ics l⟩), (1, ⟨.box, [.int .i64 n]⟩), (2, ⟨.box, [vC 3]⟩), (3, ⟨.box, [.int .i64 ((c + (eaR x n m l' sum most).length : Nat) : Int)]⟩), (4, ⟨.box, [.ref 5 0 (n + 1) (n + 1) (n + 1) 1 false]⟩), (5, ⟨.row, ics xs⟩), (6, ⟨.box, [puK 1 2 4 6]⟩), (119, ⟨.row, v⟩), (120, ⟨.row, ics l'⟩)]) := by
 obtain ⟨H, hp, ro⟩ := hC c h8
 rw [Zii rfl]
 have hks : (mark [(0, ⟨.row, ics l⟩), (1, ⟨.box, [.int .i64 n]⟩), (2, ⟨.box, [vC 3]⟩), (3, ⟨.box, [.int .i64 c]⟩), (4, ⟨.box, [.ref 5 0 (n + 1) (n + 1) (n + 1) 1 false]⟩), (5, ⟨.row, ics xs⟩), (6, ⟨.box, [puK 1 2 4 6]⟩), (119, ⟨.row, v⟩), (120, ⟨.row, ics l'⟩)] 1000 (refsL [.ref 120 0 k k k 1 false, .int .i64 sum, .int .i64 most, .ptr 1 0 1, .ptr 2 0 1, .ptr 4 0 1, .ptr 6 0 1]) []).reverse = [120, 1, 2, 3, 4, 5, 6] := rfl
 have hap : AM.apart [120, 1, 2, 3, 4, 5, 6] = true := rfl
 have e1 : renL (posF [120, 1, 2, 3, 4, 5, 6] 0) [.ref 120 0 k k k 1 false, .int .i64 sum, .int .i64 most, .ptr 1 0 1, .ptr 2 0 1, .ptr 4 0 1, .ptr 6 0 1] = some [.ref 0 0 k k k 1 false, .int .i64 sum, .int .i64 most, .ptr 1 0 1, .ptr 2 0 1, .ptr 4 0 1, .ptr 6 0 1] := rfl
 have e2 : foc (posF [120, 1, 2, 3, 4, 5, 6] 0) [(0, ⟨.row, ics l⟩), (1, ⟨.box, [.int .i64 n]⟩), (2, ⟨.box, [vC 3]⟩), (3, ⟨.box, [.int .i64 c]⟩), (4, ⟨.box, [.ref 5 0 (n + 1) (n + 1) (n + 1) 1 false]⟩), (5, ⟨.row, ics xs⟩), (6, ⟨.box, [puK 1 2 4 6]⟩), (119, ⟨.row, v⟩), (120, ⟨.row, ics l'⟩)] 0 [120, 1, 2, 3, 4, 5, 6] = some (chA l' (ics xs) n c) := rfl
 have hn := newsEc ro
 obtain ⟨h0, h1, h2, h3, h4, h5, h6⟩ := ro
 have hl7 : ([120, 1, 2, 3, 4, 5, 6] : List Nat).length = 7 := rfl
 have er : List.range 7 = [0, 1, 2, 3, 4, 5, 6] := rfl
 rw [hks]
 unfold focus
 rw [if_pos hap]
 simp only [e1, e2, hp, backF, hl7, hn, er]
 simp only [List.length_nil, baseF, freeL, List.append_nil, AM.apart, ren, renL, unf, outF, posF, h0, h1, h2, h3, h4, h5, h6, List.getElem?_cons_zero, List.getElem?_cons_succ, Nat.reduceLT, goodB, BS.open_, Bool.true_or, chA, Z11, decide_true, Bool.and_self, renB, hl7, upds, Z21, Z2H, Nat.reduceEqDiff, Nat.reduceLeDiff, if_true, if_false, Nat.reduceAdd, reduceCtorEq]
theorem ZK1 (hC : EcC d l' xs x n k m sum most) {c : Nat} (h8 : c + 9 ^ m ≤ 900000) : kF d 116 [.ref 120 0 k k k 1 false, .int .i64 sum, .int .i64 most, .ptr 0 0 1, .ptr 1 0 1, .ptr 3 0 1, .ptr 5 0 1]
     [(0, ⟨.box, [.int .i64 n]⟩), (1, ⟨.box, [vC 2]⟩), (2, ⟨.box, [.int .i64 c]⟩), (3, ⟨.box, [.ref 4 0 (n + 1) (n + 1) (n + 1) 1 false]⟩), (4, ⟨.row, ics xs⟩), (5, ⟨.box, [puK 0 1 3 5]⟩), (119, ⟨.row, v⟩), (120, ⟨.row, ics l'⟩)] 560 =
   some (.tup [], [(0, ⟨.box, [.int .i64 n]⟩), (1, ⟨.box, [vC 2]⟩), (2, ⟨.box, [.int .i64 ((c + (eaR x n m l' sum most).length : Nat) : Int)]⟩), (3, ⟨.box, [.ref 4 0 (n + 1) (n + 1) (n + 1) 1 false]⟩), (4, ⟨.row, ics xs⟩), (5, ⟨.box, [puK 0 1 3 5]⟩), (119, ⟨.row, v⟩), (120, ⟨.row, ics l'⟩)]) := by
 obtain ⟨H, hp, ro⟩ := hC c h8
 rw [Zii rfl]
 have hks : (mark [(0, ⟨.box, [.int .i64 n]⟩), (1, ⟨.box, [vC 2]⟩), (2, ⟨.box, [.int .i64 c]⟩), (3, ⟨.box, [.ref 4 0 (n + 1) (n + 1) (n + 1) 1 false]⟩), (4, ⟨.row, ics xs⟩), (5, ⟨.box, [puK 0 1 3 5]⟩), (119, ⟨.row, v⟩), (120, ⟨.row, ics l'⟩)] 1000 (refsL [.ref 120 0 k k k 1 false, .int .i64 sum, .int .i64 most, .ptr 0 0 1, .ptr 1 0 1, .ptr 3 0 1, .ptr 5 0 1]) []).reverse = [120, 0, 1, 2, 3, 4, 5] := rfl
 have hap : AM.apart [120, 0, 1, 2, 3, 4, 5] = true := rfl
 have e1 : renL (posF [120, 0, 1, 2, 3, 4, 5] 0) [.ref 120 0 k k k 1 false, .int .i64 sum, .int .i64 most, .ptr 0 0 1, .ptr 1 0 1, .ptr 3 0 1, .ptr 5 0 1] = some [.ref 0 0 k k k 1 false, .int .i64 sum, .int .i64 most, .ptr 1 0 1, .ptr 2 0 1, .ptr 4 0 1, .ptr 6 0 1] := rfl
 have e2 : foc (posF [120, 0, 1, 2, 3, 4, 5] 0) [(0, ⟨.box, [.int .i64 n]⟩), (1, ⟨.box, [vC 2]⟩), (2, ⟨.box, [.int .i64 c]⟩), (3, ⟨.box, [.ref 4 0 (n + 1) (n + 1) (n + 1) 1 false]⟩), (4, ⟨.row, ics xs⟩), (5, ⟨.box, [puK 0 1 3 5]⟩), (119, ⟨.row, v⟩), (120, ⟨.row, ics l'⟩)] 0 [120, 0, 1, 2, 3, 4, 5] = some (chA l' (ics xs) n c) := rfl
 have hn := newsEc ro
 obtain ⟨h0, h1, h2, h3, h4, h5, h6⟩ := ro
 have hl7 : ([120, 0, 1, 2, 3, 4, 5] : List Nat).length = 7 := rfl
 have er : List.range 7 = [0, 1, 2, 3, 4, 5, 6] := rfl
 rw [hks]
 unfold focus
 rw [if_pos hap]
 simp only [e1, e2, hp, backF, hl7, hn, er]
 simp only [List.length_nil, baseF, freeL, List.append_nil, AM.apart, ren, renL, unf, outF, posF, h0, h1, h2, h3, h4, h5, h6, List.getElem?_cons_zero, List.getElem?_cons_succ, Nat.reduceLT, goodB, BS.open_, Bool.true_or, chA, Z11, decide_true, Bool.and_self, renB, hl7, upds, Z21, Z2H, Nat.reduceEqDiff, Nat.reduceLeDiff, if_true, if_false, Nat.reduceAdd, reduceCtorEq]
end
theorem ZQH (caps args : List AV) : mutV E (.clo 104 caps) args = some (104, args ++ caps) := rfl
theorem ZSs {d : Nat} {l xs : List Int} {x : Nat → Int} {n : Nat} {sum most : Int} (hl : l.length = n) : EcC (d + 2) l xs x n n 0 sum most := by
 intro c h8
 have hlen : (ics l).length = n := by rw [Z5, hl]
 rw [pF_s]
 have hc := ZE6 (d := d) (l := l) (X := ics xs) (k := n) (n := n) (c := c) (by omega)
 simp only [chA] at hc ⊢
 have e2 : (eaR x n 0 l sum most).length = 1 := rfl
 have e3 : ((c + 1 : Nat) : Int) = (c : Int) + 1 := by omega
 rw [e2, e3]
 generalize kF (d + 1) = C at *
 simp (disch := omega) only [ZF, Z4, stp, just, Rd.bind, Rd.run, Rd.opt, upds, rdCells, aLoad, resA, resL, aLen, Z2, aBin, aInt, Nat.reduceAdd, Nat.reduceMul, Nat.reduceBEq, Nat.reduceEqDiff, Nat.reduceLeDiff, ↓reduceIte, reduceCtorEq, mutX, ZT, Z3e, callV, ZQH, hlen, hc]
 exact ⟨_, rfl, ⟨rfl, rfl, rfl, rfl, rfl, rfl, rfl⟩⟩
abbrev csA (l xs : List Int) (n k : Nat) (sum left t : Int) (c : Nat) : St :=
 ([(12, .int .i64 t), (11, .int .i64 left), (10, .int .i64 k), (6, .ptr 6 0 1), (3, .ptr 1 0 1), (1, .int .i64 sum), (0, .ref 0 0 k k k 1 false)], chA l (ics xs) n c)
abbrev chN (X : List AV) (n : Nat) (c : Int) : AHeap := [(0, ⟨.box, [.int .i64 n]⟩), (1, ⟨.box, [vC 2]⟩), (2, ⟨.box, [.int .i64 c]⟩), (3, ⟨.box, [.ref 4 0 (n + 1) (n + 1) (n + 1) 1 false]⟩), (4, ⟨.row, X⟩), (5, ⟨.box, [puK 0 1 3 5]⟩)]
abbrev csN (xs : List Int) (n : Nat) (sum left t : Int) (c : Nat) : St :=
 ([(12, .int .i64 t), (11, .int .i64 left), (10, .int .i64 0), (6, .ptr 5 0 1), (3, .ptr 0 0 1), (1, .int .i64 sum), (0, .nilsl)], chN (ics xs) n c)
theorem Z0gW {d : Nat} {l xs : List Int} {x : Nat → Int} {n k m : Nat} {sum left t : Int} (hl : l.length = k) (hk : k + (m + 1) = n) (h9 : n ≤ 8) (ht : -1000 ≤ t ∧ t ≤ 1000) (hs : -1000 ≤ sum ∧ sum ≤ 1000) (g : t * ((m + 1 : Nat) : Int) ≥ left ∧ t ≥ 0) (hC : EcC d (l ++ [t]) xs x n (k + 1) m (sum + t) t) (c0 c : Nat) (h8 : c + 9 ^ m ≤ 900000) :
   ∃ s', execA E (kF d) (fg 116) 64 62 (chA l (ics xs) n c0) 1000000 Z1X (csA l xs n k sum left t c) = some (.normal, s') ∧ headA (chA l (ics xs) n c0) s' = csA l xs n k sum left (t - 1) (c + (eaR x n m (l ++ [t]) (sum + t) t).length) := by
 have hlen : (ics l).length = k := by rw [Z5, hl]
 have htk : List.take k (ics l) = ics l := List.take_of_length_le (by omega)
 have hsn := Z5j l t
 obtain ⟨g1, g2⟩ := g
 have hnk : wrp .i64 ((n : Int) - k) = ((m + 1 : Nat) : Int) := by rw [Zs (by omega)]; omega
 have hb := mulb (m := m + 1) ht (by omega)
 obtain ⟨P, hP⟩ : ∃ P, t * ((m + 1 : Nat) : Int) = P := ⟨_, rfl⟩
 rw [hP] at g1 hb
 have w0 : wrp .i64 (t * ((m + 1 : Nat) : Int)) = P := by rw [hP]; exact Zs (by omega)
 clear hP
 have w1 : wrp .i64 (sum + t) = sum + t := Zs (by omega)
 have w2 : wrp .i64 (t - 1) = t - 1 := Zs (by omega)
 have gk : (0 : Int) ≤ (k : Int) ∧ (k : Int) ≤ (k : Int) := by omega
 have hno : ¬ k + 1 ≤ k := by omega
 generalize ((m + 1 : Nat) : Int) = M at *
 have hc := Z03r (l := l) (v := [.int .i64 t]) hC h8
 simp only [csA, chA]
 rw [← hsn] at hc
 generalize c + (eaR x n m (l ++ [t]) (sum + t) t).length = new at *
 generalize kF d = C at *
 simp (disch := omega) only [ZF, ↓gd, stp, opPick, just, Rd.bind, Rd.run, Rd.opt, upds, acells, zeroCells, tsz, elemT, rdCells, aLoad, fresh, aNum, Z2, aBin, aInt, putC, evO, Nat.reduceAdd, Nat.reduceMul, Nat.reduceLT, Nat.reduceBEq, Nat.reduceEqDiff, Nat.reduceLeDiff, ↓reduceIte, reduceCtorEq, stpT, Rd.foot, writing, Zm, Tr.empty, Zo, apartT, disj, Z8, Zn, partsOf, fillA, repC, Zu, aAppend, srcOf, window, mutX, snaps, aSlice, aBounds, bMax, bHigh, bLow, ZT, Z3e, callVT, Zrc, hlen, htk, hno, g1, g2, hnk, w0, w1, w2, gk, hc, Z23 (show k + 1 ≤ 1000000 by omega)]
 exact ⟨_, rfl, rfl⟩
theorem Z08x {d : Nat} {xs : List Int} {x : Nat → Int} {n m : Nat} {sum left t : Int} (hk : m + 1 = n) (h9 : n ≤ 8) (ht : -1000 ≤ t ∧ t ≤ 1000) (hs : -1000 ≤ sum ∧ sum ≤ 1000) (g : t * ((m + 1 : Nat) : Int) ≥ left ∧ t ≥ 0) (hC : EcC d [t] xs x n 1 m (sum + t) t) (c0 c : Nat) (h8 : c + 9 ^ m ≤ 900000) :
   ∃ s', execA E (kF d) (fg 116) 64 62 (chN (ics xs) n c0) 1000000 Z1X (csN xs n sum left t c) = some (.normal, s') ∧ headA (chN (ics xs) n c0) s' = csN xs n sum left (t - 1) (c + (eaR x n m [t] (sum + t) t).length) := by
 have e1 : ics [t] = [.int .i64 t] := rfl
 obtain ⟨g1, g2⟩ := g
 have hnk : wrp .i64 ((n : Int) - 0) = ((m + 1 : Nat) : Int) := by rw [Zs (by omega)]; omega
 have hb := mulb (m := m + 1) ht (by omega)
 obtain ⟨P, hP⟩ : ∃ P, t * ((m + 1 : Nat) : Int) = P := ⟨_, rfl⟩
 rw [hP] at g1 hb
 have w0 : wrp .i64 (t * ((m + 1 : Nat) : Int)) = P := by rw [hP]; exact Zs (by omega)
 clear hP
 have w1 : wrp .i64 (sum + t) = sum + t := Zs (by omega)
 have w2 : wrp .i64 (t - 1) = t - 1 := Zs (by omega)
 generalize ((m + 1 : Nat) : Int) = M at *
 have hc := ZK1 (v := [.int .i64 t]) hC h8
 simp only [csN, chN]
 rw [e1] at hc
 generalize c + (eaR x n m [t] (sum + t) t).length = new at *
 generalize kF d = C at *
 simp (disch := omega) only [ZF, ↓gd, stp, opPick, just, Rd.bind, Rd.run, Rd.opt, upds, acells, zeroCells, tsz, elemT, rdCells, aLoad, fresh, aNum, Z2, aBin, aInt, putC, evO, Nat.reduceAdd, Nat.reduceMul, Nat.reduceLT, Nat.reduceBEq, Nat.reduceEqDiff, Nat.reduceLeDiff, ↓reduceIte, reduceCtorEq, stpT, Rd.foot, writing, Zm, Tr.empty, Zo, apartT, disj, Z8, Zn, partsOf, fillA, repC, Zu, aAppend, srcOf, window, mutX, snaps, aSlice, aBounds, bMax, bHigh, bLow, Int.reduceLE, Int.reduceToNat, ZT, Z3e, callVT, Zrc, g1, g2, hnk, w0, w1, w2, hc, Z23 (show 1 ≤ 1000000 by omega)]
 exact ⟨_, rfl, rfl⟩
end Go.AM.Ytfmnoohhhokicaa
end
noncomputable section
namespace Go.AM.Rub
theorem ZbH : ∀ (m : Nat) (s t : Int), s > t * (m : Int) → rowsL m s t = []
 | 0, s, t, h => by
   simp only [rowsL]
   rw [if_neg (by intro e; simp [e] at h)]
 | m + 1, s, t, h => by
   simp only [rowsL]
   rw [List.flatMap_eq_nil_iff]
   intro u hu
   have hu := (Zcr _ _).1 hu
   rw [ZbH m (s - u) u]
   · rfl
   · have h1 : u * ((m : Int) + 1) ≤ t * ((m : Int) + 1) := Int.mul_le_mul_of_nonneg_right (by omega) (by omega)
     have h2 : ((m + 1 : Nat) : Int) = (m : Int) + 1 := by omega
     rw [h2] at h
     rw [Int.mul_add, Int.mul_one] at h1
     omega
def okE (x : Nat → Int) : Nat → Int → List Int → Bool
 | _, _, [] => true
 | k, s, t :: r => decide (s + t ≤ x (k + 1)) && okE x (k + 1) (s + t) r
theorem ZFY {x : Nat → Int} : ∀ (r : List Int) (k : Nat) (s : Int), okE x k s r = true ↔ ∀ j, j < r.length → s + ps (rowF r) (j + 1) ≤ x (k + j + 1)
 | [], k, s => by simp [okE]
 | t :: r, k, s => by
   simp only [okE, Bool.and_eq_true, decide_eq_true_eq, ZFY r (k + 1) (s + t)]
   constructor
   · rintro ⟨h1, h2⟩ j hj
     cases j with
     | zero => simpa [ps, rowF] using h1
     | succ j =>
       have := h2 j (by simpa using hj)
       rw [Z3o]
       rw [show k + (j + 1) + 1 = k + 1 + j + 1 by omega]
       omega
   · intro h
     refine ⟨by simpa [ps, rowF] using h 0 (by simp), fun j hj => ?_⟩
     have := h (j + 1) (by simpa using hj)
     rw [Z3o] at this
     rw [show k + (j + 1) + 1 = k + 1 + j + 1 by omega] at this
     omega
theorem ZF9 : ∀ (n k : Nat), k ≤ n + 1 → dnN n = ((List.range (n + 1 - k)).map fun (i : Nat) => (n : Int) - i) ++ (if k = 0 then [] else dnN (k - 1)) := by
 intro n k hk
 cases k with
 | zero => simp [Z2Q]
 | succ k =>
   rw [if_neg (by omega), Z2Q, Z2Q, show n + 1 = (n - k) + (k + 1) by omega, List.range_add, List.map_append, List.map_map]
   rw [show n - k + (k + 1) - (k + 1) = n - k by omega]
   congr 1
   rw [show k + 1 - 1 + 1 = k + 1 by omega]
   apply List.map_congr_left
   intro a ha
   simp only [Function.comp_apply]
   omega
theorem Zov {k c : Int} (h : c ≤ k) (h0 : -1 ≤ c) : dn k = ((List.range (k - c).toNat).map fun (i : Nat) => k - i) ++ dn c := by
 unfold dn
 by_cases hk : k < 0
 · rw [if_pos hk, if_pos (by omega), show (k - c).toNat = 0 by omega]; rfl
 · rw [if_neg hk, ZF9 k.toNat (c + 1).toNat (by omega), show k.toNat + 1 - (c + 1).toNat = (k - c).toNat by omega]
   congr 1
   · apply List.map_congr_left
     intro a _
     omega
   · by_cases hc : c < 0
     · rw [if_pos (by omega), if_pos hc]
     · rw [if_neg (by omega), if_neg hc]; congr 1; omega
theorem Z5t {α β : Type} {f : α → List β} {l : List α} (h : ∀ a ∈ l, f a = []) : l.flatMap f = [] := List.flatMap_eq_nil_iff.2 h
theorem Z93 {α β : Type} {f g : α → List β} : ∀ {l : List α}, (∀ a ∈ l, f a = g a) → l.flatMap f = l.flatMap g
 | [], _ => rfl
 | a :: l, h => by rw [List.flatMap_cons, List.flatMap_cons, h a (by simp), Z93 fun b hb => h b (by simp [hb])]
theorem Z7O {α β : Type} {f : α → List β} {p : β → Bool} : ∀ {l : List α}, (l.flatMap f).filter p = l.flatMap fun a => (f a).filter p
 | [] => rfl
 | a :: l => by rw [List.flatMap_cons, List.flatMap_cons, List.filter_append, Z7O]
theorem ZHq {x : Nat → Int} {n : Nat} (hx : ∀ j, j ≤ n → x j ≤ x n) : ∀ (m : Nat) (l : List Int) (sum most : Int), l.length + m = n → most ≤ 8 → (m = 0 → sum = x n) →
   eaR x n m l sum most = ((rowsL m (x n - sum) most).filter (okE x l.length sum)).map (l ++ ·)
 | 0, l, sum, most, _, _, h => by
   have := h rfl
   simp [eaR, rowsL, this, okE, List.filter_cons]
 | m + 1, l, sum, most, hl, hm, _ => by
   obtain ⟨t0, ht0⟩ : ∃ t0 : Int, min most (x (l.length + 1) - sum) = t0 := ⟨_, rfl⟩
   obtain ⟨c, hc⟩ : ∃ c : Nat, cntE (x n - sum) (m + 1) 100 t0 = c := ⟨_, rfl⟩
   obtain ⟨hin, hout⟩ := Z4y (x n - sum) (m + 1) 100 t0 (by omega)
   have hxk := hx (l.length + 1) (by omega)
   rw [hc] at hin hout
   rw [Z5o, ht0, hc, eaP]
   have hc0 : c = 0 ∨ t0 - c ≥ -1 := by
     rcases Nat.eq_zero_or_pos c with h | h
     · exact .inl h
     · right
       have := (hin (c - 1) (by omega)).2
       omega
   have hle : t0 ≤ min most (x n - sum) := by omega
   have hbad : ∀ t : Int, t ≤ t0 - c → 0 ≤ t → rowsL m (x n - sum - t) t = [] := by
     intro t h1 h2
     apply ZbH
     have h3 : ¬ (t0 - c) * ((m + 1 : Nat) : Int) ≥ x n - sum := fun h => hout ⟨h, by omega⟩
     have h4 : t * ((m : Int) + 1) ≤ (t0 - c) * ((m : Int) + 1) := Int.mul_le_mul_of_nonneg_right h1 (by omega)
     have h5 : ((m + 1 : Nat) : Int) = (m : Int) + 1 := by omega
     rw [h5] at h3
     rw [Int.mul_add t, Int.mul_one] at h4
     omega
   simp only [rowsL]
   rw [Z7O, List.map_flatMap]
   have hgo : ∀ t : Int, t ≤ t0 → (((rowsL m (x n - sum - t) t).map (t :: ·)).filter (okE x l.length sum)).map (l ++ ·) = ((rowsL m (x n - (sum + t)) t).filter (okE x (l ++ [t]).length (sum + t))).map ((l ++ [t]) ++ ·) := by
     intro t ht
     rw [show x n - (sum + t) = x n - sum - t by omega]
     rw [List.filter_map, List.map_map]
     have e1 : (okE x l.length sum) ∘ (t :: ·) = okE x (l ++ [t]).length (sum + t) := by
       funext r
       simp only [Function.comp_apply, okE, List.length_append, List.length_singleton]
       rw [decide_eq_true (by omega)]
       simp
     rw [e1]
     apply List.map_congr_left
     intro r _
     simp
   by_cases hneg : min most (x n - sum) < 0
   · have : dn (min most (x n - sum)) = [] := by unfold dn; rw [if_pos hneg]
     rw [this, List.flatMap_nil]
     apply Z5t
     intro i hi
     have := (hin i (List.mem_range.1 hi)).2
     omega
   · have hsp : dn (min most (x n - sum)) = ((List.range (min most (x n - sum) - max t0 (-1)).toNat).map fun (i : Nat) => min most (x n - sum) - i) ++ dn (max t0 (-1)) := Zov (by omega) (by omega)
     rw [hsp, List.flatMap_append]
     have z1 : (((List.range (min most (x n - sum) - max t0 (-1)).toNat).map fun (i : Nat) => min most (x n - sum) - i).flatMap fun t => (((rowsL m (x n - sum - t) t).map (t :: ·)).filter (okE x l.length sum)).map (l ++ ·)) = [] := by
       apply Z5t
       intro t ht
       obtain ⟨i, hi, rfl⟩ := List.mem_map.1 ht
       have hi := List.mem_range.1 hi
       rw [List.map_eq_nil_iff, List.filter_eq_nil_iff]
       intro r hr
       obtain ⟨r', hr', rfl⟩ := List.mem_map.1 hr
       simp only [okE]
       rw [decide_eq_false (by omega)]
       simp
     rw [z1, List.nil_append]
     by_cases ht : t0 < 0
     · have : dn (max t0 (-1)) = [] := by unfold dn; rw [if_pos (by omega)]
       rw [this, List.flatMap_nil]
       apply Z5t
       intro i hi
       have := (hin i (List.mem_range.1 hi)).2
       omega
     · rw [show max t0 (-1) = t0 by omega]
       have hsp2 : dn t0 = ((List.range c).map fun (i : Nat) => t0 - i) ++ dn (t0 - c) := by
         have := Zov (k := t0) (c := t0 - c) (by omega) (by omega)
         rw [show (t0 - (t0 - c)).toNat = c by omega] at this
         exact this
       rw [hsp2, List.flatMap_append, List.flatMap_map]
       have z2 : ((dn (t0 - c)).flatMap fun t => (((rowsL m (x n - sum - t) t).map (t :: ·)).filter (okE x l.length sum)).map (l ++ ·)) = [] := by
         apply Z5t
         intro t ht
         have := (Zcr _ _).1 ht
         rw [hbad t (by omega) this.1]
         rfl
       rw [z2, List.append_nil]
       apply Z93
       intro i hi
       have hi2 := hin i (List.mem_range.1 hi)
       rw [hgo (t0 - i) (by omega)]
       refine ZHq hx m (l ++ [t0 - i]) (sum + (t0 - i)) (t0 - i) (by simp; omega) (by omega) fun hm0 => ?_
       subst hm0
       have e : l.length + 1 = n := by omega
       rw [e] at ht0
       have h1 := hi2.1
       rw [show ((0 + 1 : Nat) : Int) = 1 from rfl, Int.mul_one] at h1
       omega
end Go.AM.Rub
end
noncomputable section
namespace Go.AM.Ytfmnoohhhokicaa
open Go Go.AM Go.AM.Rub
def beL (row : List Int) : List (List Int) := eaR (ps (rowF row)) row.length row.length [] 0 8
end Go.AM.Ytfmnoohhhokicaa
end
noncomputable section
namespace Go.AM.Ytfmnoohhhokicaa
open Go Go.AM Go.AM.Rub
theorem Zv4 {n : Nat} {a : List Int} (h : Rw n a) : ∀ m j, j + m ≤ n → ps (rowF a) j ≤ ps (rowF a) (j + m)
 | 0, j, _ => Int.le_refl _
 | m + 1, j, hj => by
   have ih := Zv4 h m j (by omega)
   have := rw_b h (k := j + m) (by omega)
   rw [show j + (m + 1) = j + m + 1 by omega, ps]
   omega
theorem Z0eY {n : Nat} {a l : List Int} (ha : Rw n a) (hl : Rw n l) (he : ps (rowF l) n = ps (rowF a) n) : okE (ps (rowF a)) 0 0 l = true ↔ MajL a l := by
 rw [ZFY, hl.len]
 constructor
 · intro h
   refine ⟨by rw [ha.len, he], fun k hk => ?_⟩
   rw [ha.len] at hk
   cases k with
   | zero => exact Int.le_refl _
   | succ k =>
     have := h k (by omega)
     rw [Nat.zero_add] at this
     omega
 · intro h j hj
   have := h.le (j + 1) (by rw [ha.len]; omega)
   rw [Nat.zero_add]
   omega
theorem Z0f1 {n : Nat} {a : List Int} (ha : Rw n a) (p : List Int → Bool) (hp : ∀ l, Rw n l → ps (rowF l) n = ps (rowF a) n → (p l = true ↔ MajL a l)) : beL a = (rowsL n (ps (rowF a) n) 8).filter p := by
 unfold beL
 have hx : ∀ j, j ≤ a.length → ps (rowF a) j ≤ ps (rowF a) a.length := fun j hj => by
   have := Zv4 ha (a.length - j) j (by rw [ha.len] at hj ⊢; omega)
   rw [show j + (a.length - j) = a.length by omega] at this
   exact this
 rw [ZHq hx a.length [] 0 8 (by simp) (by omega) (fun h0 => by rw [h0]; rfl), ha.len, Int.sub_zero]
 simp only [List.nil_append, List.map_id']
 apply List.filter_congr
 intro l hl
 obtain ⟨h1, h2⟩ := Zd6 hl
 rw [Bool.eq_iff_iff, hp l h1 h2]
 exact Z0eY ha h1 h2
theorem ZMo {n : Nat} {s : Int} (h : n ≤ 6) : (rowsL n s 8).length ≤ 531441 := by
 have := Z45 n s 8 (by omega)
 have := Nat.pow_le_pow_right (n := 9) (show 0 < 9 by omega) h
 omega
end Go.AM.Ytfmnoohhhokicaa
end
noncomputable section
namespace Go.AM.Ytfmnoohhhokicaa
open Go Go.AM Go.AM.Rub
theorem nineC {N a b : Nat} (h : b + 9 * N ≤ 900000) (h1 : a ≤ 8 * N) : b + a + N ≤ 900000 := by omega
theorem ZHU {d n : Nat} {xs : List Int} {x : Nat → Int} (hn0 : 0 < n) (h6 : n ≤ 6) (hxl : xs.length = n + 1) (hxx : ∀ j, j ≤ n → (ics xs)[j]? = some (.int .i64 (x j))) (hxb : ∀ j, j ≤ n → 0 ≤ x j ∧ x j ≤ 500) : ∀ (m : Nat) (l : List Int) (k : Nat) (sum most : Int), l.length = k → k + m = n → 0 ≤ sum ∧ sum ≤ 8 * k → 0 ≤ most ∧ most ≤ 8 → EcC (d + m + 2) l xs x n k m sum most
 | 0, l, k, sum, most, hl, hk, _, _ => by
   rw [Nat.add_zero] at hk
   subst hk
   exact ZSs hl
 | m + 1, l, k, sum, most, hl, hk, hs, hm => by
   intro c0 h8
   have hb1 := hxb (k + 1) (by omega)
   have hbn := hxb n (Nat.le_refl _)
   obtain ⟨t0, ht0⟩ : ∃ t0 : Int, min most (x (k + 1) - sum) = t0 := ⟨_, rfl⟩
   have ht8 : t0 ≤ 8 := by omega
   have ht1 : t0 < ((100 : Nat) : Int) := by omega
   have hc9 := ZdU (x n - sum) (m + 1) 100 t0 ht8
   obtain ⟨hin, hout⟩ := Z4y (x n - sum) (m + 1) 100 t0 ht1
   clear ht1
   obtain ⟨c, hcc⟩ : ∃ c : Nat, cntE (x n - sum) (m + 1) 100 t0 = c := ⟨_, rfl⟩
   rw [hcc] at hin hout hc9
   have hall : eaP x n m l sum t0 c = eaR x n (m + 1) l sum most := by rw [Z5o, hl, ht0, hcc]
   clear hcc
   have hrec : ∀ j : Nat, j < c → EcC (d + m + 2) (l ++ [t0 - j]) xs x n (k + 1) m (sum + (t0 - j)) (t0 - j) := fun j hj => by
     have := (hin j hj).2
     clear h8
     exact ZHU hn0 h6 hxl hxx hxb m (l ++ [t0 - j]) (k + 1) (sum + (t0 - j)) (t0 - j) (by simp [hl]) (by omega) (by omega) (by omega)
   have hlen : (ics l).length = k := by rw [Z5, hl]
   have hxlen : (ics xs).length = n + 1 := by rw [Z5, hxl]
   have hx1 : (ics xs)[k + 1]? = some (.int .i64 (x (k + 1))) := hxx (k + 1) (by omega)
   have hxn : (ics xs)[n]? = some (.int .i64 (x n)) := hxx n (Nat.le_refl _)
   have h9s : 9 ^ (m + 1) = 9 * 9 ^ m := by rw [Nat.pow_succ, Nat.mul_comm]
   have hfl : ∀ j, j < c → (eaP x n m l sum t0 j).length ≤ 8 * 9 ^ m := fun j hj => Nat.le_trans (Zdv x n m l sum t0 ht8 j) (Nat.mul_le_mul_right _ (by omega))
   have hB8 : ∀ j, j < c → c0 + (eaP x n m l sum t0 j).length + 9 ^ m ≤ 900000 := fun j hj => by
     rw [h9s] at h8
     exact nineC h8 (hfl j hj)
   clear h9s h8 hfl
   have gk : ¬ (k : Int) = n := by omega
   have gk' : ((k : Int) == n) = false := by rw [beq_eq_false_iff_ne]; exact gk
   have b1 : (0 : Int) ≤ ((k + 1 : Nat) : Int) ∧ ((k + 1 : Nat) : Int) < ((n + 1 : Nat) : Int) := by omega
   have bn : (0 : Int) ≤ (n : Int) ∧ (n : Int) < ((n + 1 : Nat) : Int) := by omega
   have w1 : ∀ _ : Unit, wrp .i64 (x n - sum) = x n - sum := fun _ => Zs (by omega)
   have w2 : ∀ _ : Unit, wrp .i64 (x (k + 1) - sum) = x (k + 1) - sum := fun _ => Zs (by omega)
   have w3 : ∀ _ : Unit, wrp .i64 ((k : Int) + 1) = ((k + 1 : Nat) : Int) := fun _ => by rw [Zs (by omega)]; omega
   have emin : (if x (k + 1) - sum < most then x (k + 1) - sum else most) = t0 := by rw [← ht0]; split <;> omega
   have e2 : ∀ j : Nat, t0 - ((j + 1 : Nat) : Int) = t0 - j - 1 := fun j => by omega
   have z0 : t0 - ((0 : Nat) : Int) = t0 := by omega
   have hnk : ∀ _ : Unit, wrp .i64 ((n : Int) - k) = ((m + 1 : Nat) : Int) := fun _ => by rw [Zs (by omega)]; omega
   have hmb := mulb (t := t0 - c) (m := m + 1) (by omega) (by omega)
   obtain ⟨P, hP⟩ : ∃ P, (t0 - c) * ((m + 1 : Nat) : Int) = P := ⟨_, rfl⟩
   rw [hP] at hout hmb
   have w0 : ∀ _ : Unit, wrp .i64 ((t0 - c) * ((m + 1 : Nat) : Int)) = P := fun _ => by rw [hP]; exact Zs (by omega)
   clear hP
   rw [show d + (m + 1) + 2 = (d + m + 2) + 1 by omega, pF_s]
   have hloop := loopM (f := execA E (kF (d + m + 2)) (fg 116) 64 62 (chA l (ics xs) n c0) 1000000 Z1X) (E0 := chA l (ics xs) n c0) (fun j => csA l xs n k sum (x n - sum) (t0 - j) (c0 + (eaP x n m l sum t0 j).length)) c (fun j hj => by
       simp only [Z5p, e2, List.length_append, ← Nat.add_assoc]
       exact Z0gW hl hk (by omega) (by omega) (by omega) (hin j hj) (hrec j hj) c0 (c0 + (eaP x n m l sum t0 j).length) (hB8 j hj)) (Z9z (by simp [chA, Z11])) (by omega)
     (e := .exit 0) (se := ([(46, .bool false), (12, .int .i64 (t0 - c)), (11, .int .i64 (x n - sum)), (10, .int .i64 k), (6, .ptr 6 0 1), (3, .ptr 1 0 1), (1, .int .i64 sum), (0, .ref 0 0 k k k 1 false)], chA l (ics xs) n ((c0 + (eaR x n (m + 1) l sum most).length : Nat) : Int)))
     (by
       simp only [csA, hall, chA]
       generalize x n - sum = lf at *
       by_cases g1 : P ≥ lf
       · have g2 : ¬ t0 - c ≥ 0 := fun h => hout ⟨g1, h⟩
         simp (disch := omega) only [ZF, ↓gd, stp, opPick, just, Rd.bind, Rd.run, Rd.opt, upds, rdCells, aLoad, aBin, aInt, Nat.reduceBEq, Nat.reduceEqDiff, Nat.reduceLeDiff, ↓reduceIte, reduceCtorEq, ZT, Z3e, hnk (), w0 (), g1, g2]
       · simp (disch := omega) only [ZF, ↓gd, stp, opPick, just, Rd.bind, Rd.run, Rd.opt, upds, rdCells, aLoad, aBin, aInt, Nat.reduceBEq, Nat.reduceEqDiff, Nat.reduceLeDiff, ↓reduceIte, reduceCtorEq, ZT, Z3e, hnk (), w0 (), g1]) (by simp)
   have e0 : eaP x n m l sum t0 0 = [] := rfl
   simp only [csA, e0, z0, chA, List.length_nil, Nat.add_zero] at hloop
   simp only [chA]
   generalize c0 + (eaR x n (m + 1) l sum most).length = R at *
   generalize kF (d + m + 2) = C at *
   simp (disch := omega) only [ZF, Z4, stp, justO, just, Rd.bind, Rd.run, Rd.opt, upds, tsz, rdCells, aLoad, resA, resL, Z3, aNum, aLen, Z2, aMin, aBin, aInt, Nat.reduceAdd, Nat.reduceMul, Nat.reduceLT, Nat.reduceBEq, Nat.reduceEqDiff, Nat.reduceLeDiff, ↓reduceIte, reduceCtorEq, ZT, Z3e, hlen, hxlen, hx1, hxn, w1 (), w2 (), w3 (), b1, bn, gk', emin, hloop]
   exact ⟨_, rfl, ⟨rfl, rfl, rfl, rfl, rfl, rfl, rfl⟩⟩
structure EcN (xs : List Int) (n : Nat) (c : Int) (H : AHeap) : Prop where
 h0 : hget H 0 = some ⟨.box, [.int .i64 n]⟩
 h1 : hget H 1 = some ⟨.box, [vC 2]⟩
 h2 : hget H 2 = some ⟨.box, [.int .i64 c]⟩
 h3 : hget H 3 = some ⟨.box, [.ref 4 0 (n + 1) (n + 1) (n + 1) 1 false]⟩
 h4 : hget H 4 = some ⟨.row, ics xs⟩
 h5 : hget H 5 = some ⟨.box, [puK 0 1 3 5]⟩
theorem ZTa {d n : Nat} {xs : List Int} {x : Nat → Int} (hn0 : 0 < n) (h6 : n ≤ 6) (hxl : xs.length = n + 1) (hxx : ∀ j, j ≤ n → (ics xs)[j]? = some (.int .i64 (x j))) (hxb : ∀ j, j ≤ n → 0 ≤ x j ∧ x j ≤ 500) {sum : Int} (hs : sum = 0) :
   ∃ H, pF (d + n + 2) 116 [.nilsl, .int .i64 sum, .int .i64 8, .ptr 0 0 1, .ptr 1 0 1, .ptr 3 0 1, .ptr 5 0 1] (chN (ics xs) n 0) 64 = some (.tup [], H) ∧ EcN xs n (eaR x n n [] sum 8).length H := by
 obtain ⟨m, rfl⟩ : ∃ m, n = m + 1 := ⟨n - 1, by omega⟩
 have hb1 := hxb 1 (by omega)
 have hbn := hxb (m + 1) (Nat.le_refl _)
 obtain ⟨t0, ht0⟩ : ∃ t0 : Int, min 8 (x 1 - sum) = t0 := ⟨_, rfl⟩
 have ht8 : t0 ≤ 8 := by omega
 have ht1 : t0 < ((100 : Nat) : Int) := by omega
 have hc9 := ZdU (x (m + 1) - sum) (m + 1) 100 t0 ht8
 obtain ⟨hin, hout⟩ := Z4y (x (m + 1) - sum) (m + 1) 100 t0 ht1
 clear ht1
 obtain ⟨c, hcc⟩ : ∃ c : Nat, cntE (x (m + 1) - sum) (m + 1) 100 t0 = c := ⟨_, rfl⟩
 rw [hcc] at hin hout hc9
 have hall : eaP x (m + 1) m [] sum t0 c = eaR x (m + 1) (m + 1) [] sum 8 := by rw [Z5o, List.length_nil, Nat.zero_add, ht0, hcc]
 clear hcc
 have hrec : ∀ j : Nat, j < c → EcC (d + m + 2) [t0 - j] xs x (m + 1) 1 m (sum + (t0 - j)) (t0 - j) := fun j hj => by
   have := (hin j hj).2
   exact ZHU hn0 h6 hxl hxx hxb m [t0 - j] 1 (sum + (t0 - j)) (t0 - j) rfl (by omega) (by omega) (by omega)
 have hxlen : (ics xs).length = m + 1 + 1 := by rw [Z5, hxl]
 have hx1 : (ics xs)[1]? = some (.int .i64 (x 1)) := hxx 1 (by omega)
 have hxn : (ics xs)[m + 1]? = some (.int .i64 (x (m + 1))) := hxx (m + 1) (Nat.le_refl _)
 have gk : ¬ (0 : Int) = ((m + 1 : Nat) : Int) := by omega
 have gk' : ((0 : Int) == ((m + 1 : Nat) : Int)) = false := by rw [beq_eq_false_iff_ne]; exact gk
 have b1 : (0 : Int) ≤ 1 ∧ (1 : Int) < ((m + 1 + 1 : Nat) : Int) := by omega
 have bn : (0 : Int) ≤ ((m + 1 : Nat) : Int) ∧ ((m + 1 : Nat) : Int) < ((m + 1 + 1 : Nat) : Int) := by omega
 have w1 : ∀ _ : Unit, wrp .i64 (x (m + 1) - sum) = x (m + 1) - sum := fun _ => Zs (by omega)
 have w2 : ∀ _ : Unit, wrp .i64 (x 1 - sum) = x 1 - sum := fun _ => Zs (by omega)
 have w3 : wrp .i64 (0 + 1) = 1 := rfl
 have emin : (if x 1 - sum < 8 then x 1 - sum else 8) = t0 := by rw [← ht0]; split <;> omega
 have e2 : ∀ j : Nat, t0 - ((j + 1 : Nat) : Int) = t0 - j - 1 := fun j => by omega
 have z0 : t0 - ((0 : Nat) : Int) = t0 := by omega
 have hnk : ∀ _ : Unit, wrp .i64 (((m + 1 : Nat) : Int) - 0) = ((m + 1 : Nat) : Int) := fun _ => by rw [Zs (by omega)]; omega
 have hmb := mulb (t := t0 - c) (m := m + 1) (by omega) (by omega)
 obtain ⟨P, hP⟩ : ∃ P, (t0 - c) * ((m + 1 : Nat) : Int) = P := ⟨_, rfl⟩
 rw [hP] at hout hmb
 have w0 : ∀ _ : Unit, wrp .i64 ((t0 - c) * ((m + 1 : Nat) : Int)) = P := fun _ => by rw [hP]; exact Zs (by omega)
 clear hP
 have h9c : ∀ _ : Unit, 9 ^ (m + 1) ≤ 531441 := fun _ => by have := Nat.pow_le_pow_right (n := 9) (by omega) (show m + 1 ≤ 6 by omega); omega
 have h9s : 9 ^ (m + 1) = 9 * 9 ^ m := by rw [Nat.pow_succ, Nat.mul_comm]
 have hfl : ∀ j, j < c → (eaP x (m + 1) m [] sum t0 j).length ≤ 8 * 9 ^ m := fun j hj => Nat.le_trans (Zdv x (m + 1) m [] sum t0 ht8 j) (Nat.mul_le_mul_right _ (by omega))
 have hA8 : ∀ j, j < c → 0 + (eaP x (m + 1) m [] sum t0 j).length + 9 ^ m ≤ 900000 := fun j hj => by rw [Nat.zero_add]; exact nineA (hfl j hj) (by rw [← h9s]; exact h9c ())
 clear h9s hfl
 rw [show d + (m + 1) + 2 = (d + m + 2) + 1 by omega, pF_s]
 have hloop := loopM (f := execA E (kF (d + m + 2)) (fg 116) 64 62 (chN (ics xs) (m + 1) ((0 : Nat) : Int)) 1000000 Z1X) (E0 := chN (ics xs) (m + 1) ((0 : Nat) : Int)) (fun j => csN xs (m + 1) sum (x (m + 1) - sum) (t0 - j) (0 + (eaP x (m + 1) m [] sum t0 j).length)) c (fun j hj => by
     simp only [Z5p, e2, List.length_append, ← Nat.add_assoc]
     exact Z08x rfl (by omega) (by omega) (by omega) (hin j hj) (hrec j hj) 0 (0 + (eaP x (m + 1) m [] sum t0 j).length) (hA8 j hj)) (Z9z (by simp [chN, Z11])) (by omega)
   (e := .exit 0) (se := ([(46, .bool false), (12, .int .i64 (t0 - c)), (11, .int .i64 (x (m + 1) - sum)), (10, .int .i64 0), (6, .ptr 5 0 1), (3, .ptr 0 0 1), (1, .int .i64 sum), (0, .nilsl)], chN (ics xs) (m + 1) ((eaR x (m + 1) (m + 1) [] sum 8).length : Int)))
   (by
     simp only [csN, hall, chN, Nat.zero_add]
     generalize x (m + 1) - sum = lf at *
     by_cases g1 : P ≥ lf
     · have g2 : ¬ t0 - c ≥ 0 := fun h => hout ⟨g1, h⟩
       simp (disch := omega) only [ZF, ↓gd, stp, opPick, just, Rd.bind, Rd.run, Rd.opt, upds, rdCells, aLoad, aBin, aInt, Nat.reduceBEq, Nat.reduceEqDiff, Nat.reduceLeDiff, ↓reduceIte, ZT, Z3e, hnk (), w0 (), g1, g2]
     · simp (disch := omega) only [ZF, ↓gd, stp, opPick, just, Rd.bind, Rd.run, Rd.opt, upds, rdCells, aLoad, aBin, aInt, Nat.reduceBEq, Nat.reduceEqDiff, Nat.reduceLeDiff, ↓reduceIte, ZT, Z3e, hnk (), w0 (), g1]) (by simp)
 have e0 : eaP x (m + 1) m [] sum t0 0 = [] := rfl
 simp only [csN, e0, chN, List.length_nil, Nat.add_zero, cl0, Int.sub_zero] at hloop
 simp only [chN]
 generalize (eaR x (m + 1) (m + 1) [] sum 8).length = R at *
 generalize kF (d + m + 2) = C at *
 simp (disch := omega) only [ZF, Z4, stp, justO, just, Rd.bind, Rd.run, Rd.opt, upds, tsz, rdCells, aLoad, resA, resL, Z3, aNum, aLen, Z2, aMin, aBin, aInt, Nat.reduceAdd, Nat.reduceMul, Nat.reduceLT, Nat.reduceBEq, Nat.reduceEqDiff, Nat.reduceLeDiff, ↓reduceIte, reduceCtorEq, Int.reduceToNat, ZT, Z3e, hxlen, hx1, hxn, w1 (), w2 (), w3, b1, bn, gk', emin, hloop]
 exact ⟨_, rfl, ⟨rfl, rfl, rfl, rfl, rfl, rfl⟩⟩
theorem newsEcN {xs : List Int} {n : Nat} {c : Int} {H : AHeap} (h : EcN xs n c H) : newsF H (.tup []) 6 = [] := by
 obtain ⟨h0, h1, h2, h3, h4, h5⟩ := h
 have e : refsOf (.tup []) ++ List.range 6 = [0, 1, 2, 3, 4, 5] := rfl
 unfold newsF
 rw [e]
 simp [mark, h0, h1, h2, h3, h4, h5, refsL, refsOf]
abbrev ctH (X A : List AV) (n : Nat) (c : Int) : AHeap := [(8, ⟨.box, [.int .i64 c]⟩), (26, ⟨.froz, A⟩), (387, ⟨.box, [vC 8]⟩), (388, ⟨.box, [.ref 392 0 (n + 1) (n + 1) (n + 1) 1 false]⟩), (389, ⟨.box, [.int .i64 n]⟩), (390, ⟨.box, [puK 389 387 388 390]⟩), (392, ⟨.row, X⟩)]
theorem Z0dk {d n : Nat} {xs : List Int} {x : Nat → Int} {A : List AV} (hn0 : 0 < n) (h6 : n ≤ 6) (hxl : xs.length = n + 1) (hxx : ∀ j, j ≤ n → (ics xs)[j]? = some (.int .i64 (x j))) (hxb : ∀ j, j ≤ n → 0 ≤ x j ∧ x j ≤ 500) :
   kF (d + n + 2) 116 [.nilsl, .int .i64 0, .int .i64 8, .ptr 389 0 1, .ptr 387 0 1, .ptr 388 0 1, .ptr 390 0 1] (ctH (ics xs) A n 0) 496 = some (.tup [], ctH (ics xs) A n (eaR x n n [] 0 8).length) := by
 obtain ⟨H, hp, ro⟩ := ZTa (d := d) hn0 h6 hxl hxx hxb (sum := 0) rfl
 rw [Zii rfl]
 have hks : (mark (ctH (ics xs) A n 0) 1000 (refsL [.nilsl, .int .i64 0, .int .i64 8, .ptr 389 0 1, .ptr 387 0 1, .ptr 388 0 1, .ptr 390 0 1]) []).reverse = [389, 387, 8, 388, 392, 390] := rfl
 have hap : AM.apart [389, 387, 8, 388, 392, 390] = true := rfl
 have e1 : renL (posF [389, 387, 8, 388, 392, 390] 0) [.nilsl, .int .i64 0, .int .i64 8, .ptr 389 0 1, .ptr 387 0 1, .ptr 388 0 1, .ptr 390 0 1] = some [.nilsl, .int .i64 0, .int .i64 8, .ptr 0 0 1, .ptr 1 0 1, .ptr 3 0 1, .ptr 5 0 1] := rfl
 have e2 : foc (posF [389, 387, 8, 388, 392, 390] 0) (ctH (ics xs) A n 0) 0 [389, 387, 8, 388, 392, 390] = some (chN (ics xs) n 0) := rfl
 have hn := newsEcN ro
 obtain ⟨h0, h1, h2, h3, h4, h5⟩ := ro
 have hl6 : ([389, 387, 8, 388, 392, 390] : List Nat).length = 6 := rfl
 have er : List.range 6 = [0, 1, 2, 3, 4, 5] := rfl
 rw [hks]
 unfold focus
 rw [if_pos hap]
 simp only [e1, e2, hp, backF, hl6, hn, er]
 generalize (eaR x n n [] 0 8).length = R at *
 simp only [List.length_nil, baseF, freeL, List.append_nil, AM.apart, ren, renL, unf, outF, posF, h0, h1, h2, h3, h4, h5, List.getElem?_cons_zero, List.getElem?_cons_succ, Nat.reduceLT, goodB, BS.open_, Bool.true_or, ctH, chN, Z11, decide_true, Bool.and_self, renB, hl6, upds, Z21, Z2H, Nat.reduceEqDiff, Nat.reduceLeDiff, if_true, if_false, Nat.reduceAdd, reduceCtorEq]
theorem ZEg {d n : Nat} {row : List Int} (h : Rw n row) (h0 : 0 < n) (h6 : n ≤ 6) : ∃ H, bodyA E (kF (d + n + 2)) fg 1000000 92 [.ref 26 0 n n n 1 false, vC 8] [(8, ⟨.box, [.int .i64 0]⟩), (26, ⟨.row, ics row⟩)] 384 = some (.tup [], H) ∧ hget H 8 = some ⟨.box, [.int .i64 (beL row).length]⟩ := by
 have hl := h.len
 have hb := ps_b h
 have hri := fun (site : Nat → Nat) seen ex => Z25 (d := d + n + 1) (site := site) (seen := seen) (ZmN row ex) h (by omega)
 have hc := Z0dk (d := d) (n := n) (xs := riL row) (x := ps (rowF row)) (A := ics row) h0 h6 (by unfold riL; rw [Zdd, hl]) (fun j hj => Z1F (Z2P (by omega))) (fun j hj => by have := hb j hj; omega)
 have e : eaR (ps (rowF row)) n n [] 0 8 = beL row := by unfold beL; rw [hl]
 rw [e] at hc
 have hlen := Z5 row
 have htk : List.take n (ics row) = ics row := List.take_of_length_le (by omega)
 simp only [hl] at hri hlen
 simp only [ctH] at hc
 generalize (beL row).length = R at *
 generalize kF (d + n + 2) = C at *
 simp (disch := omega) only [ZF, Z4, stp, opBox, just, Rd.bind, Rd.run, Rd.opt, upds, acells, zeroCells, tsz, rdCells, aLoad, aStore, opStore, resA, resL, fresh, aLen, Z2, putC, Nat.reduceAdd, Nat.reduceMul, Nat.reduceBEq, Nat.reduceEqDiff, Nat.reduceLeDiff, ↓reduceIte, reduceCtorEq, mutX, aCall, snaps, ZT, F_92, callV, Zrc, hlen, htk, hri, hc]
 exact ⟨_, rfl, rfl⟩
end Go.AM.Ytfmnoohhhokicaa
end
noncomputable section
namespace Go.AM.Rub
def topF (s : Int) (k : Nat) : Int := min (max (s - 8 * k) 0) 8
def topP (s : Int) (n i : Nat) : List Int := (List.range n).map fun k => if k < i then topF s k else 0
def topR (s : Int) (n : Nat) : List Int := (List.range n).map (topF s)
theorem Zlj (s : Int) (n i : Nat) : (topP s n i).length = n := by simp [topP]
theorem Z0o (s : Int) (n : Nat) : (topR s n).length = n := by simp [topR]
theorem ZIN (s : Int) (n : Nat) : topP s n 0 = List.replicate n 0 := by
 apply List.ext_getElem
 · simp [topP]
 · intro i h1 h2
   simp [topP]
theorem ZQS (s : Int) (n : Nat) : topP s n n = topR s n := by
 unfold topP topR
 apply List.map_congr_left
 intro k hk
 rw [if_pos (List.mem_range.1 hk)]
theorem ZOl (s : Int) (n i : Nat) (_ : i < n) : topP s n (i + 1) = (topP s n i).set i (topF s i) := by
 apply List.ext_getElem
 · simp [topP]
 · intro k h1 h2
   rw [List.getElem_set]
   simp only [topP, List.getElem_map, List.getElem_range]
   by_cases hk : i = k
   · subst hk
     rw [if_pos rfl, if_pos (by omega)]
   · rw [if_neg hk]
     by_cases h : k < i
     · rw [if_pos h, if_pos (by omega)]
     · rw [if_neg h, if_neg (by omega)]
theorem Z3S {s : Int} {n k : Nat} (h : k < n) : rowF (topR s n) k = topF s k := by simp [rowF, topR, h]
theorem ZyZ (s : Int) (h0 : 0 ≤ s) : ∀ k : Nat, ps (topF s) k = min s (8 * k)
 | 0 => by simp only [ps]; omega
 | k + 1 => by rw [ps, ZyZ s h0 k]; unfold topF; omega
theorem ZaW {s : Int} {n k : Nat} (h0 : 0 ≤ s) (h : k ≤ n) : ps (rowF (topR s n)) k = min s (8 * k) := by
 rw [← ZyZ s h0 k]
 exact Z07 k fun i hi => Z3S (by omega)
theorem Zdp {s : Int} {n : Nat} : Rw n (topR s n) := by
 refine ⟨Z0o s n, Z2i (fun i hi => ?_) (fun h => ?_) (fun i hi => ?_)⟩
 · rw [Z0o] at hi
   rw [Z3S hi]; unfold topF; omega
 · rw [Z0o] at h
   rw [Z3S h]; unfold topF; omega
 · rw [Z0o] at hi
   rw [Z3S hi, Z3S (by omega)]; unfold topF; omega
theorem Z0bA {n : Nat} {l : List Int} (h : Rw n l) : ∀ k, k ≤ n → ps (rowF l) k ≤ 8 * k ∧ ps (rowF l) k ≤ ps (rowF l) n := by
 have hb : ∀ k, k < n → 0 ≤ rowF l k ∧ rowF l k ≤ 8 := fun k hk => ZJ h.row k (by rw [h.len]; exact hk)
 have h1 : ∀ k, k ≤ n → ps (rowF l) k ≤ 8 * k := by
   intro k
   induction k with
   | zero => intro _; simp [ps]
   | succ k ih => intro hk; have := ih (by omega); have := hb k (by omega); rw [ps]; omega
 have h2 : ∀ m k, k + m = n → ps (rowF l) k ≤ ps (rowF l) n := by
   intro m
   induction m with
   | zero => intro k hk; rw [Nat.add_zero] at hk; rw [hk]; exact Int.le_refl _
   | succ m ih =>
     intro k hk
     have := ih (k + 1) (by omega)
     have := hb k (by omega)
     rw [ps] at *
     omega
 exact fun k hk => ⟨h1 k hk, h2 (n - k) k (by omega)⟩
theorem ZwL {s : Int} {n : Nat} {l : List Int} (h0 : 0 ≤ s) (h8 : s ≤ 8 * n) (hl : Rw n l) (hs : ps (rowF l) n = s) : MajL (topR s n) l := by
 refine ⟨by rw [Z0o, ZaW h0 (Nat.le_refl n), hs]; omega, fun k hk => ?_⟩
 rw [Z0o] at hk
 rw [ZaW h0 hk]
 have := Z0bA hl k hk
 omega
theorem ZGa : ∀ {x y : List Int}, lexGt x y → x.length = y.length → ∃ k, k ≤ x.length ∧ ps (rowF x) k > ps (rowF y) k
 | [], _, h, _ => absurd h (by cases ‹List Int› <;> exact fun h => h)
 | _ :: _, [], h, _ => absurd h (fun h => h)
 | a :: l, b :: r, h, hl => by
   rcases h with h | ⟨rfl, h⟩
   · exact ⟨1, by simp, by simp [ps, rowF]; omega⟩
   · obtain ⟨k, h1, h2⟩ := ZGa h (by simpa using hl)
     refine ⟨k + 1, by simpa using h1, ?_⟩
     rw [Z3o, Z3o]; omega
theorem ZEy {s : Int} {n : Nat} (h0 : 0 ≤ s) (h8 : s ≤ 8 * n) : (rowsL n s 8)[0]? = some (topR s n) := by
 have hm : topR s n ∈ rowsL n s 8 := by
   rw [Z0W]
   refine ⟨Z0o s n, ?_, Zdp.row⟩
   rw [← Z0S, Z0o, ZaW h0 (Nat.le_refl n)]; omega
 have hd := Z9o n s 8
 have hall : ∀ x ∈ rowsL n s 8, x.length = n ∧ totL x = s ∧ IsRow 8 x := fun x hx => (Z0W n s 8 x).1 hx
 cases hR : rowsL n s 8 with
 | nil => rw [hR] at hm; simp at hm
 | cons x R =>
   rw [hR] at hm hd hall
   rw [List.getElem?_cons_zero]
   rcases List.mem_cons.1 hm with e | e
   · rw [e]
   · exfalso
     have hg := (List.pairwise_cons.1 hd).1 _ e
     obtain ⟨x1, x2, x3⟩ := hall x (List.mem_cons_self ..)
     obtain ⟨k, k1, k2⟩ := ZGa hg (by rw [x1, Z0o])
     have := (ZwL (l := x) h0 h8 ⟨x1, x3⟩ (by rw [← x2, ← Z0S, x1])).le k (by rw [Z0o]; omega)
     omega
end Go.AM.Rub
end
noncomputable section
namespace Go.AM.Ytfmnoohhhokicaa
open Go Go.AM Go.AM.Rub
theorem ZW4 {n : Nat} {s : Int} (h0 : 0 ≤ s) (h8 : s ≤ 8 * n) : beL (topR s n) = rowsL n s 8 := by
 have he : ps (rowF (topR s n)) n = s := by rw [ZaW h0 (Nat.le_refl n)]; omega
 have := Z0f1 (a := topR s n) Zdp (fun _ => true) fun l hl hs => ⟨fun _ => ZwL h0 h8 hl (by rw [hs, he]), fun _ => rfl⟩
 rw [this, he]
 exact List.filter_eq_self.2 fun _ _ => rfl
def cntX (n : Int) (s : Int) : Int := if n < 1 ∨ n > 6 ∨ s < 0 ∨ s > n * 8 then 1 else 0
def cntY (n : Int) (s : Int) : Int := if n < 1 ∨ n > 6 ∨ s < 0 ∨ s > n * 8 then 0 else (rowsL n.toNat s 8).length
abbrev cuS (s : Int) (n i : Nat) : St := ([(29, .int .i64 i), (28, .int .i64 n), (6, .ref 26 0 n n n 1 false), (1, .int .i64 (max (s - 8 * i) 0))], [(26, ⟨.row, ics (topP s n i)⟩)])
theorem Z0ib {C : Callee} {s : Int} {n : Nat} (h0 : 0 ≤ s ∧ s ≤ 100) (h6 : n ≤ 6) (i : Nat) (hi : i < n) :
   ∃ s', (execA E C (fg 50) 0 48 [] 1000000 Z51) (cuS s n i) = some (.normal, s') ∧ headA [] s' = cuS s n (i + 1) := by
 have hl : (ics (topP s n i)).length = n := by rw [Z5, Zlj]
 have hl2 : ((ics (topP s n i)).set i (.int .i64 (topF s i))).length = n := by rw [List.length_set, hl]
 have hst : (ics (topP s n i)).set i (.int .i64 (topF s i)) = ics (topP s n (i + 1)) := by rw [ZOl s n i hi, ZvJ]
 have hat : (ics (topP s n (i + 1)))[i]? = some (.int .i64 (topF s i)) := by rw [← hst, List.getElem?_set_self (by omega)]
 have hl3 : (ics (topP s n (i + 1))).length = n := by rw [Z5, Zlj]
 have g1 : (i : Int) < n := by omega
 have em : (if 8 < max (s - 8 * (i : Int)) 0 then 8 else max (s - 8 * (i : Int)) 0) = topF s i := by unfold topF; split <;> omega
 have ec : max (s - 8 * (i : Int)) 0 - topF s i = max (s - 8 * ((i + 1 : Nat) : Int)) 0 := by unfold topF; omega
 have w : wrp .i64 (max (s - 8 * (i : Int)) 0 - topF s i) = max (s - 8 * ((i + 1 : Nat) : Int)) 0 := by rw [Zs (by unfold topF; omega), ec]
 simp only [cuS]
 generalize max (s - 8 * ((i + 1 : Nat) : Int)) 0 = q2 at *
 generalize max (s - 8 * (i : Int)) 0 = q1 at *
 generalize topF s i = v at *
 simp (disch := omega) only [ZF, stp, justO, just, Rd.bind, Rd.run, Rd.opt, upds, acells, tsz, rdCells, aLoad, aStore, opStore, Z3, aNum, Z2, aMin, aBin, aInt, putC, Nat.reduceLT, Nat.reduceBEq, Nat.reduceEqDiff, Nat.reduceLeDiff, ↓reduceIte, snaps, ZT, F_50, aMin, g1, hl, hl3, hst, hat, em, w, if_pos, Zk (show i < 1000000 by omega)]
 exact ⟨_, rfl, rfl⟩
theorem ZGL {d : Nat} {n s : Int} : ∃ H, bodyA E (kF (d + 9)) fg 1000000 50 [.int .i64 n, .int .i64 s] [] 0 = some (.tup [.int .i64 (cntY n s), .int .i64 (cntX n s)], H) := by
 unfold cntY cntX
 by_cases hb : n < 1 ∨ n > 6 ∨ s < 0 ∨ s > n * 8
 · rw [if_pos hb, if_pos hb]
   generalize kF (d + 9) = C at *
   by_cases c1 : n < 1
   · simp (disch := omega) only [ZF, ↓gd, Z4, stp, opPick, just, Rd.bind, Rd.run, Rd.opt, upds, resA, resL, aBin, aInt, Nat.reduceBEq, Nat.reduceEqDiff, Nat.reduceLeDiff, ↓reduceIte, reduceCtorEq, F_50, c1]
     exact ⟨_, rfl⟩
   · by_cases c2 : n > 6
     · simp (disch := omega) only [ZF, ↓gd, Z4, stp, opPick, just, Rd.bind, Rd.run, Rd.opt, upds, resA, resL, aBin, aInt, Nat.reduceBEq, Nat.reduceEqDiff, Nat.reduceLeDiff, ↓reduceIte, reduceCtorEq, F_50, c1, c2]
       exact ⟨_, rfl⟩
     · by_cases c3 : s < 0
       · simp (disch := omega) only [ZF, ↓gd, Z4, stp, opPick, just, Rd.bind, Rd.run, Rd.opt, upds, resA, resL, aBin, aInt, Nat.reduceBEq, Nat.reduceEqDiff, Nat.reduceLeDiff, ↓reduceIte, reduceCtorEq, F_50, c1, c2, c3]
         exact ⟨_, rfl⟩
       · have c4 : s > n * 8 := by omega
         have w : wrp .i64 (n * 8) = n * 8 := Zs (by omega)
         simp (disch := omega) only [ZF, ↓gd, Z4, stp, opPick, just, Rd.bind, Rd.run, Rd.opt, upds, resA, resL, aBin, aInt, Nat.reduceBEq, Nat.reduceEqDiff, Nat.reduceLeDiff, ↓reduceIte, reduceCtorEq, F_50, c1, c2, c3, c4, w]
         exact ⟨_, rfl⟩
 · rw [if_neg hb, if_neg hb]
   obtain ⟨m, rfl⟩ : ∃ m : Nat, n = m := ⟨n.toNat, by omega⟩
   rw [Int.toNat_natCast]
   have c1 : ¬ (m : Int) < 1 := by omega
   have c2 : ¬ (m : Int) > 6 := by omega
   have c3 : ¬ s < 0 := by omega
   have c4 : ¬ s > (m : Int) * 8 := by omega
   have hs : 0 ≤ s ∧ s ≤ 8 * m := by omega
   have h1 : 0 < m := by omega
   have h6 : m ≤ 6 := by omega
   have w : wrp .i64 ((m : Int) * 8) = (m : Int) * 8 := Zs (by omega)
   clear hb
   obtain ⟨H, he, h8⟩ := ZEg (d := d + 6 - m) (n := m) (row := topR s m) Zdp h1 h6
   rw [show d + 6 - m + m + 2 = d + 8 by omega] at he
   have he := (ZW (d := d + 8) (f := 92) rfl [.ref 26 0 m m m 1 false, vC 8] [(8, ⟨.box, [.int .i64 0]⟩), (26, ⟨.row, ics (topR s m)⟩)] 384).trans he
   rw [ZW4 hs.1 hs.2] at h8
   have hloop := loopM (f := execA E (kF (d + 9)) (fg 50) 0 48 [] 1000000 Z51) (E0 := []) (cuS s m) m (fun i hi => Z0ib (by omega) h6 i hi) rfl (by omega)
     (e := .exit 0) (se := ([(30, .bool false), (29, .int .i64 m), (28, .int .i64 m), (6, .ref 26 0 m m m 1 false), (1, .int .i64 (max (s - 8 * m) 0))], [(26, ⟨.row, ics (topR s m)⟩)]))
     (by
       simp only [cuS, ZQS]
       generalize kF (d + 9) = C at *
       simp (disch := omega) only [ZF, stp, just, Rd.bind, Rd.run, Rd.opt, upds, aBin, aInt, Nat.reduceEqDiff, Nat.reduceLeDiff, ↓reduceIte, F_50]) (by simp)
   have e0 : max (s - 8 * 0) 0 = s := by omega
   simp only [cuS, ZIN, e0, cl0] at hloop
   have hrep := Z82 m
   have hlt : (ics (topR s m)).length = m := by rw [Z5, Z0o]
   have hlr : (ics (List.replicate m 0)).length = m := by rw [Z5]; simp
   have hflat : [AV.int .i64 0].all AV.flat = true := rfl
   have hk : (m : Int) ≤ kHi .i64 := by simp only [kHi]; omega
   have hby : ((8 : Nat) : Int) * (m : Int) ≤ 281474976710656 := by omega
   generalize (rowsL m s 8).length = R at *
   generalize kF (d + 9) = C at *
   simp (disch := omega) only [ZF, ↓gd, Z4, stp, opPick, opBox, just, Rd.bind, Rd.run, Rd.opt, upds, acells, zeroCells, tsz, elemT, rdCells, aLoad, aStore, opStore, resA, resL, fresh, aNum, aLen, Z2, aBin, aInt, putC, Nat.reduceMul, Nat.reduceLT, Nat.reduceBEq, Nat.reduceEqDiff, Nat.reduceLeDiff, ↓reduceIte, reduceCtorEq, mutX, snaps, ZT, F_50, c1, c2, c3, c4, w, aMake, hrep, hflat, hk, hby, hloop, hlr, he, h8, if_pos]
   exact ⟨_, rfl⟩
theorem ZDm {d : Nat} {n s : Int} (site : Nat → Nat) (seen : List Nat) : aBack site true seen (thaw (kF (d + 10)) 50 [.int .i64 n, .int .i64 s] [] 0) = .pure (.tup [.int .i64 (cntY n s), .int .i64 (cntX n s)], []) := by
 obtain ⟨H, h⟩ := ZGL (d := d) (n := n) (s := s)
 have h' : kF (d + 10) 50 [.int .i64 n, .int .i64 s] [] 0 = some (.tup [.int .i64 (cntY n s), .int .i64 (cntX n s)], H) := by rw [ZW rfl]; exact h
 exact Z0m h' rfl (fun _ => rfl) rfl
end Go.AM.Ytfmnoohhhokicaa
end
noncomputable section
namespace Go.AM.Ytfmnoohhhokicaa
open Go Go.AM Go.AM.Rub
theorem Z0g {n : Nat} {x y : List Int} (hx : Rw n x) (hy : Rw n y) (he : ps (rowF x) n = ps (rowF y) n) (down : Bool) : qx down n x y = true ↔ if down = true then MajL x y else MajL y x := by
 unfold qx
 cases down with
 | true => simp only [if_true, decide_eq_true_eq]; exact ZJk hx he
 | false => simp only [Bool.false_eq_true, if_false, decide_eq_true_eq]; exact ZJk hy he.symm
def exG (down : Bool) (a b : List Int) : List Int := if down = true then lowL a b else joinL a b
structure ExG (down : Bool) (n : Nat) (a b g : List Int) : Prop where
 rw : Rw n g
 sum : ps (rowF g) n = ps (rowF a) n
 ok : exP down n a b g = true
 all : ∀ l, Rw n l → ps (rowF l) n = ps (rowF a) n → exP down n a b l = true → qx down n g l = true
 one : ∀ l, Rw n l → ps (rowF l) n = ps (rowF a) n → exP down n a b l = true → qx down n l g = true → l = g
theorem Z0d3 {n : Nat} {a b : List Int} (ra : Rw n a) (rb : Rw n b) (n0 : 0 < n) (h6 : n ≤ 6) (he : ps (rowF a) n = ps (rowF b) n) (down : Bool) : ExG down n a b (exG down a b) := by
 have tot : ∀ c, Rw n c → totL c = ps (rowF c) n := fun c hc => by rw [← Z0S, hc.len]
 cases down with
 | true =>
   have e : exG true a b = lowL a b := rfl
   rw [e]
   have rm := ZrZ ra rb
   obtain ⟨m1, m2⟩ := ZwP ra rb he
   have sm : ps (rowF (lowL a b)) n = ps (rowF a) n := by rw [Z6Y (by rw [ra.len]; omega), he]; omega
   refine ⟨rm, sm, ?_, fun l hl hs hp => ?_, fun l hl hs hp hq => ?_⟩
   · unfold exP
     rw [(Z0g ra rm sm.symm true).2 m1, (Z0g rb rm (by rw [sm, he]) true).2 m2]; rfl
   · unfold exP at hp
     rw [Bool.and_eq_true] at hp
     refine (Z0g rm hl (by rw [sm, hs]) true).2 (Z5H ra rb ((Z0g ra hl hs.symm true).1 hp.1) ((Z0g rb hl (by rw [hs, he]) true).1 hp.2))
   · unfold exP at hp
     rw [Bool.and_eq_true] at hp
     have h1 := Z5H ra rb ((Z0g ra hl hs.symm true).1 hp.1) ((Z0g rb hl (by rw [hs, he]) true).1 hp.2)
     exact Zfx hl rm ((Z0g hl rm (by rw [sm, hs]) true).1 hq) h1
 | false =>
   have e : exG false a b = joinL a b := rfl
   rw [e]
   obtain ⟨rj, j1, j2, j3⟩ := ZHN (by omega) ra rb (by rw [tot a ra, tot b rb, he])
   have sj : ps (rowF (joinL a b)) n = ps (rowF a) n := by
     have := Zop (by rw [rj.len, ra.len]) j1
     rw [tot _ rj, tot a ra] at this; exact this
   refine ⟨rj, sj, ?_, fun l hl hs hp => ?_, fun l hl hs hp hq => ?_⟩
   · unfold exP
     rw [(Z0g ra rj sj.symm false).2 j1, (Z0g rb rj (by rw [sj, he]) false).2 j2]; rfl
   · unfold exP at hp
     rw [Bool.and_eq_true] at hp
     exact (Z0g rj hl (by rw [sj, hs]) false).2 (j3 l hl ((Z0g ra hl hs.symm false).1 hp.1) ((Z0g rb hl (by rw [hs, he]) false).1 hp.2))
   · unfold exP at hp
     rw [Bool.and_eq_true] at hp
     have h1 := j3 l hl ((Z0g ra hl hs.symm false).1 hp.1) ((Z0g rb hl (by rw [hs, he]) false).1 hp.2)
     exact Zfx hl rj h1 ((Z0g hl rj (by rw [sj, hs]) false).1 hq)
theorem Zrz {d : Nat} {l m : List Int} {a b : AV} (ha : IV l a) (hb : IV m b) (hl : l.length ≤ 1000) (hm : m.length ≤ 1000) (down : Bool) :
   (pairE l m ≠ 0 ∧ ∃ H, bodyA E (kF (d + 30)) fg 1000000 102 [a, b, .bool down] [] 0 = some (.tup [.nilsl, .int .i64 (pairE l m)], H)) ∨
   (pairE l m = 0 ∧ ∃ H, bodyA E (kF (d + 30)) fg 1000000 102 [a, b, .bool down] [] 0 = some (.tup [.imm (ics (exG down l m)) l.length false, .int .i64 0], H)) := by
 have ht := fun (site : Nat → Nat) seen => ZML (d := d + 27) (site := site) (seen := seen) ha hb hl hm
 have sa := ZI ha
 have sb := ZI hb
 by_cases h : pairE l m = 0
 · refine .inr ⟨h, ?_⟩
   obtain ⟨n, n0, n6, r1, r2, re⟩ := Z5m.1 h
   obtain ⟨x, rfl⟩ := Z0M ha (by rw [r1.len]; exact n0)
   obtain ⟨y, rfl⟩ := Z0M hb (by rw [r2.len]; exact n0)
   obtain ⟨rg, sg, og, ag, ug⟩ := Z0d3 r1 r2 n0 n6 re down
   have hs := fun (site : Nat → Nat) seen x => Z5T (d := d + 29) (site := site) (seen := seen) (ex := x) r1 (by omega)
   have sb2 := ps_b r1 n (Nat.le_refl n)
   have hrr := rrows n (d + 29 - n) (ps (rowF l) n) 8 n6 (by omega) (by omega)
   rw [show d + 29 - n + n + 1 = d + 30 by omega] at hrr
   unfold RrC at hrr
   have hmem := Zos r1
   have hne : ¬ rowsL n (ps (rowF l) n) 8 = [] := fun e => by rw [e] at hmem; simp at hmem
   simp only [if_neg hne] at hrr
   have hlz : lcz (rowsL n (ps (rowF l) n) 8) = lcs (rowsL n (ps (rowF l) n) 8) := ZAA fun c hc e => by
     have := (Zd6 hc).1.len
     rw [e] at this; simp at this; omega
   rw [hlz] at hrr
   have hlb := ZMo (n := n) (s := ps (rowF l) n) n6
   have hC : ExC (kF (d + 30)) n := fun site seen x y u v hx hy => ZDi (d := d + 28) hx hy (by omega)
   have hrw : ∀ c ∈ rowsL n (ps (rowF l) n) 8, Rw n c ∧ ps (rowF c) n = ps (rowF l) n := fun c hc => Zd6 hc
   have hgR : exG down l m ∈ rowsL n (ps (rowF l) n) 8 := by rw [← sg]; exact Zos rg
   clear hmem hne hlz
   generalize exG down l m = g at *
   generalize hS : ps (rowF l) n = S at *
   generalize rowsL n S 8 = R at *
   have hgM : g ∈ R.filter (exP down n l m) := List.mem_filter.2 ⟨hgR, og⟩
   have hMl : (R.filter (exP down n l m)).length ≤ 531441 := Nat.le_trans (List.length_filter_le _ _) hlb
   have hMp : ∀ c ∈ R.filter (exP down n l m), Rw n c ∧ ps (rowF c) n = S ∧ exP down n l m c = true := fun c hc => by
     obtain ⟨h1, h2⟩ := List.mem_filter.1 hc
     exact ⟨(hrw c h1).1, (hrw c h1).2, h2⟩
   have hloop1 := loopM (f := execA E (kF (d + 30)) (fg 102) 0 123 [] 1000000 Z3r) (E0 := []) (fun i => exS l m n x y down R ((R.take i).filter (exP down n l m)) i) R.length (fun i hi => by
       have h1 : R[i]? = some R[i] := List.getElem?_eq_getElem hi
       have h2 : R.take (i + 1) = R.take i ++ [R[i]] := by rw [List.take_add_one, h1]; rfl
       have h3 : ((R.take i).filter (exP down n l m)).length ≤ 900000 := Nat.le_trans (List.length_filter_le _ _) (by rw [List.length_take]; omega)
       simp only [h2, List.filter_append]
       exact Z0hd hC r1 r2 (hrw _ (List.mem_of_getElem? h1)).1 i (by omega) h3 h1) rfl (by omega)
     (e := .exit 0) (se := (((29, .bool false) :: (exS l m n x y down R (R.filter (exP down n l m)) R.length).1 : AFr), (exS l m n x y down R (R.filter (exP down n l m)) R.length).2))
     (by
       have hlr := ZZ R
       simp only [exS, List.take_length]
       generalize R.filter (exP down n l m) = M at *
       generalize lcs R = RL at *
       generalize kF (d + 30) = C at *
       rcases ocvL 75 M with ⟨_, o1, o2⟩ | ⟨_, o1, o2⟩ <;> rw [o1, o2] <;>
         simp (disch := omega) only [ZF, stp, just, Rd.bind, Rd.run, Rd.opt, upds, aLen, Z2, aBin, aInt, Nat.reduceBEq, Nat.reduceEqDiff, Nat.reduceLeDiff, ↓reduceIte, ZT, Z0P, hlr]) (by simp)
   have hp : 0 < (R.filter (exP down n l m)).length := List.length_pos_of_mem hgM
   have e0 : (R.take 0).filter (exP down n l m) = [] := rfl
   have v0 : oV 75 1 ([] : List (List Int)).length = .nilsl := rfl
   have o0 : oH 75 (lcs []) = [] := rfl
   simp only [exS, e0, v0, o0, cl0, Z14 hp, Z3n hp] at hloop1
   generalize R.filter (exP down n l m) = M at *
   have hj : M.findIdx (fun c => decide (c = g)) < M.length := List.findIdx_lt_length_of_exists ⟨g, hgM, decide_eq_true rfl⟩
   have hjg : M[M.findIdx (fun c => decide (c = g))]? = some g := by
     have := List.findIdx_getElem (p := fun c => decide (c = g)) (xs := M) (w := hj)
     rw [List.getElem?_eq_getElem hj]
     exact congrArg some (of_decide_eq_true this)
   have hno : ∀ i, i < M.findIdx (fun c => decide (c = g)) → ∀ c, M[i]? = some c → M.all (qx down n c) = false := fun i hi c hc => by
     have h1 := List.not_of_lt_findIdx hi
     have h2 : M[i]'(by omega) = c := (List.getElem?_eq_some_iff.1 hc).2
     have hne : c ≠ g := fun e => by
       rw [← h2] at e
       exact absurd (decide_eq_true e) (by simpa using h1)
     rw [Bool.eq_false_iff]
     intro hall
     obtain ⟨p1, p2, p3⟩ := hMp c (List.mem_of_getElem? hc)
     exact hne (ug c p1 (by rw [p2]) p3 (List.all_eq_true.1 hall g hgM))
   have hyes : M.all (qx down n g) = true := List.all_eq_true.2 fun c hc => by
     obtain ⟨p1, p2, p3⟩ := hMp c hc
     exact ag c p1 (by rw [p2]) p3
   generalize M.findIdx (fun c => decide (c = g)) = j at *
   have hrM : ∀ c ∈ M, Rw n c := fun c hc => (hMp c hc).1
   have hloop2 := loopMS (f := execA E (kF (d + 30)) (fg 102) 0 123 [] 1000000 Z2h) (E0 := []) (s0 := ([(12, .int .i64 0), (10, .ref 75 0 M.length M.length M.length 1 false), (2, .bool down)], [(25, ⟨.row, lcs R⟩), (75, ⟨.row, lcs M⟩)])) (eyO M down) j (fun i hi => by
       have h1 : M[i]? = some M[i] := List.getElem?_eq_getElem (by omega)
       exact Z0js hC hrM (by omega) i h1 (hno i hi _ h1)) rfl (by omega) (Z0cv (C := kF (d + 30)) hC hrM (by omega) j hjg hyes) (by simp)
   have la : (ics l).length = n := by rw [Z5, r1.len]
   rw [r1.len, r2.len, h] at ht
   rw [r1.len, r2.len]
   clear hC hrw hMp ag ug og hno hyes hrM sg rg r1 r2 hgR hgM
   generalize lcs R = RL at *
   generalize R.length = rl at *
   generalize lcs M = ML at *
   generalize M.length = ml at *
   generalize kF (d + 30) = C at *
   simp (disch := omega) only [ZF, Z4, stp, just, Rd.bind, Rd.run, Rd.opt, upds, resA, resL, aLen, Z2, aBin, aInt, Nat.reduceAdd, Nat.reduceBEq, Nat.reduceEqDiff, Nat.reduceLeDiff, ↓reduceIte, reduceCtorEq, aCall, snaps, ZT, Z0P, ht, hs, hrr, hloop1, hloop2]
   exact ⟨_, rfl⟩
 · refine .inl ⟨h, ?_⟩
   generalize kF (d + 30) = C at *
   generalize pairE l m = z at *
   have h0' : (z == 0) = false := by rw [beq_eq_false_iff_ne]; exact h
   simp (disch := omega) only [ZF, Z4, stp, just, Rd.bind, Rd.run, Rd.opt, upds, resA, resL, aBin, aInt, Nat.reduceAdd, Nat.reduceBEq, Nat.reduceEqDiff, Nat.reduceLeDiff, ↓reduceIte, reduceCtorEq, aCall, snaps, Z0P, ht, h, sa 198, sb 197]
   exact ⟨_, rfl⟩
end Go.AM.Ytfmnoohhhokicaa
end
end
