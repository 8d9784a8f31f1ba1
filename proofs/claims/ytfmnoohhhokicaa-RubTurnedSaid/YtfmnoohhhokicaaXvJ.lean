/- A part of the proof of rubTurned_holds: RqJ. Own work of this project; texts printed by own programs among it. -/
import Derived.KernelRfl
import Derived.Test.YtfmnoohhhokicaaXvI
set_option maxRecDepth 1000000
set_option maxHeartbeats 16000000
noncomputable section
noncomputable section
namespace Go.AM.Ytfmnoohhhokicaa
open Go Go.AM
variable {C : Callee} {B N : Nat} {E0 : AHeap} (φ : AFr) (H : AHeap) (s : St)
def Z5d := kBody Proofs.Try.f108
def Zkm := kL Z5d
def Z2N := kO Zkm
def ZmC := opN Z2N 0
def Zjz := opN Z2N 1
def Zoq := opN Z2N 2
theorem Z06I : XG 108 14 Zkm Z2N [5, 6] := Z1 (by rfl) (by rfl) _
theorem ZMW : Z2N.toList = [ZmC, Zjz, Zoq] := nf
theorem ZIa : stepA E C B 14 Z2N ZmC (φ, H) = some (fput φ 5 (fget φ 0), H) := nf
theorem ZGV : stepA E C B 14 Z2N Zjz (φ, H) = stp (some 6) φ H (Z3 E.T (B + 6) .len #[22] [(fget φ 5)]) := nf
theorem ZLG : stepA E C B 14 Z2N Zoq (φ, H) = some (fput φ 4 (fget φ 6), H) := nf
def Zq4 := kR Z5d
def Z0k := kO Zq4
def ZmI := opN Z0k 0
def ZnT := opN Z0k 1
def ZlI := opN Z0k 2
def ZqG := opN Z0k 3
def Zn2 := opN Z0k 4
def Zp5 := opN Z0k 5
def Zne := opN Z0k 6
theorem Z02R : XG 108 14 Zq4 Z0k [0, 1, 4, 7, 8, 9, 10, 11, 12, 13] := Z1 (by rfl) (by rfl) _
theorem ZH5 : Z0k.toList = [ZmI, ZnT, ZlI, ZqG, Zn2, Zp5, Zne] := nf
theorem ZM0 : stepA E C B 14 Z0k ZmI (φ, H) = some (fput φ 7 (fget φ 0), H) := nf
theorem ZH9 : stepA E C B 14 Z0k ZnT (φ, H) = some (fput φ 8 (fget φ 4), H) := nf
theorem ZIP : stepA E C B 14 Z0k ZlI (φ, H) = some (fput φ 9 (fget φ 4), H) := nf
theorem ZHC : stepA E C B 14 Z0k ZqG (φ, H) = stp (some 10) φ H (justO (aConv E.T 3 98 (fget φ 9))) := nf
theorem ZKD : stepA E C B 14 Z0k Zn2 (φ, H) = stp (some 11) φ H (aCall C (fun j => B + j * 14 + 11) true 111 [(fget φ 10)]) := nf
theorem ZIu : stepA E C B 14 Z0k Zp5 (φ, H) = some (fput φ 12 (fget φ 1), H) := nf
theorem ZHZ : stepA E C B 14 Z0k Zne (φ, H) = mutX (some 13) φ (C 121 [(fget φ 7), (.int .i64 0), (fget φ 8), (fget φ 11), (fget φ 12)] H (B + 14 * 8)) := nf
theorem Z048 : XQ 108 14 Z5d Zkm Zq4 := Z0 (by rfl) _
theorem Z01V : fInfo E 108 = some ⟨14, #[], Z5d⟩ := nf
theorem Z09e (args : List AV) : bodyA E C fg N 108 args H B = bodyX E [] (execA E C (fg 108) B 14 H N Z5d (Z5 args 0 [], H)) := Zo Z01V args H
abbrev Z0aX := And.intro (And.intro (And.intro (And.intro @Z06I @ZMW) (And.intro @ZIa @ZGV)) (And.intro (And.intro @ZLG @Z02R) (And.intro @ZH5 @ZM0))) (And.intro (And.intro (And.intro @ZH9 @ZIP) (And.intro @ZHC @ZKD)) (And.intro (And.intro @ZIu @ZHZ) (And.intro @Z048 @Z09e)))
def Z5C := kBody Proofs.Try.f121
def ZnX := kL Z5C
def ZbX := kO ZnX
def ZoQ := opN ZbX 0
theorem Z032 : XG 121 148 ZnX ZbX [] := Z1 (by rfl) (by rfl) _
theorem ZNj : ZbX.toList = [ZoQ] := nf
theorem ZGE : stepA E C B 148 ZbX ZoQ (φ, H) = some (fput φ 10 (.bool true), H) := nf
def Zb6 := kR Z5C
def ZnK := kL Zb6
def Z9Y := kO ZnK
def ZqD := opN Z9Y 0
theorem Z02L : XG 121 148 ZnK Z9Y [] := Z1 (by rfl) (by rfl) _
theorem ZLY : Z9Y.toList = [ZqD] := nf
theorem ZMR : stepA E C B 148 Z9Y ZqD (φ, H) = some (fput φ 11 (.bool true), H) := nf
def ZqC := kR Zb6
def Zjx := kB ZqC
def Zk6 := kB Zjx
def Z8z := kB Zk6
def Zkx := kL Z8z
def Z1r := kO Zkx
def Zoh := opN Z1r 0
def Zj2 := opN Z1r 1
def Zlz := opN Z1r 2
def Zkp := opN Z1r 3
theorem Z06S : XG 121 148 Zkx Z1r [21, 22, 23] := Z1 (by rfl) (by rfl) _
theorem ZL1 : Z1r.toList = [Zoh, Zj2, Zlz, Zkp] := nf
theorem ZHr : stepA E C B 148 Z1r Zoh (φ, H) = some (fput φ 21 (fget φ 2), H) := nf
theorem ZGm : stepA E C B 148 Z1r Zj2 (φ, H) = some (fput φ 22 (fget φ 1), H) := nf
theorem ZHw : stepA E C B 148 Z1r Zlz (φ, H) = stp (some 23) φ H (just (aBin E.T .sub 3 (fget φ 21) (fget φ 22))) := nf
theorem ZGf : stepA E C B 148 Z1r Zkp (φ, H) = some (fput φ 12 (fget φ 23), H) := nf
def Zb3 := kR Z8z
def Z6d := kL Zb3
def Zct := kL Z6d
def Z4f := kO Zct
def Zlo := opN Z4f 0
def Zm4 := opN Z4f 1
theorem ZRn : XG 121 148 Zct Z4f [24] := Z1 (by rfl) (by rfl) _
theorem ZJo : Z4f.toList = [Zlo, Zm4] := nf
theorem ZLt : stepA E C B 148 Z4f Zlo (φ, H) = some (fput φ 24 (fget φ 12), H) := nf
theorem ZID : stepA E C B 148 Z4f Zm4 (φ, H) = stp (some 25) φ H (just (aBin E.T .leq 3 (fget φ 24) (.int .i64 12))) := nf
def Z6w := kR Z6d
def Z6G := kT Z6w
def Zce := kL Z6G
def Z0Z := kO Zce
def ZjW := opN Z0Z 0
def ZoA := opN Z0Z 1
def ZlX := opN Z0Z 2
def ZpN := opN Z0Z 3
def Zpm := opN Z0Z 4
theorem ZRX : XG 121 148 Zce Z0Z [0, 1, 2, 3, 4, 10, 11, 12, 25, 26, 27, 28, 29, 30] := Z1 (by rfl) (by rfl) _
theorem ZJc : Z0Z.toList = [ZjW, ZoA, ZlX, ZpN, Zpm] := nf
theorem ZHT : stepA E C B 148 Z0Z ZjW (φ, H) = some (fput φ 26 (fget φ 0), H) := nf
theorem ZMp : stepA E C B 148 Z0Z ZoA (φ, H) = some (fput φ 27 (fget φ 1), H) := nf
theorem ZHG : stepA E C B 148 Z0Z ZlX (φ, H) = some (fput φ 28 (fget φ 2), H) := nf
theorem ZJ1 : stepA E C B 148 Z0Z ZpN (φ, H) = some (fput φ 29 (fget φ 4), H) := nf
theorem ZJH : stepA E C B 148 Z0Z Zpm (φ, H) = mutX (some 30) φ (C 133 [(fget φ 26), (fget φ 27), (fget φ 28), (fget φ 29)] H (B + 148 * 8)) := nf
def Zuh := kR Z6G
theorem ZUX : execA E C (fg 121) B 148 E0 N Zuh s = some (.ret, s) := Zk (by rfl) s
theorem ZO9 : XQ 121 148 Z6G Zce Zuh := Z0 (by rfl) _
def ZtF := kE Z6w
theorem ZZ7 : execA E C (fg 121) B 148 E0 N ZtF s = some (.normal, s) := Zb (by rfl) s
theorem ZWE : XC 121 148 Z6w 25 Z6G ZtF := Z8 (by rfl) _
theorem ZQw : XQ 121 148 Z6d Zct Z6w := Z0 (by rfl) _
def Z5Z := kR Zb3
def Z6J := kL Z5Z
def Zcc := kL Z6J
def Z4n := kO Zcc
def Zpg := opN Z4n 0
def ZkL := opN Z4n 1
theorem ZYv : XG 121 148 Zcc Z4n [25, 31] := Z1 (by rfl) (by rfl) _
theorem ZIi : Z4n.toList = [Zpg, ZkL] := nf
theorem ZJA : stepA E C B 148 Z4n Zpg (φ, H) = some (fput φ 31 (fget φ 3), H) := nf
theorem ZNx : stepA E C B 148 Z4n ZkL (φ, H) = stp (some 32) φ H (just (aBin E.T .eql 3 (fget φ 31) (.int .i64 0))) := nf
def Z5S := kR Z6J
def Z5I := kT Z5S
def Zdr := kL Z5I
def Z10 := kO Zdr
def Zk2 := opN Z10 0
def ZiY := opN Z10 1
def ZkU := opN Z10 2
def ZoI := opN Z10 3
def ZmL := opN Z10 4
theorem ZXE : XG 121 148 Zdr Z10 [0, 1, 2, 3, 4, 10, 11, 12, 32, 33, 34, 35, 36, 37] := Z1 (by rfl) (by rfl) _
theorem ZIv : Z10.toList = [Zk2, ZiY, ZkU, ZoI, ZmL] := nf
theorem ZGy : stepA E C B 148 Z10 Zk2 (φ, H) = some (fput φ 33 (fget φ 0), H) := nf
theorem ZLq : stepA E C B 148 Z10 ZiY (φ, H) = some (fput φ 34 (fget φ 1), H) := nf
theorem ZMz : stepA E C B 148 Z10 ZkU (φ, H) = some (fput φ 35 (fget φ 2), H) := nf
theorem ZL6 : stepA E C B 148 Z10 ZoI (φ, H) = some (fput φ 36 (fget φ 4), H) := nf
theorem ZJg : stepA E C B 148 Z10 ZmL (φ, H) = mutX (some 37) φ (C 134 [(fget φ 33), (fget φ 34), (fget φ 35), (fget φ 36)] H (B + 148 * 8)) := nf
def ZvO := kR Z5I
theorem ZSC : execA E C (fg 121) B 148 E0 N ZvO s = some (.ret, s) := Zk (by rfl) s
theorem ZUb : XQ 121 148 Z5I Zdr ZvO := Z0 (by rfl) _
def ZsF := kE Z5S
theorem ZNQ : execA E C (fg 121) B 148 E0 N ZsF s = some (.normal, s) := Zb (by rfl) s
theorem ZVH : XC 121 148 Z5S 32 Z5I ZsF := Z8 (by rfl) _
theorem ZTX : XQ 121 148 Z6J Zcc Z5S := Z0 (by rfl) _
def Z6h := kR Z5Z
def Z72 := kL Z6h
def Zdv := kL Z72
def Z4I := kO Zdv
def ZlV := opN Z4I 0
def ZpC := opN Z4I 1
theorem ZZy : XG 121 148 Zdv Z4I [32, 38] := Z1 (by rfl) (by rfl) _
theorem ZGW : Z4I.toList = [ZlV, ZpC] := nf
theorem ZLJ : stepA E C B 148 Z4I ZlV (φ, H) = some (fput φ 38 (fget φ 10), H) := nf
theorem ZHK : stepA E C B 148 Z4I ZpC (φ, H) = stp (some 39) φ H (justO (aUn .not (fget φ 38))) := nf
def Z7E := kR Z72
def Z7s := kT Z7E
def Zdn := kL Z7s
def Z11 := kO Zdn
def Zpb := opN Z11 0
def ZiT := opN Z11 1
def Zl5 := opN Z11 2
def Zol := opN Z11 3
def Zns := opN Z11 4
theorem ZUt : XG 121 148 Zdn Z11 [39, 40, 41, 42, 43, 44] := Z1 (by rfl) (by rfl) _
theorem ZLN : Z11.toList = [Zpb, ZiT, Zl5, Zol, Zns] := nf
theorem ZJq : stepA E C B 148 Z11 Zpb (φ, H) = some (fput φ 40 (fget φ 0), H) := nf
theorem ZL3 : stepA E C B 148 Z11 ZiT (φ, H) = some (fput φ 41 (fget φ 1), H) := nf
theorem ZGU : stepA E C B 148 Z11 Zl5 (φ, H) = some (fput φ 42 (fget φ 2), H) := nf
theorem ZMd : stepA E C B 148 Z11 Zol (φ, H) = some (fput φ 43 (fget φ 4), H) := nf
theorem ZKU : stepA E C B 148 Z11 Zns (φ, H) = mutX (some 44) φ (C 135 [(fget φ 40), (fget φ 41), (fget φ 42), (fget φ 43)] H (B + 148 * 8)) := nf
def ZdE := kR Z7s
def Z2x := kO ZdE
def ZnG := opN Z2x 0
def Zlh := opN Z2x 1
def Zmk := opN Z2x 2
theorem ZVn : XG 121 148 ZdE Z2x [45, 46] := Z1 (by rfl) (by rfl) _
theorem ZHo : Z2x.toList = [ZnG, Zlh, Zmk] := nf
theorem ZN2 : stepA E C B 148 Z2x ZnG (φ, H) = some (fput φ 45 (fget φ 3), H) := nf
theorem ZJI : stepA E C B 148 Z2x Zlh (φ, H) = stp (some 46) φ H (just (aBin E.T .sub 3 (fget φ 45) (.int .i64 1))) := nf
theorem ZL7 : stepA E C B 148 Z2x Zmk (φ, H) = some (fput φ 3 (fget φ 46), H) := nf
theorem ZWm : XQ 121 148 Z7s Zdn ZdE := Z0 (by rfl) _
def ZrR := kE Z7E
theorem ZW1 : execA E C (fg 121) B 148 E0 N ZrR s = some (.normal, s) := Zb (by rfl) s
theorem ZSF : XC 121 148 Z7E 39 Z7s ZrR := Z8 (by rfl) _
theorem ZWV : XQ 121 148 Z72 Zdv Z7E := Z0 (by rfl) _
def Z7f := kR Z6h
def ZcX := kL Z7f
def ZA := kO ZcX
def ZfC := opN ZA 0
def ZgJ := opN ZA 1
def ZfL := opN ZA 2
def Zfg := opN ZA 3
def ZdX := opN ZA 4
def ZdP := opN ZA 5
def ZgL := opN ZA 6
def ZgK := opN ZA 7
def Zgb := opN ZA 8
def Ze9 := opN ZA 9
theorem ZWf : XG 121 148 ZcX ZA [39, 47, 48, 49, 50, 51, 52, 53, 54] := Z1 (by rfl) (by rfl) _
theorem ZDv : ZA.toList = [ZfC, ZgJ, ZfL, Zfg, ZdX, ZdP, ZgL, ZgK, Zgb, Ze9] := nf
theorem ZDy : stepA E C B 148 ZA ZfC (φ, H) = some (fput φ 48 (fget φ 0), H) := nf
theorem ZCU : stepA E C B 148 ZA ZgJ (φ, H) = some (fput φ 49 (fget φ 1), H) := nf
theorem ZD3 : stepA E C B 148 ZA ZfL (φ, H) = some (fput φ 50 (fget φ 2), H) := nf
theorem ZBy : stepA E C B 148 ZA Zfg (φ, H) = some (fput φ 51 (fget φ 4), H) := nf
theorem ZCM : stepA E C B 148 ZA ZdX (φ, H) = mutX (some 52) φ (C 136 [(fget φ 48), (fget φ 49), (fget φ 50), (fget φ 51)] H (B + 148 * 8)) := nf
theorem ZDs : stepA E C B 148 ZA ZdP (φ, H) = some (fput φ 47 (fget φ 52), H) := nf
theorem ZC9 : stepA E C B 148 ZA ZgL (φ, H) = stp (some 53) φ H (Zm (fget φ 47) 0) := nf
theorem ZB5 : stepA E C B 148 ZA ZgK (φ, H) = stp (some 54) φ H (Zm (fget φ 47) 1) := nf
theorem ZES : stepA E C B 148 ZA Zgb (φ, H) = some (fput φ 13 (fget φ 53), H) := nf
theorem ZFY : stepA E C B 148 ZA Ze9 (φ, H) = some (fput φ 14 (fget φ 54), H) := nf
def Z7F := kR Z7f
def Z7r := kL Z7F
def ZcI := kL Z7r
def Z3d := kO ZcI
def Zfc := opN Z3d 0
def ZgN := opN Z3d 1
theorem ZZE : XG 121 148 ZcI Z3d [55] := Z1 (by rfl) (by rfl) _
theorem ZB6 : Z3d.toList = [Zfc, ZgN] := nf
theorem ZEH : stepA E C B 148 Z3d Zfc (φ, H) = some (fput φ 55 (fget φ 14), H) := nf
theorem ZCu : stepA E C B 148 Z3d ZgN (φ, H) = stp (some 56) φ H (just (aBin E.T .eql 105 (fget φ 55) (.int .i64 2))) := nf
def Z6H := kR Z7r
def Z6e := kT Z6H
def ZcG := kL Z6e
def Z0v := kO ZcG
def Zg3 := opN Z0v 0
def Ze8 := opN Z0v 1
def Zea := opN Z0v 2
def Zes := opN Z0v 3
def Zgq := opN Z0v 4
theorem ZWe : XG 121 148 ZcG Z0v [14, 56, 57, 58, 59, 60, 61] := Z1 (by rfl) (by rfl) _
theorem ZEF : Z0v.toList = [Zg3, Ze8, Zea, Zes, Zgq] := nf
theorem ZEa : stepA E C B 148 Z0v Zg3 (φ, H) = some (fput φ 57 (fget φ 0), H) := nf
theorem ZF2 : stepA E C B 148 Z0v Ze8 (φ, H) = some (fput φ 58 (fget φ 1), H) := nf
theorem ZCc : stepA E C B 148 Z0v Zea (φ, H) = some (fput φ 59 (fget φ 2), H) := nf
theorem ZDi : stepA E C B 148 Z0v Zes (φ, H) = some (fput φ 60 (fget φ 4), H) := nf
theorem ZCn : stepA E C B 148 Z0v Zgq (φ, H) = mutX (some 61) φ (C 137 [(fget φ 57), (fget φ 58), (fget φ 59), (fget φ 60)] H (B + 148 * 8)) := nf
def Z7w := kR Z6e
def Zd7 := kL Z7w
def Z03 := kO Zd7
def Zfr := opN Z03 0
def Zew := opN Z03 1
def Zf2 := opN Z03 2
def ZdN := opN Z03 3
def ZgM := opN Z03 4
def Zh0 := opN Z03 5
def Zeq := opN Z03 6
theorem ZPf : XG 121 148 Zd7 Z03 [62, 63, 64, 65, 66, 67] := Z1 (by rfl) (by rfl) _
theorem ZDS : Z03.toList = [Zfr, Zew, Zf2, ZdN, ZgM, Zh0, Zeq] := nf
theorem ZBq : stepA E C B 148 Z03 Zfr (φ, H) = some (fput φ 62 (fget φ 2), H) := nf
theorem ZFm : stepA E C B 148 Z03 Zew (φ, H) = stp (some 63) φ H (just (aBin E.T .sub 3 (fget φ 62) (.int .i64 1))) := nf
theorem ZG1 : stepA E C B 148 Z03 Zf2 (φ, H) = some (fput φ 64 (fget φ 13), H) := nf
theorem ZBl : stepA E C B 148 Z03 ZdN (φ, H) = some (fput φ 65 (fget φ 1), H) := nf
theorem ZCO : stepA E C B 148 Z03 ZgM (φ, H) = stp (some 66) φ H (just (aBin E.T .sub 3 (fget φ 64) (fget φ 65))) := nf
theorem ZCj : stepA E C B 148 Z03 Zh0 (φ, H) = stp (some 67) φ H (just (aBin E.T .sub 3 (fget φ 63) (fget φ 66))) := nf
theorem ZA6 : stepA E C B 148 Z03 Zeq (φ, H) = some (fput φ 13 (fget φ 67), H) := nf
def Zc6 := kR Z7w
def Z6t := kO Zc6
def ZdL := opN Z6t 0
theorem ZSa : XG 121 148 Zc6 Z6t [] := Z1 (by rfl) (by rfl) _
theorem ZAZ : Z6t.toList = [ZdL] := nf
theorem ZEY : stepA E C B 148 Z6t ZdL (φ, H) = some (fput φ 14 (.int .i64 1), H) := nf
theorem ZQm : XQ 121 148 Z7w Zd7 Zc6 := Z0 (by rfl) _
theorem ZQ3 : XQ 121 148 Z6e ZcG Z7w := Z0 (by rfl) _
def Ztj := kE Z6H
theorem ZOu : execA E C (fg 121) B 148 E0 N Ztj s = some (.normal, s) := Zb (by rfl) s
theorem ZWT : XC 121 148 Z6H 56 Z6e Ztj := Z8 (by rfl) _
theorem ZSN : XQ 121 148 Z7r ZcI Z6H := Z0 (by rfl) _
def Z6U := kR Z7F
def Z62 := kL Z6U
def ZcH := kL Z62
def ZM := kO ZcH
def ZgU := opN ZM 0
def Z5y := opN ZM 1
def Ze5 := opN ZM 2
def Zgz := opN ZM 3
def Z3X := opN ZM 4
def ZgV := opN ZM 5
def ZfD := opN ZM 6
def ZgP := opN ZM 7
theorem ZPQ : XG 121 148 ZcH ZM [14, 56, 68, 69, 70, 71, 72, 73, 74] := Z1 (by rfl) (by rfl) _
theorem ZBI : ZM.toList = [ZgU, Z5y, Ze5, Zgz, Z3X, ZgV, ZfD, ZgP] := nf
theorem ZBJ : stepA E C B 148 ZM ZgU (φ, H) = some (fput φ 68 (fget φ 10), H) := nf
theorem ZEg : stepA E C B 148 ZM Z5y (φ, H) = some (fput φ 69 (fget φ 68), H) := nf
theorem ZDt : stepA E C B 148 ZM Ze5 (φ, H) = gd φ 69 true (fun φ => some (fput φ 70 (.tup []), H)) (fun φ => some (fput φ 70 (fget φ 11), H)) := s_gd (j := 1) (oj := Z5y) rfl rfl rfl (fun _ => rfl) (fun _ => rfl)
theorem ZAn : stepA E C B 148 ZM Zgz (φ, H) = stp (some 71) φ H (opPick (fget φ 69) (fget φ 70) (.bool false)) := nf
theorem ZDG : stepA E C B 148 ZM Z3X (φ, H) = some (fput φ 72 (fget φ 71), H) := nf
theorem ZEv : stepA E C B 148 ZM ZgV (φ, H) = gd φ 72 true (fun φ => some (fput φ 73 (.tup []), H)) (fun φ => some (fput φ 73 (fget φ 14), H)) := s_gd (j := 4) (oj := Z3X) rfl rfl rfl (fun _ => rfl) (fun _ => rfl)
theorem ZEP : stepA E C B 148 ZM ZfD (φ, H) = gd φ 72 true (fun φ => some (fput φ 74 (.tup []), H)) (fun φ => stp (some 74) φ H (just (aBin E.T .eql 105 (fget φ 73) (.int .i64 1)))) := s_gd (j := 4) (oj := Z3X) rfl rfl rfl (fun _ => rfl) (fun _ => rfl)
theorem ZFU : stepA E C B 148 ZM ZgP (φ, H) = stp (some 75) φ H (opPick (fget φ 72) (fget φ 74) (.bool false)) := nf
def Z7b := kR Z62
def Z7k := kT Z7b
def Zdi := kL Z7k
def Z0u := kO Zdi
def Zfh := opN Z0u 0
def Zgu := opN Z0u 1
def ZeW := opN Z0u 2
def ZfJ := opN Z0u 3
def Zfs := opN Z0u 4
theorem ZXH : XG 121 148 Zdi Z0u [75, 76, 77, 78, 79] := Z1 (by rfl) (by rfl) _
theorem ZCe : Z0u.toList = [Zfh, Zgu, ZeW, ZfJ, Zfs] := nf
theorem ZCy : stepA E C B 148 Z0u Zfh (φ, H) = some (fput φ 76 (fget φ 0), H) := nf
theorem ZDe : stepA E C B 148 Z0u Zgu (φ, H) = some (fput φ 77 (fget φ 1), H) := nf
theorem ZFd : stepA E C B 148 Z0u ZeW (φ, H) = some (fput φ 78 (fget φ 2), H) := nf
theorem ZBN : stepA E C B 148 Z0u ZfJ (φ, H) = some (fput φ 79 (fget φ 4), H) := nf
theorem ZAI : stepA E C B 148 Z0u Zfs (φ, H) = mutX (some 80) φ (C 138 [(fget φ 76), (fget φ 77), (fget φ 78), (fget φ 79)] H (B + 148 * 8)) := nf
def Z6k := kR Z7k
def Zvj := kT Z6k
theorem ZYA : execA E C (fg 121) B 148 E0 N Zvj s = some (.ret, s) := Zk (by rfl) s
def Zvd := kE Z6k
theorem ZZC : execA E C (fg 121) B 148 E0 N Zvd s = some (.normal, s) := Zb (by rfl) s
theorem ZZf : XC 121 148 Z6k 80 Zvj Zvd := Z8 (by rfl) _
theorem ZQL : XQ 121 148 Z7k Zdi Z6k := Z0 (by rfl) _
def Zy6 := kE Z7b
theorem ZPM : execA E C (fg 121) B 148 E0 N Zy6 s = some (.normal, s) := Zb (by rfl) s
theorem ZOq : XC 121 148 Z7b 75 Z7k Zy6 := Z8 (by rfl) _
theorem ZWq : XQ 121 148 Z62 ZcH Z7b := Z0 (by rfl) _
def Z6M := kR Z6U
def Z77 := kL Z6M
def Zdt := kL Z77
def Zc := kO Zdt
def ZgC := opN Zc 0
def ZeL := opN Zc 1
def ZD := opN Zc 2
def ZeG := opN Zc 3
def ZeO := opN Zc 4
def Zfk := opN Zc 5
def ZdW := opN Zc 6
def ZeD := opN Zc 7
def Zel := opN Zc 8
def ZeH := opN Zc 9
def Z8t := opN Zc 10
def Z8m := opN Zc 11
def Z9k := opN Zc 12
def Za8 := opN Zc 13
def Z8F := opN Zc 14
def Z9A := opN Zc 15
def Z8C := opN Zc 16
theorem ZPi : XD 121 148 Zdt Zc [75, 80, 81, 82, 83, 84, 85, 86, 87, 88, 89, 90, 91, 92, 93, 94, 95, 96] := Z2E (by rfl) (by rfl) _
theorem ZC7 : Zc.toList = [ZgC, ZeL, ZD, ZeG, ZeO, Zfk, ZdW, ZeD, Zel, ZeH, Z8t, Z8m, Z9k, Za8, Z8F, Z9A, Z8C] := nf
theorem ZyX : statOk Zc = true := by kernel_rfl
theorem ZzF : drawA E C B 148 Zc s = if neat 148 s = true then drX Zc (runT E C B 148 Zc Zc.toList 0 s) else none := Z1O ZyX s
theorem ZyT (l : List (Nat × Tr)) : dynOk Zc l = (!writing l || Zl [[], [0], [0, 1], [0, 1, 2], [0, 1, 2], [0, 1, 2], [0, 1, 2, 5], [0, 1, 2, 4, 5, 6], [0, 1, 2, 4, 5, 6, 7], [0, 1, 2], [0, 1, 2], [0, 1, 2, 9, 10], [0, 1, 2, 9, 10, 11], [0, 1, 2, 3, 4, 5, 6, 7, 8, 9, 10, 11, 12], [0, 1, 2, 3, 4, 5, 6, 7, 8, 9, 10, 11, 12, 13], [0, 1, 2, 3, 4, 5, 6, 7, 8, 9, 10, 11, 12, 13, 14], [0, 1, 2, 3, 4, 5, 6, 7, 8, 9, 10, 11, 12, 13, 14, 15]] (Zj l)) := Z1c (by kernel_rfl) l
theorem ZF3 : stepT E C B 148 Zc ZgC (φ, H) = some ((fput φ 81 (fget φ 1), H), ⟨false, [], []⟩) := Z6 rfl (Zf rfl rfl)
theorem ZEG : stepT E C B 148 Zc ZeL (φ, H) = stpT (some 82) φ H (just (aBin E.T .gtr 3 (fget φ 81) (.int .i64 0))) := Z6 rfl (Ze rfl rfl)
theorem ZDA : stepT E C B 148 Zc ZD (φ, H) = some ((fput φ 83 (fget φ 82), H), ⟨false, [], []⟩) := Z6 rfl (Zf rfl rfl)
theorem ZE0 : stepT E C B 148 Zc ZeG (φ, H) = gdT φ 83 true (fun φ => (some (fput φ 84 (.tup []), H)).map fun s => (s, ⟨false, [], []⟩)) (fun φ => some ((fput φ 84 (fget φ 4), H), ⟨false, [], []⟩)) := ZB (j := 2) (oj := ZD) rfl rfl rfl (fun _ => rfl) (fun _ => Zf rfl rfl)
theorem ZB0 : stepT E C B 148 Zc ZeO (φ, H) = gdT φ 83 true (fun φ => (some (fput φ 85 (.tup []), H)).map fun s => (s, ⟨false, [], []⟩)) (fun φ => some ((fput φ 85 (fget φ 0), H), ⟨false, [], []⟩)) := ZB (j := 2) (oj := ZD) rfl rfl rfl (fun _ => rfl) (fun _ => Zf rfl rfl)
theorem ZFj : stepT E C B 148 Zc Zfk (φ, H) = gdT φ 83 true (fun φ => (some (fput φ 86 (.tup []), H)).map fun s => (s, ⟨false, [], []⟩)) (fun φ => some ((fput φ 86 (fget φ 1), H), ⟨false, [], []⟩)) := ZB (j := 2) (oj := ZD) rfl rfl rfl (fun _ => rfl) (fun _ => Zf rfl rfl)
theorem ZF0 : stepT E C B 148 Zc ZdW (φ, H) = gdT φ 83 true (fun φ => (some (fput φ 87 (.tup []), H)).map fun s => (s, ⟨false, [], []⟩)) (fun φ => stpT (some 87) φ H (just (aBin E.T .sub 3 (fget φ 86) (.int .i64 1)))) := ZB (j := 2) (oj := ZD) rfl rfl rfl (fun _ => rfl) (fun _ => Ze rfl rfl)
theorem ZF7 : stepT E C B 148 Zc ZeD (φ, H) = gdT φ 83 true (fun φ => (some (fput φ 88 (.tup []), H)).map fun s => (s, ⟨false, [], []⟩)) (fun φ => stpT (some 88) φ H (just (Z2 E.T 22 (fget φ 85) (fget φ 87)))) := ZB (j := 2) (oj := ZD) rfl rfl rfl (fun _ => rfl) (fun _ => Ze rfl rfl)
theorem ZB4 : stepT E C B 148 Zc Zel (φ, H) = gdT φ 83 true (fun φ => (some (fput φ 89 (.tup []), H)).map fun s => (s, ⟨false, [], []⟩)) (fun φ => stpT (some 89) φ H (just (aLoad E.T 3 (fget φ 88)))) := ZB (j := 2) (oj := ZD) rfl rfl rfl (fun _ => rfl) (fun _ => Ze rfl rfl)
theorem ZEC : stepT E C B 148 Zc ZeH (φ, H) = gdT φ 83 true (fun φ => (some (fput φ 90 (.tup []), H)).map fun s => (s, ⟨false, [], []⟩)) (fun φ => some ((fput φ 90 (fget φ 0), H), ⟨false, [], []⟩)) := ZB (j := 2) (oj := ZD) rfl rfl rfl (fun _ => rfl) (fun _ => Zf rfl rfl)
theorem ZzB : stepT E C B 148 Zc Z8t (φ, H) = gdT φ 83 true (fun φ => (some (fput φ 91 (.tup []), H)).map fun s => (s, ⟨false, [], []⟩)) (fun φ => some ((fput φ 91 (fget φ 13), H), ⟨false, [], []⟩)) := ZB (j := 2) (oj := ZD) rfl rfl rfl (fun _ => rfl) (fun _ => Zf rfl rfl)
theorem Zzq : stepT E C B 148 Zc Z8m (φ, H) = gdT φ 83 true (fun φ => (some (fput φ 92 (.tup []), H)).map fun s => (s, ⟨false, [], []⟩)) (fun φ => stpT (some 92) φ H (just (Z2 E.T 22 (fget φ 90) (fget φ 91)))) := ZB (j := 2) (oj := ZD) rfl rfl rfl (fun _ => rfl) (fun _ => Ze rfl rfl)
theorem Zzm : stepT E C B 148 Zc Z9k (φ, H) = gdT φ 83 true (fun φ => (some (fput φ 93 (.tup []), H)).map fun s => (s, ⟨false, [], []⟩)) (fun φ => stpT (some 93) φ H (just (aLoad E.T 3 (fget φ 92)))) := ZB (j := 2) (oj := ZD) rfl rfl rfl (fun _ => rfl) (fun _ => Ze rfl rfl)
theorem ZA2 : stepT E C B 148 Zc Za8 (φ, H) = gdT φ 83 true (fun φ => (some (fput φ 94 (.tup []), H)).map fun s => (s, ⟨false, [], []⟩)) (fun φ => callVT E C (B + 148 * 8) (some 94) (fun j => B + j * 148 + 94) φ H (fget φ 84) [(fget φ 89), (fget φ 93)] true) := ZB (j := 2) (oj := ZD) rfl rfl rfl (fun _ => rfl) (fun _ => ZNM rfl rfl)
theorem ZyY : stepT E C B 148 Zc Z8F (φ, H) = gdT φ 83 true (fun φ => (some (fput φ 95 (.tup []), H)).map fun s => (s, ⟨false, [], []⟩)) (fun φ => stpT (some 95) φ H (just (aBin E.T .lss 3 (fget φ 94) (.int .i64 0)))) := ZB (j := 2) (oj := ZD) rfl rfl rfl (fun _ => rfl) (fun _ => Ze rfl rfl)
theorem ZyK : stepT E C B 148 Zc Z9A (φ, H) = gdT φ 83 true (fun φ => (some (fput φ 96 (.tup []), H)).map fun s => (s, ⟨false, [], []⟩)) (fun φ => stpT (some 96) φ H (justO (aUn .not (fget φ 95)))) := ZB (j := 2) (oj := ZD) rfl rfl rfl (fun _ => rfl) (fun _ => Ze rfl rfl)
theorem ZzP : stepT E C B 148 Zc Z8C (φ, H) = stpT (some 97) φ H (opPick (fget φ 83) (fget φ 96) (.bool false)) := Z6 rfl (Ze rfl rfl)
def Z6Y := kR Z77
def Z5T := kT Z6Y
def ZcV := kL Z5T
def Z04 := kO ZcV
def ZgQ := opN Z04 0
def ZfY := opN Z04 1
def ZgD := opN Z04 2
def ZfK := opN Z04 3
def ZeT := opN Z04 4
def Zfb := opN Z04 5
def Zfl := opN Z04 6
theorem ZWY : XG 121 148 ZcV Z04 [1, 12, 13, 97, 98, 99, 100, 101, 102, 103] := Z1 (by rfl) (by rfl) _
theorem ZFV : Z04.toList = [ZgQ, ZfY, ZgD, ZfK, ZeT, Zfb, Zfl] := nf
theorem ZFX : stepA E C B 148 Z04 ZgQ (φ, H) = some (fput φ 98 (fget φ 0), H) := nf
theorem ZCA : stepA E C B 148 Z04 ZfY (φ, H) = some (fput φ 99 (fget φ 1), H) := nf
theorem ZAt : stepA E C B 148 Z04 ZgD (φ, H) = some (fput φ 100 (fget φ 2), H) := nf
theorem ZEW : stepA E C B 148 Z04 ZfK (φ, H) = some (fput φ 101 (fget φ 13), H) := nf
theorem ZCa : stepA E C B 148 Z04 ZeT (φ, H) = some (fput φ 102 (fget φ 4), H) := nf
theorem ZDf : stepA E C B 148 Z04 Zfb (φ, H) = mutX (some 103) φ (C 139 [(fget φ 98), (fget φ 99), (fget φ 100), (fget φ 101), (fget φ 102)] H (B + 148 * 8)) := nf
theorem ZCE : stepA E C B 148 Z04 Zfl (φ, H) = some (fput φ 15 (fget φ 103), H) := nf
def Z6j := kR Z5T
def ZcJ := kL Z6j
def Z31 := kO ZcJ
def Zeg := opN Z31 0
def ZfT := opN Z31 1
theorem ZPe : XG 121 148 ZcJ Z31 [15, 104] := Z1 (by rfl) (by rfl) _
theorem ZFB : Z31.toList = [Zeg, ZfT] := nf
theorem ZBa : stepA E C B 148 Z31 Zeg (φ, H) = some (fput φ 104 (fget φ 15), H) := nf
theorem ZFZ : stepA E C B 148 Z31 ZfT (φ, H) = some (fput φ 1 (fget φ 104), H) := nf
def ZuZ := kR Z6j
theorem ZO3 : execA E C (fg 121) B 148 E0 N ZuZ s = some (.exit 1, s) := ZP (by rfl) s
theorem ZUc : XQ 121 148 Z6j ZcJ ZuZ := Z0 (by rfl) _
theorem ZS7 : XQ 121 148 Z5T ZcV Z6j := Z0 (by rfl) _
def ZwN := kE Z6Y
theorem ZRl : execA E C (fg 121) B 148 E0 N ZwN s = some (.normal, s) := Zb (by rfl) s
theorem ZZM : XC 121 148 Z6Y 97 Z5T ZwN := Z8 (by rfl) _
theorem ZS5 : XQ 121 148 Z77 Zdt Z6Y := Z0 (by rfl) _
def Z5J := kR Z6M
def Zd0 := kL Z5J
def Zu := kO Zd0
def Zgg := opN Zu 0
def ZdZ := opN Zu 1
def ZfH := opN Zu 2
def Zen := opN Zu 3
def ZeS := opN Zu 4
def ZdI := opN Zu 5
def Zgc := opN Zu 6
def Zek := opN Zu 7
def ZgY := opN Zu 8
def Zex := opN Zu 9
def Zb5 := opN Zu 10
theorem ZZ5 : XG 121 148 Zd0 Zu [10, 11, 13, 97, 105, 106, 107, 108, 109, 110, 111, 112, 113] := Z1 (by rfl) (by rfl) _
theorem ZCC : Zu.toList = [Zgg, ZdZ, ZfH, Zen, ZeS, ZdI, Zgc, Zek, ZgY, Zex, Zb5] := nf
theorem ZBw : stepA E C B 148 Zu Zgg (φ, H) = some (fput φ 106 (fget φ 0), H) := nf
theorem ZEQ : stepA E C B 148 Zu ZdZ (φ, H) = some (fput φ 107 (fget φ 1), H) := nf
theorem ZDj : stepA E C B 148 Zu ZfH (φ, H) = some (fput φ 108 (fget φ 2), H) := nf
theorem ZCv : stepA E C B 148 Zu Zen (φ, H) = some (fput φ 109 (fget φ 13), H) := nf
theorem ZDM : stepA E C B 148 Zu ZeS (φ, H) = some (fput φ 110 (fget φ 4), H) := nf
theorem ZCq : stepA E C B 148 Zu ZdI (φ, H) = mutX (some 111) φ (C 140 [(fget φ 106), (fget φ 107), (fget φ 108), (fget φ 109), (fget φ 110)] H (B + 148 * 8)) := nf
theorem ZE3 : stepA E C B 148 Zu Zgc (φ, H) = some (fput φ 105 (fget φ 111), H) := nf
theorem ZDb : stepA E C B 148 Zu Zek (φ, H) = stp (some 112) φ H (Zm (fget φ 105) 0) := nf
theorem ZCh : stepA E C B 148 Zu ZgY (φ, H) = stp (some 113) φ H (Zm (fget φ 105) 1) := nf
theorem ZDd : stepA E C B 148 Zu Zex (φ, H) = some (fput φ 16 (fget φ 112), H) := nf
theorem Zz6 : stepA E C B 148 Zu Zb5 (φ, H) = some (fput φ 17 (fget φ 113), H) := nf
def Z5Q := kR Z5J
def Zd5 := kL Z5Q
def Z3m := kO Zd5
def Zff := opN Z3m 0
def ZdV := opN Z3m 1
theorem ZUg : XG 121 148 Zd5 Z3m [17, 114] := Z1 (by rfl) (by rfl) _
theorem ZEq : Z3m.toList = [Zff, ZdV] := nf
theorem ZEX : stepA E C B 148 Z3m Zff (φ, H) = some (fput φ 114 (fget φ 17), H) := nf
theorem ZE4 : stepA E C B 148 Z3m ZdV (φ, H) = some (fput φ 11 (fget φ 114), H) := nf
def Z6z := kR Z5Q
def Zcj := kL Z6z
def ZN := kO Zcj
def Ze4 := opN ZN 0
def Zf5 := opN ZN 1
def Zee := opN ZN 2
def Zgx := opN ZN 3
def Zf8 := opN ZN 4
def Zf3 := opN ZN 5
def Zf4 := opN ZN 6
def ZfQ := opN ZN 7
theorem ZYH : XG 121 148 Zcj ZN [115, 116, 117, 118, 119, 120] := Z1 (by rfl) (by rfl) _
theorem ZEu : ZN.toList = [Ze4, Zf5, Zee, Zgx, Zf8, Zf3, Zf4, ZfQ] := nf
theorem ZCP : stepA E C B 148 ZN Ze4 (φ, H) = some (fput φ 115 (fget φ 16), H) := nf
theorem ZDI : stepA E C B 148 ZN Zf5 (φ, H) = some (fput φ 116 (fget φ 1), H) := nf
theorem ZAP : stepA E C B 148 ZN Zee (φ, H) = stp (some 117) φ H (just (aBin E.T .sub 3 (fget φ 115) (fget φ 116))) := nf
theorem ZDC : stepA E C B 148 ZN Zgx (φ, H) = some (fput φ 118 (fget φ 2), H) := nf
theorem ZDN : stepA E C B 148 ZN Zf8 (φ, H) = some (fput φ 119 (fget φ 16), H) := nf
theorem ZBm : stepA E C B 148 ZN Zf3 (φ, H) = stp (some 120) φ H (just (aBin E.T .sub 3 (fget φ 118) (fget φ 119))) := nf
theorem ZBn : stepA E C B 148 ZN Zf4 (φ, H) = some (fput φ 18 (fget φ 117), H) := nf
theorem ZDZ : stepA E C B 148 ZN ZfQ (φ, H) = some (fput φ 19 (fget φ 120), H) := nf
def Z7p := kR Z6z
def ZcB := kL Z7p
def Z1R := kO ZcB
def ZfW := opN Z1R 0
def ZeC := opN Z1R 1
def Zfi := opN Z1R 2
theorem ZZt : XG 121 148 ZcB Z1R [12, 121, 122] := Z1 (by rfl) (by rfl) _
theorem ZFi : Z1R.toList = [ZfW, ZeC, Zfi] := nf
theorem ZBH : stepA E C B 148 Z1R ZfW (φ, H) = some (fput φ 121 (fget φ 12), H) := nf
theorem ZE9 : stepA E C B 148 Z1R ZeC (φ, H) = stp (some 122) φ H (just (aBin E.T .quo 3 (fget φ 121) (.int .i64 8))) := nf
theorem ZAp : stepA E C B 148 Z1R Zfi (φ, H) = some (fput φ 20 (fget φ 122), H) := nf
def Z7v := kR Z7p
def Zcr := kL Z7v
def Z1S := kO Zcr
def Zfn := opN Z1S 0
def ZgZ := opN Z1S 1
def Zgi := opN Z1S 2
theorem ZZ8 : XG 121 148 Zcr Z1S [123, 124] := Z1 (by rfl) (by rfl) _
theorem ZCN : Z1S.toList = [Zfn, ZgZ, Zgi] := nf
theorem ZCr : stepA E C B 148 Z1S Zfn (φ, H) = some (fput φ 123 (fget φ 18), H) := nf
theorem ZDX : stepA E C B 148 Z1S ZgZ (φ, H) = some (fput φ 124 (fget φ 19), H) := nf
theorem ZFA : stepA E C B 148 Z1S Zgi (φ, H) = stp (some 125) φ H (just (aBin E.T .lss 3 (fget φ 123) (fget φ 124))) := nf
def Z5O := kR Z7v
def Z6a := kT Z5O
def ZcN := kL Z6a
def Z12 := kO ZcN
def Zfw := opN Z12 0
def Zfa := opN Z12 1
def Zf0 := opN Z12 2
def Zg8 := opN Z12 3
theorem ZZF : XG 121 148 ZcN Z12 [18, 19, 20, 125, 126, 127, 128] := Z1 (by rfl) (by rfl) _
theorem ZEz : Z12.toList = [Zfw, Zfa, Zf0, Zg8] := nf
theorem ZAs : stepA E C B 148 Z12 Zfw (φ, H) = some (fput φ 126 (fget φ 18), H) := nf
theorem ZBA : stepA E C B 148 Z12 Zfa (φ, H) = some (fput φ 127 (fget φ 20), H) := nf
theorem ZCB : stepA E C B 148 Z12 Zf0 (φ, H) = stp (some 128) φ H (just (aBin E.T .geq 3 (fget φ 126) (fget φ 127))) := nf
theorem ZDq : stepA E C B 148 Z12 Zg8 (φ, H) = some (fput φ 10 (fget φ 128), H) := nf
def Z6N := kR Z6a
def Zd9 := kL Z6N
def Z0e := kO Zd9
def Ze1 := opN Z0e 0
def ZgA := opN Z0e 1
def Zg9 := opN Z0e 2
def Zg7 := opN Z0e 3
def Zf9 := opN Z0e 4
def Zgk := opN Z0e 5
theorem ZOE : XG 121 148 Zd9 Z0e [1, 129, 130, 131, 132, 133, 134] := Z1 (by rfl) (by rfl) _
theorem ZFz : Z0e.toList = [Ze1, ZgA, Zg9, Zg7, Zf9, Zgk] := nf
theorem ZCx : stepA E C B 148 Z0e Ze1 (φ, H) = some (fput φ 129 (fget φ 0), H) := nf
theorem ZAj : stepA E C B 148 Z0e ZgA (φ, H) = some (fput φ 130 (fget φ 1), H) := nf
theorem ZDc : stepA E C B 148 Z0e Zg9 (φ, H) = some (fput φ 131 (fget φ 16), H) := nf
theorem ZFw : stepA E C B 148 Z0e Zg7 (φ, H) = some (fput φ 132 (fget φ 3), H) := nf
theorem ZBQ : stepA E C B 148 Z0e Zf9 (φ, H) = some (fput φ 133 (fget φ 4), H) := nf
theorem ZAf : stepA E C B 148 Z0e Zgk (φ, H) = mutX (some 134) φ (C 121 [(fget φ 129), (fget φ 130), (fget φ 131), (fget φ 132), (fget φ 133)] H (B + 148 * 8)) := nf
def ZcL := kR Z6N
def Z1N := kO ZcL
def ZeM := opN Z1N 0
def Zem := opN Z1N 1
def Zfu := opN Z1N 2
theorem ZR9 : XG 121 148 ZcL Z1N [16, 135, 136] := Z1 (by rfl) (by rfl) _
theorem ZAC : Z1N.toList = [ZeM, Zem, Zfu] := nf
theorem ZB1 : stepA E C B 148 Z1N ZeM (φ, H) = some (fput φ 135 (fget φ 16), H) := nf
theorem ZAT : stepA E C B 148 Z1N Zem (φ, H) = stp (some 136) φ H (just (aBin E.T .add 3 (fget φ 135) (.int .i64 1))) := nf
theorem ZFK : stepA E C B 148 Z1N Zfu (φ, H) = some (fput φ 1 (fget φ 136), H) := nf
theorem ZPw : XQ 121 148 Z6N Zd9 ZcL := Z0 (by rfl) _
theorem ZXg : XQ 121 148 Z6a ZcN Z6N := Z0 (by rfl) _
def Z76 := kE Z5O
def Zdq := kL Z76
def Z17 := kO Zdq
def Zfo := opN Z17 0
def ZdO := opN Z17 1
def ZgF := opN Z17 2
def Zge := opN Z17 3
theorem ZS1 : XG 121 148 Zdq Z17 [18, 19, 20, 125, 137, 138, 139] := Z1 (by rfl) (by rfl) _
theorem ZBo : Z17.toList = [Zfo, ZdO, ZgF, Zge] := nf
theorem ZEA : stepA E C B 148 Z17 Zfo (φ, H) = some (fput φ 137 (fget φ 19), H) := nf
theorem ZFk : stepA E C B 148 Z17 ZdO (φ, H) = some (fput φ 138 (fget φ 20), H) := nf
theorem ZAD : stepA E C B 148 Z17 ZgF (φ, H) = stp (some 139) φ H (just (aBin E.T .geq 3 (fget φ 137) (fget φ 138))) := nf
theorem ZA9 : stepA E C B 148 Z17 Zge (φ, H) = some (fput φ 10 (fget φ 139), H) := nf
def Z5R := kR Z76
def Zcm := kL Z5R
def Z07 := kO Zcm
def Zej := opN Z07 0
def Zgl := opN Z07 1
def ZdU := opN Z07 2
def Zfq := opN Z07 3
def ZgT := opN Z07 4
def ZgW := opN Z07 5
def Zec := opN Z07 6
theorem ZXG : XG 121 148 Zcm Z07 [2, 140, 141, 142, 143, 144, 145, 146] := Z1 (by rfl) (by rfl) _
theorem ZCK : Z07.toList = [Zej, Zgl, ZdU, Zfq, ZgT, ZgW, Zec] := nf
theorem ZE1 : stepA E C B 148 Z07 Zej (φ, H) = some (fput φ 140 (fget φ 0), H) := nf
theorem ZEI : stepA E C B 148 Z07 Zgl (φ, H) = some (fput φ 141 (fget φ 16), H) := nf
theorem ZEE : stepA E C B 148 Z07 ZdU (φ, H) = stp (some 142) φ H (just (aBin E.T .add 3 (fget φ 141) (.int .i64 1))) := nf
theorem ZCT : stepA E C B 148 Z07 Zfq (φ, H) = some (fput φ 143 (fget φ 2), H) := nf
theorem ZAx : stepA E C B 148 Z07 ZgT (φ, H) = some (fput φ 144 (fget φ 3), H) := nf
theorem ZBf : stepA E C B 148 Z07 ZgW (φ, H) = some (fput φ 145 (fget φ 4), H) := nf
theorem ZGa : stepA E C B 148 Z07 Zec (φ, H) = mutX (some 146) φ (C 121 [(fget φ 140), (fget φ 142), (fget φ 143), (fget φ 144), (fget φ 145)] H (B + 148 * 8)) := nf
def Zdu := kR Z5R
def Z3f := kO Zdu
def ZfX := opN Z3f 0
def ZfR := opN Z3f 1
theorem ZTH : XG 121 148 Zdu Z3f [16, 147] := Z1 (by rfl) (by rfl) _
theorem ZED : Z3f.toList = [ZfX, ZfR] := nf
theorem ZDL : stepA E C B 148 Z3f ZfX (φ, H) = some (fput φ 147 (fget φ 16), H) := nf
theorem ZF1 : stepA E C B 148 Z3f ZfR (φ, H) = some (fput φ 2 (fget φ 147), H) := nf
theorem ZUs : XQ 121 148 Z5R Zcm Zdu := Z0 (by rfl) _
theorem ZQZ : XQ 121 148 Z76 Zdq Z5R := Z0 (by rfl) _
theorem ZYS : XC 121 148 Z5O 125 Z6a Z76 := Z8 (by rfl) _
theorem ZV4 : XQ 121 148 Z7v Zcr Z5O := Z0 (by rfl) _
theorem ZPN : XQ 121 148 Z7p ZcB Z7v := Z0 (by rfl) _
theorem ZXs : XQ 121 148 Z6z Zcj Z7p := Z0 (by rfl) _
theorem ZPx : XQ 121 148 Z5Q Zd5 Z6z := Z0 (by rfl) _
theorem ZZw : XQ 121 148 Z5J Zd0 Z5Q := Z0 (by rfl) _
theorem ZZc : XQ 121 148 Z6M Z77 Z5J := Z0 (by rfl) _
theorem ZR8 : XQ 121 148 Z6U Z62 Z6M := Z0 (by rfl) _
theorem ZZg : XQ 121 148 Z7F Z7r Z6U := Z0 (by rfl) _
theorem ZWK : XQ 121 148 Z7f ZcX Z7F := Z0 (by rfl) _
theorem ZUv : XQ 121 148 Z6h Z72 Z7f := Z0 (by rfl) _
theorem ZSV : XQ 121 148 Z5Z Z6J Z6h := Z0 (by rfl) _
theorem Z06U : XQ 121 148 Zb3 Z6d Z5Z := Z0 (by rfl) _
theorem Z01M : XQ 121 148 Z8z Zkx Zb3 := Z0 (by rfl) _
theorem Z039 : execA E C (fg 121) B 148 E0 N Zk6 s = blockX 1 (fun s => (forget s.1 [], s.2)) (execA E C (fg 121) B 148 E0 N Z8z s) := Za (by rfl) (by rfl) s
theorem Z04x : execA E C (fg 121) B 148 E0 N Zjx s = iterA (execA E C (fg 121) B 148 E0 N Zk6) (headA E0) N s := ZY (by rfl) s
theorem Z02H : execA E C (fg 121) B 148 E0 N ZqC s = blockX 0 (fun s => (forget s.1 [], s.2)) (execA E C (fg 121) B 148 E0 N Zjx s) := Za (by rfl) (by rfl) s
theorem Z04V : XQ 121 148 Zb6 ZnK ZqC := Z0 (by rfl) _
theorem Z01X : XQ 121 148 Z5C ZnX Zb6 := Z0 (by rfl) _
theorem Z056 : fInfo E 121 = some ⟨148, #[], Z5C⟩ := nf
theorem Z094 (args : List AV) : bodyA E C fg N 121 args H B = bodyX E [] (execA E C (fg 121) B 148 H N Z5C (Z5 args 0 [], H)) := Zo Z056 args H
abbrev Z09s := And.intro (And.intro (And.intro (And.intro (And.intro (And.intro (And.intro (And.intro @Z032 @ZNj) (And.intro @ZGE @Z02L)) (And.intro (And.intro @ZLY @ZMR) (And.intro @Z06S @ZL1))) (And.intro (And.intro (And.intro @ZHr @ZGm) (And.intro @ZHw @ZGf)) (And.intro (And.intro @ZRn @ZJo) (And.intro @ZLt @ZID)))) (And.intro (And.intro (And.intro (And.intro @ZRX @ZJc) (And.intro @ZHT @ZMp)) (And.intro (And.intro @ZHG @ZJ1) (And.intro @ZJH @ZUX))) (And.intro (And.intro (And.intro @ZO9 @ZZ7) (And.intro @ZWE @ZQw)) (And.intro (And.intro @ZYv @ZIi) (And.intro @ZJA (And.intro @ZNx @ZXE)))))) (And.intro (And.intro (And.intro (And.intro (And.intro @ZIv @ZGy) (And.intro @ZLq @ZMz)) (And.intro (And.intro @ZL6 @ZJg) (And.intro @ZSC @ZUb))) (And.intro (And.intro (And.intro @ZNQ @ZVH) (And.intro @ZTX @ZZy)) (And.intro (And.intro @ZGW @ZLJ) (And.intro @ZHK @ZUt)))) (And.intro (And.intro (And.intro (And.intro @ZLN @ZJq) (And.intro @ZL3 @ZGU)) (And.intro (And.intro @ZMd @ZKU) (And.intro @ZVn @ZHo))) (And.intro (And.intro (And.intro @ZN2 @ZJI) (And.intro @ZL7 @ZWm)) (And.intro (And.intro @ZW1 @ZSF) (And.intro @ZWV (And.intro @ZWf @ZDv))))))) (And.intro (And.intro (And.intro (And.intro (And.intro (And.intro @ZDy @ZCU) (And.intro @ZD3 @ZBy)) (And.intro (And.intro @ZCM @ZDs) (And.intro @ZC9 @ZB5))) (And.intro (And.intro (And.intro @ZES @ZFY) (And.intro @ZZE @ZB6)) (And.intro (And.intro @ZEH @ZCu) (And.intro @ZWe @ZEF)))) (And.intro (And.intro (And.intro (And.intro @ZEa @ZF2) (And.intro @ZCc @ZDi)) (And.intro (And.intro @ZCn @ZPf) (And.intro @ZDS @ZBq))) (And.intro (And.intro (And.intro @ZFm @ZG1) (And.intro @ZBl @ZCO)) (And.intro (And.intro @ZCj @ZA6) (And.intro @ZSa (And.intro @ZAZ @ZEY)))))) (And.intro (And.intro (And.intro (And.intro (And.intro @ZQm @ZQ3) (And.intro @ZOu @ZWT)) (And.intro (And.intro @ZSN @ZPQ) (And.intro @ZBI @ZBJ))) (And.intro (And.intro (And.intro @ZEg @ZDt) (And.intro @ZAn @ZDG)) (And.intro (And.intro @ZEv @ZEP) (And.intro @ZFU (And.intro @ZXH @ZCe))))) (And.intro (And.intro (And.intro (And.intro @ZCy @ZDe) (And.intro @ZFd @ZBN)) (And.intro (And.intro @ZAI @ZYA) (And.intro @ZZC @ZZf))) (And.intro (And.intro (And.intro @ZQL @ZPM) (And.intro @ZOq @ZWq)) (And.intro (And.intro @ZPi @ZC7) (And.intro @ZzF (And.intro @ZyT @ZF3)))))))) (And.intro (And.intro (And.intro (And.intro (And.intro (And.intro (And.intro @ZEG @ZDA) (And.intro @ZE0 @ZB0)) (And.intro (And.intro @ZFj @ZF0) (And.intro @ZF7 @ZB4))) (And.intro (And.intro (And.intro @ZEC @ZzB) (And.intro @Zzq @Zzm)) (And.intro (And.intro @ZA2 @ZyY) (And.intro @ZyK @ZzP)))) (And.intro (And.intro (And.intro (And.intro @ZWY @ZFV) (And.intro @ZFX @ZCA)) (And.intro (And.intro @ZAt @ZEW) (And.intro @ZCa @ZDf))) (And.intro (And.intro (And.intro @ZCE @ZPe) (And.intro @ZFB @ZBa)) (And.intro (And.intro @ZFZ @ZO3) (And.intro @ZUc (And.intro @ZS7 @ZRl)))))) (And.intro (And.intro (And.intro (And.intro (And.intro @ZZM @ZS5) (And.intro @ZZ5 @ZCC)) (And.intro (And.intro @ZBw @ZEQ) (And.intro @ZDj @ZCv))) (And.intro (And.intro (And.intro @ZDM @ZCq) (And.intro @ZE3 @ZDb)) (And.intro (And.intro @ZCh @ZDd) (And.intro @Zz6 (And.intro @ZUg @ZEq))))) (And.intro (And.intro (And.intro (And.intro @ZEX @ZE4) (And.intro @ZYH @ZEu)) (And.intro (And.intro @ZCP @ZDI) (And.intro @ZAP @ZDC))) (And.intro (And.intro (And.intro @ZDN @ZBm) (And.intro @ZBn @ZDZ)) (And.intro (And.intro @ZZt @ZFi) (And.intro @ZBH (And.intro @ZE9 @ZAp))))))) (And.intro (And.intro (And.intro (And.intro (And.intro (And.intro @ZZ8 @ZCN) (And.intro @ZCr @ZDX)) (And.intro (And.intro @ZFA @ZZF) (And.intro @ZEz @ZAs))) (And.intro (And.intro (And.intro @ZBA @ZCB) (And.intro @ZDq @ZOE)) (And.intro (And.intro @ZFz @ZCx) (And.intro @ZAj @ZDc)))) (And.intro (And.intro (And.intro (And.intro @ZFw @ZBQ) (And.intro @ZAf @ZR9)) (And.intro (And.intro @ZAC @ZB1) (And.intro @ZAT @ZFK))) (And.intro (And.intro (And.intro @ZPw @ZXg) (And.intro @ZS1 @ZBo)) (And.intro (And.intro @ZEA @ZFk) (And.intro @ZAD (And.intro @ZA9 @ZXG)))))) (And.intro (And.intro (And.intro (And.intro (And.intro @ZCK @ZE1) (And.intro @ZEI @ZEE)) (And.intro (And.intro @ZCT @ZAx) (And.intro @ZBf @ZGa))) (And.intro (And.intro (And.intro @ZTH @ZED) (And.intro @ZDL @ZF1)) (And.intro (And.intro @ZUs @ZQZ) (And.intro @ZYS (And.intro @ZV4 @ZPN))))) (And.intro (And.intro (And.intro (And.intro @ZXs @ZPx) (And.intro @ZZw @ZZc)) (And.intro (And.intro @ZR8 @ZZg) (And.intro @ZWK @ZUv))) (And.intro (And.intro (And.intro @ZSV @Z06U) (And.intro @Z01M @Z039)) (And.intro (And.intro @Z04x @Z02H) (And.intro @Z04V (And.intro @Z01X @Z094))))))))
def Z5A := kBody Proofs.Try.f133
def ZjR := kL Z5A
def Z2v := kO ZjR
def ZpH := opN Z2v 0
def Zqt := opN Z2v 1
def ZnL := opN Z2v 2
theorem Z05E : XG 133 53 ZjR Z2v [10, 11] := Z1 (by rfl) (by rfl) _
theorem ZMa : Z2v.toList = [ZpH, Zqt, ZnL] := nf
theorem ZKk : stepA E C B 53 Z2v ZpH (φ, H) = some (fput φ 10 (fget φ 1), H) := nf
theorem ZMJ : stepA E C B 53 Z2v Zqt (φ, H) = stp (some 11) φ H (just (aBin E.T .add 3 (fget φ 10) (.int .i64 1))) := nf
theorem ZMq : stepA E C B 53 Z2v ZnL (φ, H) = some (fput φ 8 (fget φ 11), H) := nf
def ZpJ := kR Z5A
def ZlD := kB ZpJ
def Z5l := kB ZlD
def Zc3 := kL Z5l
def Zp4 := kL Zc3
def Z2P := kO Zp4
def Zk5 := opN Z2P 0
def Zlq := opN Z2P 1
def ZpG := opN Z2P 2
theorem Z073 : XG 133 53 Zp4 Z2P [12, 13] := Z1 (by rfl) (by rfl) _
theorem ZNr : Z2P.toList = [Zk5, Zlq, ZpG] := nf
theorem ZJk : stepA E C B 53 Z2P Zk5 (φ, H) = some (fput φ 12 (fget φ 8), H) := nf
theorem ZGe : stepA E C B 53 Z2P Zlq (φ, H) = some (fput φ 13 (fget φ 2), H) := nf
theorem ZJU : stepA E C B 53 Z2P ZpG (φ, H) = stp (some 14) φ H (just (aBin E.T .lss 3 (fget φ 12) (fget φ 13))) := nf
def Za5 := kR Zc3
def ZC8 := kT Za5
theorem Z00x : execA E C (fg 133) B 53 E0 N ZC8 s = some (.normal, s) := Zb (by rfl) s
def ZAW := kE Za5
theorem Z051 : execA E C (fg 133) B 53 E0 N ZAW s = some (.exit 0, s) := ZP (by rfl) s
theorem Z04J : XC 133 53 Za5 14 ZC8 ZAW := Z8 (by rfl) _
theorem Z06y : XQ 133 53 Zc3 Zp4 Za5 := Z0 (by rfl) _
def Z5Y := kR Z5l
def Zdm := kL Z5Y
def Z5K := kB Zdm
def ZcQ := kL Z5K
def Z4G := kO ZcQ
def ZmW := opN Z4G 0
def ZjE := opN Z4G 1
theorem ZUO : XG 133 53 ZcQ Z4G [14, 17] := Z1 (by rfl) (by rfl) _
theorem ZMg : Z4G.toList = [ZmW, ZjE] := nf
theorem ZMK : stepA E C B 53 Z4G ZmW (φ, H) = some (fput φ 17 (fget φ 8), H) := nf
theorem ZMh : stepA E C B 53 Z4G ZjE (φ, H) = some (fput φ 9 (fget φ 17), H) := nf
def Zdb := kR Z5K
def Zdh := kB Zdb
def Z4m := kB Zdh
def Z6T := kL Z4m
def Zdz := kL Z6T
def Zi := kO Zdz
def Zjo := opN Zi 0
def ZnF := opN Zi 1
def ZkY := opN Zi 2
def Z02 := opN Zi 3
def Znd := opN Zi 4
def Zql := opN Zi 5
def Zmp := opN Zi 6
def ZkM := opN Zi 7
def ZjA := opN Zi 8
def Zp0 := opN Zi 9
def ZdQ := opN Zi 10
def Zft := opN Zi 11
def Zeo := opN Zi 12
def ZeV := opN Zi 13
def Zg2 := opN Zi 14
def ZgI := opN Zi 15
def Zgp := opN Zi 16
theorem ZXN : XD 133 53 Zdz Zi [18, 19, 20, 21, 22, 23, 24, 25, 26, 27, 28, 29, 30, 31, 32, 33] := Z2E (by rfl) (by rfl) _
theorem ZKr : Zi.toList = [Zjo, ZnF, ZkY, Z02, Znd, Zql, Zmp, ZkM, ZjA, Zp0, ZdQ, Zft, Zeo, ZeV, Zg2, ZgI, Zgp] := nf
theorem ZFt : statOk Zi = true := by kernel_rfl
theorem ZDw : drawA E C B 53 Zi s = if neat 53 s = true then drX Zi (runT E C B 53 Zi Zi.toList 0 s) else none := Z1O ZFt s
theorem ZAg (l : List (Nat × Tr)) : dynOk Zi l = (!writing l || Zl [[], [], [0, 1], [0, 1, 2], [0, 1, 2, 3], [0, 1, 2, 3], [0, 1, 2, 3], [0, 1, 2, 3, 5, 6], [0, 1, 2, 3, 5, 6, 7], [0, 1, 2, 3], [0, 1, 2, 3], [0, 1, 2, 3, 10], [0, 1, 2, 3, 9, 10, 11], [0, 1, 2, 3, 9, 10, 11, 12], [0, 1, 2, 3, 4, 5, 6, 7, 8, 9, 10, 11, 12, 13], [0, 1, 2, 3, 4, 5, 6, 7, 8, 9, 10, 11, 12, 13, 14], [0, 1, 2, 3, 4, 5, 6, 7, 8, 9, 10, 11, 12, 13, 14, 15]] (Zj l)) := Z1c (by kernel_rfl) l
theorem ZJ3 : stepT E C B 53 Zi Zjo (φ, H) = some ((fput φ 18 (fget φ 9), H), ⟨false, [], []⟩) := Z6 rfl (Zf rfl rfl)
theorem ZIl : stepT E C B 53 Zi ZnF (φ, H) = some ((fput φ 19 (fget φ 1), H), ⟨false, [], []⟩) := Z6 rfl (Zf rfl rfl)
theorem ZMC : stepT E C B 53 Zi ZkY (φ, H) = stpT (some 20) φ H (just (aBin E.T .gtr 3 (fget φ 18) (fget φ 19))) := Z6 rfl (Ze rfl rfl)
theorem ZH3 : stepT E C B 53 Zi Z02 (φ, H) = some ((fput φ 21 (fget φ 20), H), ⟨false, [], []⟩) := Z6 rfl (Zf rfl rfl)
theorem ZKV : stepT E C B 53 Zi Znd (φ, H) = gdT φ 21 true (fun φ => (some (fput φ 22 (.tup []), H)).map fun s => (s, ⟨false, [], []⟩)) (fun φ => some ((fput φ 22 (fget φ 3), H), ⟨false, [], []⟩)) := ZB (j := 3) (oj := Z02) rfl rfl rfl (fun _ => rfl) (fun _ => Zf rfl rfl)
theorem ZIb : stepT E C B 53 Zi Zql (φ, H) = gdT φ 21 true (fun φ => (some (fput φ 23 (.tup []), H)).map fun s => (s, ⟨false, [], []⟩)) (fun φ => some ((fput φ 23 (fget φ 0), H), ⟨false, [], []⟩)) := ZB (j := 3) (oj := Z02) rfl rfl rfl (fun _ => rfl) (fun _ => Zf rfl rfl)
theorem ZLd : stepT E C B 53 Zi Zmp (φ, H) = gdT φ 21 true (fun φ => (some (fput φ 24 (.tup []), H)).map fun s => (s, ⟨false, [], []⟩)) (fun φ => some ((fput φ 24 (fget φ 9), H), ⟨false, [], []⟩)) := ZB (j := 3) (oj := Z02) rfl rfl rfl (fun _ => rfl) (fun _ => Zf rfl rfl)
theorem ZMs : stepT E C B 53 Zi ZkM (φ, H) = gdT φ 21 true (fun φ => (some (fput φ 25 (.tup []), H)).map fun s => (s, ⟨false, [], []⟩)) (fun φ => stpT (some 25) φ H (just (Z2 E.T 22 (fget φ 23) (fget φ 24)))) := ZB (j := 3) (oj := Z02) rfl rfl rfl (fun _ => rfl) (fun _ => Ze rfl rfl)
theorem ZLV : stepT E C B 53 Zi ZjA (φ, H) = gdT φ 21 true (fun φ => (some (fput φ 26 (.tup []), H)).map fun s => (s, ⟨false, [], []⟩)) (fun φ => stpT (some 26) φ H (just (aLoad E.T 3 (fget φ 25)))) := ZB (j := 3) (oj := Z02) rfl rfl rfl (fun _ => rfl) (fun _ => Ze rfl rfl)
theorem ZI2 : stepT E C B 53 Zi Zp0 (φ, H) = gdT φ 21 true (fun φ => (some (fput φ 27 (.tup []), H)).map fun s => (s, ⟨false, [], []⟩)) (fun φ => some ((fput φ 27 (fget φ 0), H), ⟨false, [], []⟩)) := ZB (j := 3) (oj := Z02) rfl rfl rfl (fun _ => rfl) (fun _ => Zf rfl rfl)
theorem ZB8 : stepT E C B 53 Zi ZdQ (φ, H) = gdT φ 21 true (fun φ => (some (fput φ 28 (.tup []), H)).map fun s => (s, ⟨false, [], []⟩)) (fun φ => some ((fput φ 28 (fget φ 9), H), ⟨false, [], []⟩)) := ZB (j := 3) (oj := Z02) rfl rfl rfl (fun _ => rfl) (fun _ => Zf rfl rfl)
theorem ZAe : stepT E C B 53 Zi Zft (φ, H) = gdT φ 21 true (fun φ => (some (fput φ 29 (.tup []), H)).map fun s => (s, ⟨false, [], []⟩)) (fun φ => stpT (some 29) φ H (just (aBin E.T .sub 3 (fget φ 28) (.int .i64 1)))) := ZB (j := 3) (oj := Z02) rfl rfl rfl (fun _ => rfl) (fun _ => Ze rfl rfl)
theorem ZFS : stepT E C B 53 Zi Zeo (φ, H) = gdT φ 21 true (fun φ => (some (fput φ 30 (.tup []), H)).map fun s => (s, ⟨false, [], []⟩)) (fun φ => stpT (some 30) φ H (just (Z2 E.T 22 (fget φ 27) (fget φ 29)))) := ZB (j := 3) (oj := Z02) rfl rfl rfl (fun _ => rfl) (fun _ => Ze rfl rfl)
theorem ZFM : stepT E C B 53 Zi ZeV (φ, H) = gdT φ 21 true (fun φ => (some (fput φ 31 (.tup []), H)).map fun s => (s, ⟨false, [], []⟩)) (fun φ => stpT (some 31) φ H (just (aLoad E.T 3 (fget φ 30)))) := ZB (j := 3) (oj := Z02) rfl rfl rfl (fun _ => rfl) (fun _ => Ze rfl rfl)
theorem ZAu : stepT E C B 53 Zi Zg2 (φ, H) = gdT φ 21 true (fun φ => (some (fput φ 32 (.tup []), H)).map fun s => (s, ⟨false, [], []⟩)) (fun φ => callVT E C (B + 53 * 8) (some 32) (fun j => B + j * 53 + 32) φ H (fget φ 22) [(fget φ 26), (fget φ 31)] true) := ZB (j := 3) (oj := Z02) rfl rfl rfl (fun _ => rfl) (fun _ => ZNM rfl rfl)
theorem ZEN : stepT E C B 53 Zi ZgI (φ, H) = gdT φ 21 true (fun φ => (some (fput φ 33 (.tup []), H)).map fun s => (s, ⟨false, [], []⟩)) (fun φ => stpT (some 33) φ H (just (aBin E.T .lss 3 (fget φ 32) (.int .i64 0)))) := ZB (j := 3) (oj := Z02) rfl rfl rfl (fun _ => rfl) (fun _ => Ze rfl rfl)
theorem ZFa : stepT E C B 53 Zi Zgp (φ, H) = stpT (some 34) φ H (opPick (fget φ 21) (fget φ 33) (.bool false)) := Z6 rfl (Ze rfl rfl)
def Z69 := kR Z6T
def Zv2 := kT Z69
theorem ZPU : execA E C (fg 133) B 53 E0 N Zv2 s = some (.normal, s) := Zb (by rfl) s
def Zr1 := kE Z69
theorem ZXI : execA E C (fg 133) B 53 E0 N Zr1 s = some (.exit 2, s) := ZP (by rfl) s
theorem ZP3 : XC 133 53 Z69 34 Zv2 Zr1 := Z8 (by rfl) _
theorem ZUw : XQ 133 53 Z6T Zdz Z69 := Z0 (by rfl) _
def Z74 := kR Z4m
def Zcl := kL Z74
def ZcD := kB Zcl
def Zh := kO ZcD
def ZnH := opN Zh 0
def Zo6 := opN Zh 1
def ZoY := opN Zh 2
def Zqr := opN Zh 3
def ZjX := opN Zh 4
def Zmg := opN Zh 5
def ZlC := opN Zh 6
def Zo3 := opN Zh 7
def Zlk := opN Zh 8
def Zjj := opN Zh 9
def Zgj := opN Zh 10
def ZfU := opN Zh 11
def Zgo := opN Zh 12
def Zf7 := opN Zh 13
def ZgS := opN Zh 14
def ZeK := opN Zh 15
def ZfN := opN Zh 16
def Zed := opN Zh 17
theorem ZRb : XD 133 53 ZcD Zh [34, 37, 38, 39, 40, 41, 42, 43, 44, 45, 46, 47, 48, 49, 50, 51, 52] := Z2E (by rfl) (by rfl) _
theorem ZMH : Zh.toList = [ZnH, Zo6, ZoY, Zqr, ZjX, Zmg, ZlC, Zo3, Zlk, Zjj, Zgj, ZfU, Zgo, Zf7, ZgS, ZeK, ZfN, Zed] := nf
theorem ZDH : statOk Zh = true := by kernel_rfl
theorem ZB2 : drawA E C B 53 Zh s = if neat 53 s = true then drX Zh (runT E C B 53 Zh Zh.toList 0 s) else none := Z1O ZDH s
theorem ZG5 (l : List (Nat × Tr)) : dynOk Zh l = (!writing l || Zl [[], [], [], [], [3], [], [], [6], [5, 6, 7], [5, 6, 7, 8], [], [], [10, 11], [10, 11, 12], [0, 1, 5, 6, 7, 8, 9, 10, 11, 12, 13], [0, 1, 5, 6, 7, 8, 9, 10, 11, 12, 13, 14], [0, 1, 2, 3, 4, 5, 6, 7, 8, 9, 10, 11, 12, 13, 14, 15], [0, 1, 2, 3, 4, 5, 6, 7, 8, 9, 10, 11, 12, 13, 14, 15, 16]] (Zj l)) := Z1c (by kernel_rfl) l
theorem ZJC : stepT E C B 53 Zh ZnH (φ, H) = some ((fput φ 37 (fget φ 0), H), ⟨false, [], []⟩) := Z6 rfl (Zf rfl rfl)
theorem ZIK : stepT E C B 53 Zh Zo6 (φ, H) = some ((fput φ 38 (fget φ 9), H), ⟨false, [], []⟩) := Z6 rfl (Zf rfl rfl)
theorem ZGM : stepT E C B 53 Zh ZoY (φ, H) = some ((fput φ 39 (fget φ 0), H), ⟨false, [], []⟩) := Z6 rfl (Zf rfl rfl)
theorem ZMZ : stepT E C B 53 Zh Zqr (φ, H) = some ((fput φ 40 (fget φ 9), H), ⟨false, [], []⟩) := Z6 rfl (Zf rfl rfl)
theorem ZLz : stepT E C B 53 Zh ZjX (φ, H) = stpT (some 41) φ H (just (aBin E.T .sub 3 (fget φ 40) (.int .i64 1))) := Z6 rfl (Ze rfl rfl)
theorem ZKK : stepT E C B 53 Zh Zmg (φ, H) = some ((fput φ 42 (fget φ 0), H), ⟨false, [], []⟩) := Z6 rfl (Zf rfl rfl)
theorem ZGY : stepT E C B 53 Zh ZlC (φ, H) = some ((fput φ 43 (fget φ 9), H), ⟨false, [], []⟩) := Z6 rfl (Zf rfl rfl)
theorem ZMB : stepT E C B 53 Zh Zo3 (φ, H) = stpT (some 44) φ H (just (aBin E.T .sub 3 (fget φ 43) (.int .i64 1))) := Z6 rfl (Ze rfl rfl)
theorem ZI1 : stepT E C B 53 Zh Zlk (φ, H) = stpT (some 45) φ H (just (Z2 E.T 22 (fget φ 42) (fget φ 44))) := Z6 rfl (Ze rfl rfl)
theorem ZKW : stepT E C B 53 Zh Zjj (φ, H) = stpT (some 46) φ H (just (aLoad E.T 3 (fget φ 45))) := Z6 rfl (Ze rfl rfl)
theorem ZAG : stepT E C B 53 Zh Zgj (φ, H) = some ((fput φ 47 (fget φ 0), H), ⟨false, [], []⟩) := Z6 rfl (Zf rfl rfl)
theorem ZAA : stepT E C B 53 Zh ZfU (φ, H) = some ((fput φ 48 (fget φ 9), H), ⟨false, [], []⟩) := Z6 rfl (Zf rfl rfl)
theorem ZDT : stepT E C B 53 Zh Zgo (φ, H) = stpT (some 49) φ H (just (Z2 E.T 22 (fget φ 47) (fget φ 48))) := Z6 rfl (Ze rfl rfl)
theorem ZEc : stepT E C B 53 Zh Zf7 (φ, H) = stpT (some 50) φ H (just (aLoad E.T 3 (fget φ 49))) := Z6 rfl (Ze rfl rfl)
theorem ZCQ : stepT E C B 53 Zh ZgS (φ, H) = stpT (some 51) φ H (just (Z2 E.T 22 (fget φ 37) (fget φ 38))) := Z6 rfl (Ze rfl rfl)
theorem ZEB : stepT E C B 53 Zh ZeK (φ, H) = stpT none φ H (opStore E.T 3 (fget φ 51) (fget φ 46)) := Z6 rfl (Ze rfl rfl)
theorem ZEf : stepT E C B 53 Zh ZfN (φ, H) = stpT (some 52) φ H (just (Z2 E.T 22 (fget φ 39) (fget φ 41))) := Z6 rfl (Ze rfl rfl)
theorem ZFW : stepT E C B 53 Zh Zed (φ, H) = stpT none φ H (opStore E.T 3 (fget φ 52) (fget φ 50)) := Z6 rfl (Ze rfl rfl)
theorem Z001 : execA E C (fg 133) B 53 E0 N Zcl s = blockX 3 (fun s => (forget s.1 [], s.2)) (execA E C (fg 133) B 53 E0 N ZcD s) := Za (by rfl) (by rfl) s
def ZcO := kR Z74
def Z2Q := kO ZcO
def ZmN := opN Z2Q 0
def ZlF := opN Z2Q 1
def Zjv := opN Z2Q 2
theorem ZWx : XG 133 53 ZcO Z2Q [35, 36] := Z1 (by rfl) (by rfl) _
theorem ZIj : Z2Q.toList = [ZmN, ZlF, Zjv] := nf
theorem ZMV : stepA E C B 53 Z2Q ZmN (φ, H) = some (fput φ 35 (fget φ 9), H) := nf
theorem ZH8 : stepA E C B 53 Z2Q ZlF (φ, H) = stp (some 36) φ H (just (aBin E.T .sub 3 (fget φ 35) (.int .i64 1))) := nf
theorem ZJv : stepA E C B 53 Z2Q Zjv (φ, H) = some (fput φ 9 (fget φ 36), H) := nf
theorem ZQh : XQ 133 53 Z74 Zcl ZcO := Z0 (by rfl) _
theorem ZZJ : XQ 133 53 Z4m Z6T Z74 := Z0 (by rfl) _
theorem ZSE : execA E C (fg 133) B 53 E0 N Zdh s = iterA (execA E C (fg 133) B 53 E0 N Z4m) (headA E0) N s := ZY (by rfl) s
theorem ZPr : execA E C (fg 133) B 53 E0 N Zdb s = blockX 2 (fun s => (forget s.1 [9, 34], s.2)) (execA E C (fg 133) B 53 E0 N Zdh s) := Za (by rfl) (by rfl) s
theorem ZTm : XQ 133 53 Z5K ZcQ Zdb := Z0 (by rfl) _
theorem ZOv : execA E C (fg 133) B 53 E0 N Zdm s = blockX 1 (fun s => (forget s.1 [], s.2)) (execA E C (fg 133) B 53 E0 N Z5K s) := Za (by rfl) (by rfl) s
def Zci := kR Z5Y
def Z2y := kO Zci
def Zjk := opN Z2y 0
def Zjy := opN Z2y 1
def Zq1 := opN Z2y 2
theorem ZWt : XG 133 53 Zci Z2y [15, 16] := Z1 (by rfl) (by rfl) _
theorem ZNp : Z2y.toList = [Zjk, Zjy, Zq1] := nf
theorem ZIo : stepA E C B 53 Z2y Zjk (φ, H) = some (fput φ 15 (fget φ 8), H) := nf
theorem ZGB : stepA E C B 53 Z2y Zjy (φ, H) = stp (some 16) φ H (just (aBin E.T .add 3 (fget φ 15) (.int .i64 1))) := nf
theorem ZKP : stepA E C B 53 Z2y Zq1 (φ, H) = some (fput φ 8 (fget φ 16), H) := nf
theorem ZUJ : XQ 133 53 Z5Y Zdm Zci := Z0 (by rfl) _
theorem Z031 : XQ 133 53 Z5l Zc3 Z5Y := Z0 (by rfl) _
theorem Z00I : execA E C (fg 133) B 53 E0 N ZlD s = iterA (execA E C (fg 133) B 53 E0 N Z5l) (headA E0) N s := ZY (by rfl) s
theorem Z07c : execA E C (fg 133) B 53 E0 N ZpJ s = blockX 0 (fun s => (forget s.1 [0, 1, 2, 3, 8, 14], s.2)) (execA E C (fg 133) B 53 E0 N ZlD s) := Za (by rfl) (by rfl) s
theorem Z03v : XQ 133 53 Z5A ZjR ZpJ := Z0 (by rfl) _
theorem Z00V : fInfo E 133 = some ⟨53, #[], Z5A⟩ := nf
theorem Z09A (args : List AV) : bodyA E C fg N 133 args H B = bodyX E [] (execA E C (fg 133) B 53 H N Z5A (Z5 args 0 [], H)) := Zo Z00V args H
abbrev Z61 := And.intro (And.intro (And.intro (And.intro (And.intro (And.intro @Z05E @ZMa) (And.intro @ZKk (And.intro @ZMJ @ZMq))) (And.intro (And.intro @Z073 (And.intro @ZNr @ZJk)) (And.intro @ZGe (And.intro @ZJU @Z00x)))) (And.intro (And.intro (And.intro @Z051 @Z04J) (And.intro @Z06y (And.intro @ZUO @ZMg))) (And.intro (And.intro @ZMK (And.intro @ZMh @ZXN)) (And.intro @ZKr (And.intro @ZDw @ZAg))))) (And.intro (And.intro (And.intro (And.intro @ZJ3 @ZIl) (And.intro @ZMC (And.intro @ZH3 @ZKV))) (And.intro (And.intro @ZIb (And.intro @ZLd @ZMs)) (And.intro @ZLV (And.intro @ZI2 @ZB8)))) (And.intro (And.intro (And.intro @ZAe @ZFS) (And.intro @ZFM (And.intro @ZAu @ZEN))) (And.intro (And.intro @ZFa (And.intro @ZPU @ZXI)) (And.intro @ZP3 (And.intro @ZUw @ZRb)))))) (And.intro (And.intro (And.intro (And.intro (And.intro @ZMH @ZB2) (And.intro @ZG5 (And.intro @ZJC @ZIK))) (And.intro (And.intro @ZGM (And.intro @ZMZ @ZLz)) (And.intro @ZKK (And.intro @ZGY @ZMB)))) (And.intro (And.intro (And.intro @ZI1 @ZKW) (And.intro @ZAG (And.intro @ZAA @ZDT))) (And.intro (And.intro @ZEc (And.intro @ZCQ @ZEB)) (And.intro @ZEf (And.intro @ZFW @Z001))))) (And.intro (And.intro (And.intro (And.intro @ZWx @ZIj) (And.intro @ZMV (And.intro @ZH8 @ZJv))) (And.intro (And.intro @ZQh (And.intro @ZZJ @ZSE)) (And.intro @ZPr (And.intro @ZTm @ZOv)))) (And.intro (And.intro (And.intro @ZWt @ZNp) (And.intro @ZIo (And.intro @ZGB @ZKP))) (And.intro (And.intro @ZUJ (And.intro @Z031 @Z00I)) (And.intro @Z07c (And.intro @Z03v @Z09A))))))
def Zbt := kBody Proofs.Try.f66
def Zyp := kL Zbt
def Zi0 := kO Zyp
def Zvp := opN Zi0 0
theorem Z08z : XG 66 8 Zyp Zi0 [2] := Z1 (by rfl) (by rfl) _
theorem ZX4 : Zi0.toList = [Zvp] := nf
theorem ZXm : stepA E C B 8 Zi0 Zvp (φ, H) = some (fput φ 2 (.nilsl), H) := nf
def Zhc := kR Zbt
def Zic := kL Zhc
def ZyN := kL Zic
def Z71 := kO ZyN
def Ztl := opN Z71 0
def Zty := opN Z71 1
theorem Z08c : XG 66 8 ZyN Z71 [3] := Z1 (by rfl) (by rfl) _
theorem ZON : Z71.toList = [Ztl, Zty] := nf
theorem ZUE : stepA E C B 8 Z71 Ztl (φ, H) = some (fput φ 3 (fget φ 0), H) := nf
theorem ZTc : stepA E C B 8 Z71 Zty (φ, H) = stp (some 4) φ H (just (aBin E.T .eql 22 (fget φ 3) (.nilsl))) := nf
def Zij := kR Zic
def ZhX := kT Zij
def ZyH := kL ZhX
def ZhW := kO ZyH
def Zwe := opN ZhW 0
theorem Z07E : XG 66 8 ZyH ZhW [0, 4] := Z1 (by rfl) (by rfl) _
theorem ZS6 : ZhW.toList = [Zwe] := nf
theorem ZXr : stepA E C B 8 ZhW Zwe (φ, H) = some (fput φ 2 (.nilsl), H) := nf
def ZNK := kR ZhX
theorem Z0ap : execA E C (fg 66) B 8 E0 N ZNK s = some (.ret, s) := Zk (by rfl) s
theorem Z09p : XQ 66 8 ZhX ZyH ZNK := Z0 (by rfl) _
def ZNN := kE Zij
theorem Z07W : execA E C (fg 66) B 8 E0 N ZNN s = some (.normal, s) := Zb (by rfl) s
theorem Z07I : XC 66 8 Zij 4 ZhX ZNN := Z8 (by rfl) _
theorem Z0ab : XQ 66 8 Zic ZyN Zij := Z0 (by rfl) _
def ZbF := kR Zhc
def Zoi := kL ZbF
def Z2n := kO Zoi
def Ztb := opN Z2n 0
def ZvT := opN Z2n 1
def ZuS := opN Z2n 2
def Zsa := opN Z2n 3
theorem Z07a : XG 66 8 Zoi Z2n [0, 4, 5, 6, 7] := Z1 (by rfl) (by rfl) _
theorem ZUG : Z2n.toList = [Ztb, ZvT, ZuS, Zsa] := nf
theorem ZSA : stepA E C B 8 Z2n Ztb (φ, H) = stp (some 5) φ H (Z9 E.T (B + 5) 22 0 (evO E φ) []) := nf
theorem ZYx : stepA E C B 8 Z2n ZvT (φ, H) = some (fput φ 6 (fget φ 0), H) := nf
theorem ZYd : stepA E C B 8 Z2n ZuS (φ, H) = stp (some 7) φ H (Z3 E.T (B + 7) .append #[22, 22] [(fget φ 5), (fget φ 6)]) := nf
theorem ZNY : stepA E C B 8 Z2n Zsa (φ, H) = some (fput φ 2 (fget φ 7), H) := nf
def ZBS := kR ZbF
theorem Z01n : execA E C (fg 66) B 8 E0 N ZBS s = some (.ret, s) := Zk (by rfl) s
theorem Z01e : XQ 66 8 ZbF Zoi ZBS := Z0 (by rfl) _
theorem Z08j : XQ 66 8 Zhc Zic ZbF := Z0 (by rfl) _
theorem Z083 : XQ 66 8 Zbt Zyp Zhc := Z0 (by rfl) _
theorem Z08I : fInfo E 66 = some ⟨8, #[.tmp 2], Zbt⟩ := nf
theorem b_66 (args : List AV) : bodyA E C fg N 66 args H B = bodyX E [.tmp 2] (execA E C (fg 66) B 8 H N Zbt (Z5 args 0 [], H)) := Zo Z08I args H
abbrev F_66 := And.intro (And.intro (And.intro (And.intro @Z08z (And.intro @ZX4 @ZXm)) (And.intro @Z08c (And.intro @ZON @ZUE))) (And.intro (And.intro @ZTc (And.intro @Z07E @ZS6)) (And.intro (And.intro @ZXr @Z0ap) (And.intro @Z09p @Z07W)))) (And.intro (And.intro (And.intro @Z07I (And.intro @Z0ab @Z07a)) (And.intro @ZUG (And.intro @ZSA @ZYx))) (And.intro (And.intro @ZYd (And.intro @ZNY @Z01n)) (And.intro (And.intro @Z01e @Z08j) (And.intro @Z083 @b_66))))
def ZbH := kBody Proofs.Try.f73
def Zzx := kL ZbH
def Zie := kO Zzx
def Zts := opN Zie 0
theorem Z0aE : XG 73 9 Zzx Zie [4] := Z1 (by rfl) (by rfl) _
theorem ZZe : Zie.toList = [Zts] := nf
theorem Z004 : stepA E C B 9 Zie Zts (φ, H) = some (fput φ 4 (.bool false), H) := nf
def Zhp := kR ZbH
def ZyW := kL Zhp
def Z1I := kO ZyW
def Zsr := opN Z1I 0
def Zy7 := opN Z1I 1
def ZrL := opN Z1I 2
def ZvN := opN Z1I 3
def Zs2 := opN Z1I 4
theorem Z0b0 : XG 73 9 ZyW Z1I [0, 1, 5, 6, 7, 8] := Z1 (by rfl) (by rfl) _
theorem ZZH : Z1I.toList = [Zsr, Zy7, ZrL, ZvN, Zs2] := nf
theorem ZUy : stepA E C B 9 Z1I Zsr (φ, H) = some (fput φ 5 (fget φ 0), H) := nf
theorem ZPy : stepA E C B 9 Z1I Zy7 (φ, H) = some (fput φ 6 (fget φ 1), H) := nf
theorem ZR6 : stepA E C B 9 Z1I ZrL (φ, H) = stp (some 7) φ H (aCall C (fun j => B + j * 9 + 7) true 64 [(fget φ 5), (fget φ 6)]) := nf
theorem ZXj : stepA E C B 9 Z1I ZvN (φ, H) = stp (some 8) φ H (just (aBin E.T .geq 3 (fget φ 7) (.int .i64 0))) := nf
theorem ZYo : stepA E C B 9 Z1I Zs2 (φ, H) = some (fput φ 4 (fget φ 8), H) := nf
def ZND := kR Zhp
theorem Z0aH : execA E C (fg 73) B 9 E0 N ZND s = some (.ret, s) := Zk (by rfl) s
theorem Z0a2 : XQ 73 9 Zhp ZyW ZND := Z0 (by rfl) _
theorem Z080 : XQ 73 9 ZbH Zzx Zhp := Z0 (by rfl) _
theorem Z07n : fInfo E 73 = some ⟨9, #[.tmp 4], ZbH⟩ := nf
theorem b_73 (args : List AV) : bodyA E C fg N 73 args H B = bodyX E [.tmp 4] (execA E C (fg 73) B 9 H N ZbH (Z5 args 0 [], H)) := Zo Z07n args H
abbrev F_73 := And.intro (And.intro (And.intro @Z0aE (And.intro @ZZe @Z004)) (And.intro (And.intro @Z0b0 @ZZH) (And.intro @ZUy @ZPy))) (And.intro (And.intro @ZR6 (And.intro @ZXj @ZYo)) (And.intro (And.intro @Z0aH @Z0a2) (And.intro @Z080 @b_73)))
def Zb1 := kBody Proofs.Try.f64
def ZzO := kL Zb1
def Ziu := kO ZzO
def ZrD := opN Ziu 0
theorem Z09D : XG 64 19 ZzO Ziu [4] := Z1 (by rfl) (by rfl) _
theorem ZVN : Ziu.toList = [ZrD] := nf
theorem ZWQ : stepA E C B 19 Ziu ZrD (φ, H) = some (fput φ 4 (.int .i64 0), H) := nf
def ZhD := kR Zb1
def Zi5 := kL ZhD
def ZyR := kL Zi5
def Z3V := kO ZyR
def ZsU := opN Z3V 0
def Zt3 := opN Z3V 1
def Zwt := opN Z3V 2
theorem Z09c : XG 64 19 ZyR Z3V [6] := Z1 (by rfl) (by rfl) _
theorem ZQ7 : Z3V.toList = [ZsU, Zt3, Zwt] := nf
theorem ZQ8 : stepA E C B 19 Z3V ZsU (φ, H) = some (fput φ 6 (fget φ 0), H) := nf
theorem ZOa : stepA E C B 19 Z3V Zt3 (φ, H) = stp (some 7) φ H (Z3 E.T (B + 7) .len #[39] [(fget φ 6)]) := nf
theorem ZT7 : stepA E C B 19 Z3V Zwt (φ, H) = some (fput φ 8 (.int .i64 0), H) := nf
def ZzM := kR Zi5
def ZyU := kB ZzM
def Z3M := kB ZyU
def Zzj := kL Z3M
def ZhK := kO Zzj
def Ztn := opN ZhK 0
theorem Z09F : XG 64 19 Zzj ZhK [] := Z1 (by rfl) (by rfl) _
theorem ZOW : ZhK.toList = [Ztn] := nf
theorem ZO2 : stepA E C B 19 ZhK Ztn (φ, H) = stp (some 9) φ H (just (aBin E.T .lss 3 (fget φ 8) (fget φ 7))) := nf
def Zi6 := kR Z3M
def ZbL := kL Zi6
def ZFv := kT ZbL
theorem Z00R : execA E C (fg 64) B 19 E0 N ZFv s = some (.normal, s) := Zb (by rfl) s
def ZDR := kE ZbL
theorem Z00q : execA E C (fg 64) B 19 E0 N ZDR s = some (.exit 0, s) := ZP (by rfl) s
theorem Z00A : XC 64 19 ZbL 9 ZFv ZDR := Z8 (by rfl) _
def Z8o := kR Zi6
def Zlj := kL Z8o
def ZbU := kB Zlj
def Zoz := kL ZbU
def Z7o := kO Zoz
def Zt0 := opN Z7o 0
def Zvg := opN Z7o 1
theorem Z01y : XG 64 19 Zoz Z7o [9, 10] := Z1 (by rfl) (by rfl) _
theorem ZR4 : Z7o.toList = [Zt0, Zvg] := nf
theorem ZYC : stepA E C B 19 Z7o Zt0 (φ, H) = some (fput φ 10 (fget φ 8), H) := nf
theorem ZYN : stepA E C B 19 Z7o Zvg (φ, H) = some (fput φ 5 (fget φ 10), H) := nf
def Zc4 := kR ZbU
def Zmi := kL Zc4
def Z18 := kO Zmi
def Zrs := opN Z18 0
def Zti := opN Z18 1
def ZrP := opN Z18 2
def Zxj := opN Z18 3
def ZvU := opN Z18 4
def Zxp := opN Z18 5
theorem Z04r : XG 64 19 Zmi Z18 [11, 12, 13, 14, 15] := Z1 (by rfl) (by rfl) _
theorem ZSh : Z18.toList = [Zrs, Zti, ZrP, Zxj, ZvU, Zxp] := nf
theorem ZX9 : stepA E C B 19 Z18 Zrs (φ, H) = some (fput φ 11 (fget φ 1), H) := nf
theorem ZXw : stepA E C B 19 Z18 Zti (φ, H) = some (fput φ 12 (fget φ 0), H) := nf
theorem ZVm : stepA E C B 19 Z18 ZrP (φ, H) = some (fput φ 13 (fget φ 5), H) := nf
theorem ZXp : stepA E C B 19 Z18 Zxj (φ, H) = stp (some 14) φ H (just (Z2 E.T 39 (fget φ 12) (fget φ 13))) := nf
theorem ZNP : stepA E C B 19 Z18 ZvU (φ, H) = stp (some 15) φ H (just (aLoad E.T 22 (fget φ 14))) := nf
theorem ZVi : stepA E C B 19 Z18 Zxp (φ, H) = callV E C (B + 19 * 8) (some 16) (fun j => B + j * 19 + 16) φ H (fget φ 11) [(fget φ 15)] true := nf
def Zbc := kR Zc4
def Zag := kT Zbc
def ZkD := kL Zag
def Z7A := kO ZkD
def ZwK := opN Z7A 0
def Zy5 := opN Z7A 1
theorem Z00Z : XG 64 19 ZkD Z7A [0, 1, 5, 7, 8, 16, 17] := Z1 (by rfl) (by rfl) _
theorem ZOX : Z7A.toList = [ZwK, Zy5] := nf
theorem ZXC : stepA E C B 19 Z7A ZwK (φ, H) = some (fput φ 17 (fget φ 5), H) := nf
theorem ZVF : stepA E C B 19 Z7A Zy5 (φ, H) = some (fput φ 4 (fget φ 17), H) := nf
def ZFf := kR Zag
theorem Z06L : execA E C (fg 64) B 19 E0 N ZFf s = some (.ret, s) := Zk (by rfl) s
theorem Z065 : XQ 64 19 Zag ZkD ZFf := Z0 (by rfl) _
def ZEO := kE Zbc
theorem Z03N : execA E C (fg 64) B 19 E0 N ZEO s = some (.normal, s) := Zb (by rfl) s
theorem Z07h : XC 64 19 Zbc 16 Zag ZEO := Z8 (by rfl) _
theorem Z05i : XQ 64 19 Zc4 Zmi Zbc := Z0 (by rfl) _
theorem Z06M : XQ 64 19 ZbU Zoz Zc4 := Z0 (by rfl) _
theorem Z06Z : execA E C (fg 64) B 19 E0 N Zlj s = blockX 1 (fun s => (forget s.1 [5, 16], s.2)) (execA E C (fg 64) B 19 E0 N ZbU s) := Za (by rfl) (by rfl) s
def Zpw := kR Z8o
def Z60 := kO Zpw
def ZuR := opN Z60 0
def Ztx := opN Z60 1
theorem Z06C : XG 64 19 Zpw Z60 [18] := Z1 (by rfl) (by rfl) _
theorem ZS3 : Z60.toList = [ZuR, Ztx] := nf
theorem Z009 : stepA E C B 19 Z60 ZuR (φ, H) = stp (some 18) φ H (just (aBin E.T .add 3 (fget φ 8) (.int .i64 1))) := nf
theorem ZX8 : stepA E C B 19 Z60 Ztx (φ, H) = some (fput φ 8 (fget φ 18), H) := nf
theorem Z020 : XQ 64 19 Z8o Zlj Zpw := Z0 (by rfl) _
theorem Z07s : XQ 64 19 Zi6 ZbL Z8o := Z0 (by rfl) _
theorem Z0a9 : XQ 64 19 Z3M Zzj Zi6 := Z0 (by rfl) _
theorem Z09l : execA E C (fg 64) B 19 E0 N ZyU s = iterA (execA E C (fg 64) B 19 E0 N Z3M) (headA E0) N s := ZY (by rfl) s
theorem Z0aL : execA E C (fg 64) B 19 E0 N ZzM s = blockX 0 (fun s => (forget s.1 [0, 1, 7, 8, 9], s.2)) (execA E C (fg 64) B 19 E0 N ZyU s) := Za (by rfl) (by rfl) s
theorem Z07t : XQ 64 19 Zi5 ZyR ZzM := Z0 (by rfl) _
def Za3 := kR ZhD
def Zps := kL Za3
def ZhT := kO Zps
def ZtC := opN ZhT 0
theorem Z04I : XG 64 19 Zps ZhT [] := Z1 (by rfl) (by rfl) _
theorem ZQN : ZhT.toList = [ZtC] := nf
theorem ZYr : stepA E C B 19 ZhT ZtC (φ, H) = some (fput φ 4 (.int .i64 (-1)), H) := nf
def ZC3 := kR Za3
theorem Z00T : execA E C (fg 64) B 19 E0 N ZC3 s = some (.ret, s) := Zk (by rfl) s
theorem Z00Q : XQ 64 19 Za3 Zps ZC3 := Z0 (by rfl) _
theorem Z0b8 : XQ 64 19 ZhD Zi5 Za3 := Z0 (by rfl) _
theorem Z091 : XQ 64 19 Zb1 ZzO ZhD := Z0 (by rfl) _
theorem Z0a6 : fInfo E 64 = some ⟨19, #[.tmp 4], Zb1⟩ := nf
theorem b_64 (args : List AV) : bodyA E C fg N 64 args H B = bodyX E [.tmp 4] (execA E C (fg 64) B 19 H N Zb1 (Z5 args 0 [], H)) := Zo Z0a6 args H
abbrev F_64 := And.intro (And.intro (And.intro (And.intro (And.intro @Z09D (And.intro @ZVN @ZWQ)) (And.intro @Z09c (And.intro @ZQ7 @ZQ8))) (And.intro (And.intro @ZOa (And.intro @ZT7 @Z09F)) (And.intro (And.intro @ZOW @ZO2) (And.intro @Z00R @Z00q)))) (And.intro (And.intro (And.intro @Z00A (And.intro @Z01y @ZR4)) (And.intro (And.intro @ZYC @ZYN) (And.intro @Z04r @ZSh))) (And.intro (And.intro @ZX9 (And.intro @ZXw @ZVm)) (And.intro (And.intro @ZXp @ZNP) (And.intro @ZVi @Z00Z))))) (And.intro (And.intro (And.intro (And.intro @ZOX (And.intro @ZXC @ZVF)) (And.intro (And.intro @Z06L @Z065) (And.intro @Z03N @Z07h))) (And.intro (And.intro @Z05i (And.intro @Z06M @Z06Z)) (And.intro (And.intro @Z06C @ZS3) (And.intro @Z009 @ZX8)))) (And.intro (And.intro (And.intro @Z020 (And.intro @Z07s @Z0a9)) (And.intro (And.intro @Z09l @Z0aL) (And.intro @Z07t @Z04I))) (And.intro (And.intro @ZQN (And.intro @ZYr @Z00T)) (And.intro (And.intro @Z00Q @Z0b8) (And.intro @Z091 @b_64)))))
def ZaA := kBody Proofs.Try.f76
def Zyv := kL ZaA
def ZhM := kO Zyv
def ZvL := opN ZhM 0
theorem Z08h : XG 76 42 Zyv ZhM [4] := Z1 (by rfl) (by rfl) _
theorem ZWC : ZhM.toList = [ZvL] := nf
theorem ZSd : stepA E C B 42 ZhM ZvL (φ, H) = some (fput φ 4 (.nilsl), H) := nf
def Zhb := kR ZaA
def ZzT := kL Zhb
def Z2g := kO ZzT
def Zyf := opN Z2g 0
def ZqX := opN Z2g 1
def Zvf := opN Z2g 2
def ZxF := opN Z2g 3
theorem Z0aS : XG 76 42 ZzT Z2g [8, 9, 10] := Z1 (by rfl) (by rfl) _
theorem ZSL : Z2g.toList = [Zyf, ZqX, Zvf, ZxF] := nf
theorem ZSG : stepA E C B 42 Z2g Zyf (φ, H) = some (fput φ 8 (fget φ 0), H) := nf
theorem ZRA : stepA E C B 42 Z2g ZqX (φ, H) = some (fput φ 9 (fget φ 1), H) := nf
theorem ZRv : stepA E C B 42 Z2g Zvf (φ, H) = stp (some 10) φ H (aCall C (fun j => B + j * 42 + 10) true 113 [(fget φ 8), (fget φ 9)]) := nf
theorem ZUn : stepA E C B 42 Z2g ZxF (φ, H) = some (fput φ 5 (fget φ 10), H) := nf
def Zik := kR Zhb
def Zi8 := kL Zik
def ZyC := kL Zi8
def Z5V := kO ZyC
def ZtW := opN Z5V 0
def ZtH := opN Z5V 1
theorem Z081 : XG 76 42 ZyC Z5V [11] := Z1 (by rfl) (by rfl) _
theorem ZZ2 : Z5V.toList = [ZtW, ZtH] := nf
theorem ZTt : stepA E C B 42 Z5V ZtW (φ, H) = some (fput φ 11 (fget φ 5), H) := nf
theorem ZTK : stepA E C B 42 Z5V ZtH (φ, H) = stp (some 12) φ H (just (aBin E.T .eql 3 (fget φ 11) (.int .i64 (-1)))) := nf
def ZhB := kR Zi8
def Zhu := kT ZhB
def Zzk := kL Zhu
def Z6R := kO Zzk
def Zre := opN Z6R 0
def Ztq := opN Z6R 1
theorem Z09N : XG 76 42 Zzk Z6R [0, 1, 5, 12, 13] := Z1 (by rfl) (by rfl) _
theorem ZTh : Z6R.toList = [Zre, Ztq] := nf
theorem ZTU : stepA E C B 42 Z6R Zre (φ, H) = some (fput φ 13 (fget φ 0), H) := nf
theorem ZP6 : stepA E C B 42 Z6R Ztq (φ, H) = some (fput φ 4 (fget φ 13), H) := nf
def ZDE := kR Zhu
theorem Z06X : execA E C (fg 76) B 42 E0 N ZDE s = some (.ret, s) := Zk (by rfl) s
theorem Z0b7 : XQ 76 42 Zhu Zzk ZDE := Z0 (by rfl) _
def ZCZ := kE ZhB
theorem Z02l : execA E C (fg 76) B 42 E0 N ZCZ s = some (.normal, s) := Zb (by rfl) s
theorem Z07P : XC 76 42 ZhB 12 Zhu ZCZ := Z8 (by rfl) _
theorem Z09v : XQ 76 42 Zi8 ZyC ZhB := Z0 (by rfl) _
def Z8J := kR Zik
def Zbg := kL Z8J
def ZjZ := kL Zbg
def Z3P := kO ZjZ
def ZuX := opN Z3P 0
def ZwQ := opN Z3P 1
def Zyb := opN Z3P 2
theorem Z01S : XG 76 42 ZjZ Z3P [12, 14, 15] := Z1 (by rfl) (by rfl) _
theorem ZUh : Z3P.toList = [ZuX, ZwQ, Zyb] := nf
theorem ZVI : stepA E C B 42 Z3P ZuX (φ, H) = some (fput φ 14 (fget φ 5), H) := nf
theorem ZZP : stepA E C B 42 Z3P ZwQ (φ, H) = stp (some 15) φ H (just (aBin E.T .add 3 (fget φ 14) (.int .i64 1))) := nf
theorem ZXU : stepA E C B 42 Z3P Zyb (φ, H) = some (fput φ 6 (fget φ 15), H) := nf
def Zlu := kR Zbg
def Zji := kB Zlu
def Z4b := kB Zji
def Zaf := kL Z4b
def Zp8 := kL Zaf
def Z2k := kO Zp8
def ZxH := opN Z2k 0
def ZsL := opN Z2k 1
def ZtS := opN Z2k 2
def Zrq := opN Z2k 3
theorem Z01U : XG 76 42 Zp8 Z2k [16, 17, 18] := Z1 (by rfl) (by rfl) _
theorem ZNR : Z2k.toList = [ZxH, ZsL, ZtS, Zrq] := nf
theorem ZSD : stepA E C B 42 Z2k ZxH (φ, H) = some (fput φ 16 (fget φ 6), H) := nf
theorem ZUx : stepA E C B 42 Z2k ZsL (φ, H) = some (fput φ 17 (fget φ 0), H) := nf
theorem ZPq : stepA E C B 42 Z2k ZtS (φ, H) = stp (some 18) φ H (Z3 E.T (B + 18) .len #[22] [(fget φ 17)]) := nf
theorem ZNV : stepA E C B 42 Z2k Zrq (φ, H) = stp (some 19) φ H (just (aBin E.T .lss 3 (fget φ 16) (fget φ 18))) := nf
def Zbz := kR Zaf
def ZC4 := kT Zbz
theorem Z03C : execA E C (fg 76) B 42 E0 N ZC4 s = some (.normal, s) := Zb (by rfl) s
def ZAH := kE Zbz
theorem Z07i : execA E C (fg 76) B 42 E0 N ZAH s = some (.exit 0, s) := ZP (by rfl) s
theorem Z066 : XC 76 42 Zbz 19 ZC4 ZAH := Z8 (by rfl) _
theorem Z04K : XQ 76 42 Zaf Zp8 Zbz := Z0 (by rfl) _
def ZbD := kR Z4b
def ZlY := kL ZbD
def Zaz := kB ZlY
def Zq9 := kL Zaz
def Z1G := kO Zq9
def Zuz := opN Z1G 0
def ZvG := opN Z1G 1
def ZuH := opN Z1G 2
def ZqY := opN Z1G 3
def Zxm := opN Z1G 4
theorem Z06d : XG 76 42 Zq9 Z1G [19, 22, 23, 24, 25] := Z1 (by rfl) (by rfl) _
theorem ZUr : Z1G.toList = [Zuz, ZvG, ZuH, ZqY, Zxm] := nf
theorem ZSx : stepA E C B 42 Z1G Zuz (φ, H) = some (fput φ 22 (fget φ 0), H) := nf
theorem ZY2 : stepA E C B 42 Z1G ZvG (φ, H) = some (fput φ 23 (fget φ 6), H) := nf
theorem ZVg : stepA E C B 42 Z1G ZuH (φ, H) = stp (some 24) φ H (just (Z2 E.T 22 (fget φ 22) (fget φ 23))) := nf
theorem ZRS : stepA E C B 42 Z1G ZqY (φ, H) = stp (some 25) φ H (just (aLoad E.T 3 (fget φ 24))) := nf
theorem ZTz : stepA E C B 42 Z1G Zxm (φ, H) = some (fput φ 7 (fget φ 25), H) := nf
def Zae := kR Zaz
def Zqo := kL Zae
def Z2d := kO Zqo
def ZvF := opN Z2d 0
def ZtY := opN Z2d 1
def ZuP := opN Z2d 2
def ZvY := opN Z2d 3
theorem Z033 : XG 76 42 Zqo Z2d [26, 27, 28] := Z1 (by rfl) (by rfl) _
theorem ZSu : Z2d.toList = [ZvF, ZtY, ZuP, ZvY] := nf
theorem ZTO : stepA E C B 42 Z2d ZvF (φ, H) = some (fput φ 26 (fget φ 1), H) := nf
theorem ZZL : stepA E C B 42 Z2d ZtY (φ, H) = some (fput φ 27 (fget φ 7), H) := nf
theorem ZPj : stepA E C B 42 Z2d ZuP (φ, H) = callV E C (B + 42 * 8) (some 28) (fun j => B + j * 42 + 28) φ H (fget φ 26) [(fget φ 27)] true := nf
theorem ZXO : stepA E C B 42 Z2d ZvY (φ, H) = stp (some 29) φ H (justO (aUn .not (fget φ 28))) := nf
def Zav := kR Zae
def Zaw := kT Zav
def Zqz := kL Zaw
def Z1F := kO Zqz
def ZuF := opN Z1F 0
def Zxq := opN Z1F 1
def Zy1 := opN Z1F 2
def ZwJ := opN Z1F 3
def Zrx := opN Z1F 4
theorem Z04k : XG 76 42 Zqz Z1F [7, 29, 30, 31, 32, 33] := Z1 (by rfl) (by rfl) _
theorem ZWk : Z1F.toList = [ZuF, Zxq, Zy1, ZwJ, Zrx] := nf
theorem ZPI : stepA E C B 42 Z1F ZuF (φ, H) = some (fput φ 30 (fget φ 0), H) := nf
theorem ZQ2 : stepA E C B 42 Z1F Zxq (φ, H) = some (fput φ 31 (fget φ 5), H) := nf
theorem ZQc : stepA E C B 42 Z1F Zy1 (φ, H) = some (fput φ 32 (fget φ 7), H) := nf
theorem ZSK : stepA E C B 42 Z1F ZwJ (φ, H) = stp (some 33) φ H (just (Z2 E.T 22 (fget φ 30) (fget φ 31))) := nf
theorem ZRp : stepA E C B 42 Z1F Zrx (φ, H) = stp none φ H (opStore E.T 3 (fget φ 33) (fget φ 32)) := nf
def Zm9 := kR Zaw
def Z2R := kO Zm9
def Zop := opN Z2R 0
def Zqp := opN Z2R 1
def ZoU := opN Z2R 2
theorem Z01p : XG 76 42 Zm9 Z2R [34, 35] := Z1 (by rfl) (by rfl) _
theorem ZHh : Z2R.toList = [Zop, Zqp, ZoU] := nf
theorem ZMA : stepA E C B 42 Z2R Zop (φ, H) = some (fput φ 34 (fget φ 5), H) := nf
theorem ZNo : stepA E C B 42 Z2R Zqp (φ, H) = stp (some 35) φ H (just (aBin E.T .add 3 (fget φ 34) (.int .i64 1))) := nf
theorem ZIk : stepA E C B 42 Z2R ZoU (φ, H) = some (fput φ 5 (fget φ 35), H) := nf
theorem Z02F : XQ 76 42 Zaw Zqz Zm9 := Z0 (by rfl) _
def ZFF := kE Zav
theorem Z03X : execA E C (fg 76) B 42 E0 N ZFF s = some (.normal, s) := Zb (by rfl) s
theorem Z05R : XC 76 42 Zav 29 Zaw ZFF := Z8 (by rfl) _
theorem Z04X : XQ 76 42 Zae Zqo Zav := Z0 (by rfl) _
theorem Z02V : XQ 76 42 Zaz Zq9 Zae := Z0 (by rfl) _
theorem Z05t : execA E C (fg 76) B 42 E0 N ZlY s = blockX 1 (fun s => (forget s.1 [7, 29], s.2)) (execA E C (fg 76) B 42 E0 N Zaz s) := Za (by rfl) (by rfl) s
def ZqE := kR ZbD
def Z44 := kO ZqE
def Zxh := opN Z44 0
def ZsK := opN Z44 1
def Zyl := opN Z44 2
theorem Z071 : XG 76 42 ZqE Z44 [20, 21] := Z1 (by rfl) (by rfl) _
theorem ZZT : Z44.toList = [Zxh, ZsK, Zyl] := nf
theorem ZUf : stepA E C B 42 Z44 Zxh (φ, H) = some (fput φ 20 (fget φ 6), H) := nf
theorem ZUZ : stepA E C B 42 Z44 ZsK (φ, H) = stp (some 21) φ H (just (aBin E.T .add 3 (fget φ 20) (.int .i64 1))) := nf
theorem ZTL : stepA E C B 42 Z44 Zyl (φ, H) = some (fput φ 6 (fget φ 21), H) := nf
theorem Z01Z : XQ 76 42 ZbD ZlY ZqE := Z0 (by rfl) _
theorem Z00P : XQ 76 42 Z4b Zaf ZbD := Z0 (by rfl) _
theorem Z022 : execA E C (fg 76) B 42 E0 N Zji s = iterA (execA E C (fg 76) B 42 E0 N Z4b) (headA E0) N s := ZY (by rfl) s
theorem Z05u : execA E C (fg 76) B 42 E0 N Zlu s = blockX 0 (fun s => (forget s.1 [1, 6, 19], s.2)) (execA E C (fg 76) B 42 E0 N Zji s) := Za (by rfl) (by rfl) s
theorem Z04h : XQ 76 42 Zbg ZjZ Zlu := Z0 (by rfl) _
def Zbi := kR Z8J
def Zjb := kL Zbi
def Z1u := kO Zjb
def ZmV := opN Z1u 0
def ZkS := opN Z1u 1
def Znx := opN Z1u 2
def Zj0 := opN Z1u 3
theorem Z01s : XG 76 42 Zjb Z1u [36, 37, 38] := Z1 (by rfl) (by rfl) _
theorem ZGT : Z1u.toList = [ZmV, ZkS, Znx, Zj0] := nf
theorem ZIM : stepA E C B 42 Z1u ZmV (φ, H) = some (fput φ 36 (fget φ 0), H) := nf
theorem ZHI : stepA E C B 42 Z1u ZkS (φ, H) = some (fput φ 37 (fget φ 5), H) := nf
theorem ZJX : stepA E C B 42 Z1u Znx (φ, H) = stp (some 38) φ H (just (aSlice E.T 22 (fget φ 36) (some (fget φ 37)) none none)) := nf
theorem ZIL : stepA E C B 42 Z1u Zj0 (φ, H) = stp none φ H (Z3 E.T (B + 0) .clear #[22] [(fget φ 38)]) := nf
def ZaM := kR Zbi
def ZoM := kL ZaM
def Z1s := kO ZoM
def Zm1 := opN Z1s 0
def ZmQ := opN Z1s 1
def ZmY := opN Z1s 2
def Zl9 := opN Z1s 3
theorem Z02X : XG 76 42 ZoM Z1s [0, 5, 39, 40, 41] := Z1 (by rfl) (by rfl) _
theorem ZKa : Z1s.toList = [Zm1, ZmQ, ZmY, Zl9] := nf
theorem ZIB : stepA E C B 42 Z1s Zm1 (φ, H) = some (fput φ 39 (fget φ 0), H) := nf
theorem ZGn : stepA E C B 42 Z1s ZmQ (φ, H) = some (fput φ 40 (fget φ 5), H) := nf
theorem ZI8 : stepA E C B 42 Z1s ZmY (φ, H) = stp (some 41) φ H (just (aSlice E.T 22 (fget φ 39) none (some (fget φ 40)) none)) := nf
theorem ZHD : stepA E C B 42 Z1s Zl9 (φ, H) = some (fput φ 4 (fget φ 41), H) := nf
def ZG9 := kR ZaM
theorem Z04a : execA E C (fg 76) B 42 E0 N ZG9 s = some (.ret, s) := Zk (by rfl) s
theorem Z04u : XQ 76 42 ZaM ZoM ZG9 := Z0 (by rfl) _
theorem Z04q : XQ 76 42 Zbi Zjb ZaM := Z0 (by rfl) _
theorem Z03d : XQ 76 42 Z8J Zbg Zbi := Z0 (by rfl) _
theorem Z0am : XQ 76 42 Zik Zi8 Z8J := Z0 (by rfl) _
theorem Z082 : XQ 76 42 Zhb ZzT Zik := Z0 (by rfl) _
theorem Z0aF : XQ 76 42 ZaA Zyv Zhb := Z0 (by rfl) _
theorem Z0aG : fInfo E 76 = some ⟨42, #[.tmp 4], ZaA⟩ := nf
theorem b_76 (args : List AV) : bodyA E C fg N 76 args H B = bodyX E [.tmp 4] (execA E C (fg 76) B 42 H N ZaA (Z5 args 0 [], H)) := Zo Z0aG args H
abbrev F_76 := And.intro (And.intro (And.intro (And.intro (And.intro (And.intro @Z08h (And.intro @ZWC @ZSd)) (And.intro @Z0aS (And.intro @ZSL @ZSG))) (And.intro (And.intro @ZRA (And.intro @ZRv @ZUn)) (And.intro @Z081 (And.intro @ZZ2 @ZTt)))) (And.intro (And.intro (And.intro @ZTK (And.intro @Z09N @ZTh)) (And.intro @ZTU (And.intro @ZP6 @Z06X))) (And.intro (And.intro @Z0b7 (And.intro @Z02l @Z07P)) (And.intro @Z09v (And.intro @Z01S @ZUh))))) (And.intro (And.intro (And.intro (And.intro @ZVI (And.intro @ZZP @ZXU)) (And.intro @Z01U (And.intro @ZNR @ZSD))) (And.intro (And.intro @ZUx (And.intro @ZPq @ZNV)) (And.intro @Z03C (And.intro @Z07i @Z066)))) (And.intro (And.intro (And.intro @Z04K (And.intro @Z06d @ZUr)) (And.intro @ZSx (And.intro @ZY2 @ZVg))) (And.intro (And.intro @ZRS (And.intro @ZTz @Z033)) (And.intro (And.intro @ZSu @ZTO) (And.intro @ZZL @ZPj)))))) (And.intro (And.intro (And.intro (And.intro (And.intro @ZXO (And.intro @Z04k @ZWk)) (And.intro @ZPI (And.intro @ZQ2 @ZQc))) (And.intro (And.intro @ZSK (And.intro @ZRp @Z01p)) (And.intro @ZHh (And.intro @ZMA @ZNo)))) (And.intro (And.intro (And.intro @ZIk (And.intro @Z02F @Z03X)) (And.intro @Z05R (And.intro @Z04X @Z02V))) (And.intro (And.intro @Z05t (And.intro @Z071 @ZZT)) (And.intro @ZUf (And.intro @ZUZ @ZTL))))) (And.intro (And.intro (And.intro (And.intro @Z01Z (And.intro @Z00P @Z022)) (And.intro @Z05u (And.intro @Z04h @Z01s))) (And.intro (And.intro @ZGT (And.intro @ZIM @ZHI)) (And.intro @ZJX (And.intro @ZIL @Z02X)))) (And.intro (And.intro (And.intro @ZKa (And.intro @ZIB @ZGn)) (And.intro @ZI8 (And.intro @ZHD @Z04a))) (And.intro (And.intro @Z04u (And.intro @Z04q @Z03d)) (And.intro (And.intro @Z0am @Z082) (And.intro @Z0aF @b_76))))))
def Z57 := kBody Proofs.Try.f113
def ZpF := kL Z57
def Zbu := kO ZpF
def Zoj := opN Zbu 0
theorem Z01L : XG 113 19 ZpF Zbu [4] := Z1 (by rfl) (by rfl) _
theorem ZGx : Zbu.toList = [Zoj] := nf
theorem ZGt : stepA E C B 19 Zbu Zoj (φ, H) = some (fput φ 4 (.int .i64 0), H) := nf
def Z8R := kR Z57
def ZaE := kL Z8R
def Zqm := kL ZaE
def Z2G := kO Zqm
def Ziv := opN Z2G 0
def ZiX := opN Z2G 1
def ZmT := opN Z2G 2
theorem Z00O : XG 113 19 Zqm Z2G [6] := Z1 (by rfl) (by rfl) _
theorem ZJn : Z2G.toList = [Ziv, ZiX, ZmT] := nf
theorem ZNi : stepA E C B 19 Z2G Ziv (φ, H) = some (fput φ 6 (fget φ 0), H) := nf
theorem ZJ6 : stepA E C B 19 Z2G ZiX (φ, H) = stp (some 7) φ H (Z3 E.T (B + 7) .len #[22] [(fget φ 6)]) := nf
theorem ZHu : stepA E C B 19 Z2G ZmT (φ, H) = some (fput φ 8 (.int .i64 0), H) := nf
def ZmM := kR ZaE
def Zmq := kB ZmM
def Z3z := kB Zmq
def ZjO := kL Z3z
def Zc5 := kO ZjO
def Zjp := opN Zc5 0
theorem Z04m : XG 113 19 ZjO Zc5 [] := Z1 (by rfl) (by rfl) _
theorem ZLC : Zc5.toList = [Zjp] := nf
theorem ZLs : stepA E C B 19 Zc5 Zjp (φ, H) = stp (some 9) φ H (just (aBin E.T .lss 3 (fget φ 8) (fget φ 7))) := nf
def ZbI := kR Z3z
def Z6s := kL ZbI
def ZrZ := kT Z6s
theorem ZYn : execA E C (fg 113) B 19 E0 N ZrZ s = some (.normal, s) := Zb (by rfl) s
def Zs0 := kE Z6s
theorem ZYV : execA E C (fg 113) B 19 E0 N Zs0 s = some (.exit 0, s) := ZP (by rfl) s
theorem ZSp : XC 113 19 Z6s 9 ZrZ Zs0 := Z8 (by rfl) _
def Z6B := kR ZbI
def Zcg := kL Z6B
def Z6x := kB Zcg
def ZcC := kL Z6x
def Z4s := kO ZcC
def Zky := opN Z4s 0
def ZpU := opN Z4s 1
theorem Z007 : XG 113 19 ZcC Z4s [9, 10] := Z1 (by rfl) (by rfl) _
theorem ZJS : Z4s.toList = [Zky, ZpU] := nf
theorem ZLT : stepA E C B 19 Z4s Zky (φ, H) = some (fput φ 10 (fget φ 8), H) := nf
theorem ZGu : stepA E C B 19 Z4s ZpU (φ, H) = some (fput φ 5 (fget φ 10), H) := nf
def Z7x := kR Z6x
def ZcW := kL Z7x
def Z0A := kO ZcW
def Zph := opN Z0A 0
def ZmK := opN Z0A 1
def ZlR := opN Z0A 2
def Zjr := opN Z0A 3
def Zjw := opN Z0A 4
def Zng := opN Z0A 5
theorem ZVz : XG 113 19 ZcW Z0A [11, 12, 13, 14, 15] := Z1 (by rfl) (by rfl) _
theorem ZLQ : Z0A.toList = [Zph, ZmK, ZlR, Zjr, Zjw, Zng] := nf
theorem ZKn : stepA E C B 19 Z0A Zph (φ, H) = some (fput φ 11 (fget φ 1), H) := nf
theorem ZKf : stepA E C B 19 Z0A ZmK (φ, H) = some (fput φ 12 (fget φ 0), H) := nf
theorem ZM4 : stepA E C B 19 Z0A ZlR (φ, H) = some (fput φ 13 (fget φ 5), H) := nf
theorem ZIW : stepA E C B 19 Z0A Zjr (φ, H) = stp (some 14) φ H (just (Z2 E.T 22 (fget φ 12) (fget φ 13))) := nf
theorem ZGs : stepA E C B 19 Z0A Zjw (φ, H) = stp (some 15) φ H (just (aLoad E.T 3 (fget φ 14))) := nf
theorem ZLn : stepA E C B 19 Z0A Zng (φ, H) = callV E C (B + 19 * 8) (some 16) (fun j => B + j * 19 + 16) φ H (fget φ 11) [(fget φ 15)] true := nf
def Z5U := kR Z7x
def Z6L := kT Z5U
def ZcA := kL Z6L
def Z4K := kO ZcA
def Zl0 := opN Z4K 0
def Zqj := opN Z4K 1
theorem ZYb : XG 113 19 ZcA Z4K [0, 1, 5, 7, 8, 16, 17] := Z1 (by rfl) (by rfl) _
theorem ZJm : Z4K.toList = [Zl0, Zqj] := nf
theorem ZKo : stepA E C B 19 Z4K Zl0 (φ, H) = some (fput φ 17 (fget φ 5), H) := nf
theorem ZNb : stepA E C B 19 Z4K Zqj (φ, H) = some (fput φ 4 (fget φ 17), H) := nf
def Zr4 := kR Z6L
theorem ZVh : execA E C (fg 113) B 19 E0 N Zr4 s = some (.ret, s) := Zk (by rfl) s
theorem ZVp : XQ 113 19 Z6L ZcA Zr4 := Z0 (by rfl) _
def ZsN := kE Z5U
theorem ZVx : execA E C (fg 113) B 19 E0 N ZsN s = some (.normal, s) := Zb (by rfl) s
theorem ZOY : XC 113 19 Z5U 16 Z6L ZsN := Z8 (by rfl) _
theorem ZXn : XQ 113 19 Z7x ZcW Z5U := Z0 (by rfl) _
theorem ZV2 : XQ 113 19 Z6x ZcC Z7x := Z0 (by rfl) _
theorem ZSS : execA E C (fg 113) B 19 E0 N Zcg s = blockX 1 (fun s => (forget s.1 [5, 16], s.2)) (execA E C (fg 113) B 19 E0 N Z6x s) := Za (by rfl) (by rfl) s
def Zco := kR Z6B
def Z4u := kO Zco
def Zjt := opN Z4u 0
def Znq := opN Z4u 1
theorem ZS8 : XG 113 19 Zco Z4u [18] := Z1 (by rfl) (by rfl) _
theorem ZKy : Z4u.toList = [Zjt, Znq] := nf
theorem ZJe : stepA E C B 19 Z4u Zjt (φ, H) = stp (some 18) φ H (just (aBin E.T .add 3 (fget φ 8) (.int .i64 1))) := nf
theorem ZK5 : stepA E C B 19 Z4u Znq (φ, H) = some (fput φ 8 (fget φ 18), H) := nf
theorem ZT8 : XQ 113 19 Z6B Zcg Zco := Z0 (by rfl) _
theorem Z06a : XQ 113 19 ZbI Z6s Z6B := Z0 (by rfl) _
theorem Z05v : XQ 113 19 Z3z ZjO ZbI := Z0 (by rfl) _
theorem Z01W : execA E C (fg 113) B 19 E0 N Zmq s = iterA (execA E C (fg 113) B 19 E0 N Z3z) (headA E0) N s := ZY (by rfl) s
theorem Z04M : execA E C (fg 113) B 19 E0 N ZmM s = blockX 0 (fun s => (forget s.1 [0, 1, 7, 8, 9], s.2)) (execA E C (fg 113) B 19 E0 N Zmq s) := Za (by rfl) (by rfl) s
theorem Z045 : XQ 113 19 ZaE Zqm ZmM := Z0 (by rfl) _
def Z5N := kR Z8R
def ZcZ := kL Z5N
def Z9p := kO ZcZ
def Zq6 := opN Z9p 0
theorem ZZo : XG 113 19 ZcZ Z9p [] := Z1 (by rfl) (by rfl) _
theorem ZLg : Z9p.toList = [Zq6] := nf
theorem ZKY : stepA E C B 19 Z9p Zq6 (φ, H) = some (fput φ 4 (.int .i64 (-1)), H) := nf
def ZuV := kR Z5N
theorem ZNO : execA E C (fg 113) B 19 E0 N ZuV s = some (.ret, s) := Zk (by rfl) s
theorem ZUA : XQ 113 19 Z5N ZcZ ZuV := Z0 (by rfl) _
theorem Z05m : XQ 113 19 Z8R ZaE Z5N := Z0 (by rfl) _
theorem Z05K : XQ 113 19 Z57 ZpF Z8R := Z0 (by rfl) _
theorem Z05a : fInfo E 113 = some ⟨19, #[.tmp 4], Z57⟩ := nf
theorem Z085 (args : List AV) : bodyA E C fg N 113 args H B = bodyX E [.tmp 4] (execA E C (fg 113) B 19 H N Z57 (Z5 args 0 [], H)) := Zo Z05a args H
abbrev Z8S := And.intro (And.intro (And.intro (And.intro (And.intro @Z01L (And.intro @ZGx @ZGt)) (And.intro @Z00O (And.intro @ZJn @ZNi))) (And.intro (And.intro @ZJ6 (And.intro @ZHu @Z04m)) (And.intro (And.intro @ZLC @ZLs) (And.intro @ZYn @ZYV)))) (And.intro (And.intro (And.intro @ZSp (And.intro @Z007 @ZJS)) (And.intro (And.intro @ZLT @ZGu) (And.intro @ZVz @ZLQ))) (And.intro (And.intro @ZKn (And.intro @ZKf @ZM4)) (And.intro (And.intro @ZIW @ZGs) (And.intro @ZLn @ZYb))))) (And.intro (And.intro (And.intro (And.intro @ZJm (And.intro @ZKo @ZNb)) (And.intro (And.intro @ZVh @ZVp) (And.intro @ZVx @ZOY))) (And.intro (And.intro @ZXn (And.intro @ZV2 @ZSS)) (And.intro (And.intro @ZS8 @ZKy) (And.intro @ZJe @ZK5)))) (And.intro (And.intro (And.intro @ZT8 (And.intro @Z06a @Z05v)) (And.intro (And.intro @Z01W @Z04M) (And.intro @Z045 @ZZo))) (And.intro (And.intro @ZLg (And.intro @ZKY @ZNO)) (And.intro (And.intro @ZUA @Z05m) (And.intro @Z05K @Z085)))))
end Go.AM.Ytfmnoohhhokicaa
end
noncomputable section
namespace Go.AM.Ytfmnoohhhokicaa
open Go Go.AM
variable {C : Callee} {B N : Nat} {E0 : AHeap} (φ : AFr) (H : AHeap) (s : St)
def ZbK := kBody Proofs.Try.f77
def ZzZ := kL ZbK
def Zhi := kO ZzZ
def Zsw := opN Zhi 0
theorem Z08n : XG 77 5 ZzZ Zhi [2] := Z1 (by rfl) (by rfl) _
theorem ZSI : Zhi.toList = [Zsw] := nf
theorem ZRL : stepA E C B 5 Zhi Zsw (φ, H) = some (fput φ 2 (.bool false), H) := nf
def Zhf := kR ZbK
def ZzD := kL Zhf
def Z46 := kO ZzD
def Zxa := opN Z46 0
def ZsD := opN Z46 1
def ZrI := opN Z46 2
theorem Z07U : XG 77 5 ZzD Z46 [0, 3, 4] := Z1 (by rfl) (by rfl) _
theorem ZQG : Z46.toList = [Zxa, ZsD, ZrI] := nf
theorem ZW4 : stepA E C B 5 Z46 Zxa (φ, H) = some (fput φ 3 (fget φ 0), H) := nf
theorem ZWl : stepA E C B 5 Z46 ZsD (φ, H) = stp (some 4) φ H (just (aBin E.T .eql 3 (fget φ 3) (.int .i64 0))) := nf
theorem ZSk : stepA E C B 5 Z46 ZrI (φ, H) = some (fput φ 2 (fget φ 4), H) := nf
def ZNC := kR Zhf
theorem Z0bb : execA E C (fg 77) B 5 E0 N ZNC s = some (.ret, s) := Zk (by rfl) s
theorem Z0aM : XQ 77 5 Zhf ZzD ZNC := Z0 (by rfl) _
theorem Z09g : XQ 77 5 ZbK ZzZ Zhf := Z0 (by rfl) _
theorem ZhO : fInfo E 77 = some ⟨5, #[.tmp 2], ZbK⟩ := nf
theorem b_77 (args : List AV) : bodyA E C fg N 77 args H B = bodyX E [.tmp 2] (execA E C (fg 77) B 5 H N ZbK (Z5 args 0 [], H)) := Zo ZhO args H
abbrev F_77 := And.intro (And.intro (And.intro @Z08n (And.intro @ZSI @ZRL)) (And.intro @Z07U (And.intro @ZQG @ZW4))) (And.intro (And.intro @ZWl (And.intro @ZSk @Z0bb)) (And.intro @Z0aM (And.intro @Z09g @b_77)))
end Go.AM.Ytfmnoohhhokicaa
end
noncomputable section
namespace Go.AM.Ytfmnoohhhokicaa
open Go Go.AM
variable {C : Callee} {B N : Nat} {E0 : AHeap} (φ : AFr) (H : AHeap) (s : St)
def Z9s := kBody Proofs.Try.f16
def Zzr := kL Z9s
def Z5F := kO Zzr
def Zxk := opN Z5F 0
def Zxu := opN Z5F 1
theorem Z0ag : XG 16 155 Zzr Z5F [0, 4] := Z1 (by rfl) (by rfl) _
theorem ZY7 : Z5F.toList = [Zxk, Zxu] := nf
theorem ZWX : stepA E C B 155 Z5F Zxk (φ, H) = stp (some 2) φ H (opBox (B + 2) (acells (fget φ 0))) := nf
theorem ZT9 : stepA E C B 155 Z5F Zxu (φ, H) = some (fput φ 4 (.bool false), H) := nf
def Zht := kR Z9s
def Zyx := kL Zht
def Z41 := kO Zyx
def Zuo := opN Z41 0
def Zvc := opN Z41 1
def Zsn := opN Z41 2
theorem Z0ay : XG 16 155 Zyx Z41 [2, 20, 21] := Z1 (by rfl) (by rfl) _
theorem ZQQ : Z41.toList = [Zuo, Zvc, Zsn] := nf
theorem ZRi : stepA E C B 155 Z41 Zuo (φ, H) = stp (some 20) φ H (just (aLoad E.T 49 (fget φ 2))) := nf
theorem ZZ1 : stepA E C B 155 Z41 Zvc (φ, H) = stp (some 21) φ H (aCall C (fun j => B + j * 155 + 21) true 56 [(fget φ 20), (.int .i64 6), (.int .i64 6)]) := nf
theorem ZQo : stepA E C B 155 Z41 Zsn (φ, H) = some (fput φ 5 (fget φ 21), H) := nf
def Zhv := kR Zht
def ZyQ := kL Zhv
def Z0K := kO ZyQ
def ZtM := opN Z0K 0
def Zum := opN Z0K 1
def ZrH := opN Z0K 2
def Zrw := opN Z0K 3
def ZrO := opN Z0K 4
def ZsM := opN Z0K 5
def Zxr := opN Z0K 6
theorem Z09o : XG 16 155 ZyQ Z0K [7, 22, 23, 24, 25, 26] := Z1 (by rfl) (by rfl) _
theorem ZTd : Z0K.toList = [ZtM, Zum, ZrH, Zrw, ZrO, ZsM, Zxr] := nf
theorem ZWw : stepA E C B 155 Z0K ZtM (φ, H) = some (fput φ 23 (fget φ 5), H) := nf
theorem ZYj : stepA E C B 155 Z0K Zum (φ, H) = stp (some 24) φ H (aCall C (fun j => B + j * 155 + 24) true 63 [(fget φ 23)]) := nf
theorem ZPY : stepA E C B 155 Z0K ZrH (φ, H) = some (fput φ 22 (fget φ 24), H) := nf
theorem ZU0 : stepA E C B 155 Z0K Zrw (φ, H) = stp (some 25) φ H (Zm (fget φ 22) 0) := nf
theorem ZRd : stepA E C B 155 Z0K ZrO (φ, H) = stp (some 26) φ H (Zm (fget φ 22) 1) := nf
theorem ZTZ : stepA E C B 155 Z0K ZsM (φ, H) = some (fput φ 6 (fget φ 25), H) := nf
theorem ZQH : stepA E C B 155 Z0K Zxr (φ, H) = some (fput φ 7 (fget φ 26), H) := nf
def ZhF := kR Zhv
def Zyw := kL ZhF
def Z0f := kO Zyw
def Zwn := opN Z0f 0
def Zst := opN Z0f 1
def ZtT := opN Z0f 2
def ZwM := opN Z0f 3
def ZuG := opN Z0f 4
def ZxE := opN Z0f 5
def Zvx := opN Z0f 6
def Zx7 := opN Z0f 7
def Zvv := opN Z0f 8
theorem Z08Y : XG 16 155 Zyw Z0f [1, 6, 27, 28, 29, 30, 31, 32, 33, 34] := Z1 (by rfl) (by rfl) _
theorem Z00f : Z0f.toList = [Zwn, Zst, ZtT, ZwM, ZuG, ZxE, Zvx, Zx7, Zvv] := nf
theorem ZTI : stepA E C B 155 Z0f Zwn (φ, H) = some (fput φ 27 (fget φ 6), H) := nf
theorem ZQq : stepA E C B 155 Z0f Zst (φ, H) = some (fput φ 28 (fget φ 1), H) := nf
theorem ZVW : stepA E C B 155 Z0f ZtT (φ, H) = stp (some 29) φ H (justO (aConv E.T 5 3 (fget φ 28))) := nf
theorem ZZa : stepA E C B 155 Z0f ZwM (φ, H) = some (fput φ 30 (fget φ 6), H) := nf
theorem ZZA : stepA E C B 155 Z0f ZuG (φ, H) = stp (some 31) φ H (Z3 E.T (B + 31) .len #[39] [(fget φ 30)]) := nf
theorem ZOC : stepA E C B 155 Z0f ZxE (φ, H) = stp (some 32) φ H (just (aBin E.T .rem 3 (fget φ 29) (fget φ 31))) := nf
theorem ZTQ : stepA E C B 155 Z0f Zvx (φ, H) = stp (some 33) φ H (just (Z2 E.T 39 (fget φ 27) (fget φ 32))) := nf
theorem ZP9 : stepA E C B 155 Z0f Zx7 (φ, H) = stp (some 34) φ H (just (aLoad E.T 22 (fget φ 33))) := nf
theorem ZVy : stepA E C B 155 Z0f Zvv (φ, H) = some (fput φ 8 (fget φ 34), H) := nf
def Zii := kR ZhF
def Zyt := kL Zii
def Z0I := kO Zyt
def ZrM := opN Z0I 0
def ZtD := opN Z0I 1
def ZxW := opN Z0I 2
def Zru := opN Z0I 3
def Zy0 := opN Z0I 4
def ZsQ := opN Z0I 5
def ZtJ := opN Z0I 6
theorem Z0b4 : XG 16 155 Zyt Z0I [35, 36, 37, 38, 39] := Z1 (by rfl) (by rfl) _
theorem ZRO : Z0I.toList = [ZrM, ZtD, ZxW, Zru, Zy0, ZsQ, ZtJ] := nf
theorem ZUY : stepA E C B 155 Z0I ZrM (φ, H) = some (fput φ 36 (fget φ 5), H) := nf
theorem ZTP : stepA E C B 155 Z0I ZtD (φ, H) = stp (some 37) φ H (aCall C (fun j => B + j * 155 + 37) true 52 [(fget φ 36)]) := nf
theorem ZVS : stepA E C B 155 Z0I ZxW (φ, H) = some (fput φ 35 (fget φ 37), H) := nf
theorem ZUH : stepA E C B 155 Z0I Zru (φ, H) = stp (some 38) φ H (Zm (fget φ 35) 0) := nf
theorem ZVJ : stepA E C B 155 Z0I Zy0 (φ, H) = stp (some 39) φ H (Zm (fget φ 35) 1) := nf
theorem ZVP : stepA E C B 155 Z0I ZsQ (φ, H) = some (fput φ 9 (fget φ 38), H) := nf
theorem ZVw : stepA E C B 155 Z0I ZtJ (φ, H) = some (fput φ 10 (fget φ 39), H) := nf
def Z9h := kR Zii
def Z8q := kL Z9h
def Zok := kL Z8q
def Z2m := kO Zok
def Zsc := opN Z2m 0
def Zr0 := opN Z2m 1
def ZuC := opN Z2m 2
def ZsV := opN Z2m 3
theorem Z05c : XG 16 155 Zok Z2m [40, 41, 42] := Z1 (by rfl) (by rfl) _
theorem ZV5 : Z2m.toList = [Zsc, Zr0, ZuC, ZsV] := nf
theorem ZQ4 : stepA E C B 155 Z2m Zsc (φ, H) = some (fput φ 40 (fget φ 5), H) := nf
theorem ZY6 : stepA E C B 155 Z2m Zr0 (φ, H) = stp (some 41) φ H (just (Z2 E.T 22 (fget φ 40) (.int .i64 0))) := nf
theorem ZUk : stepA E C B 155 Z2m ZuC (φ, H) = stp (some 42) φ H (just (aLoad E.T 3 (fget φ 41))) := nf
theorem ZPA : stepA E C B 155 Z2m ZsV (φ, H) = stp (some 43) φ H (just (aBin E.T .eql 3 (fget φ 42) (.int .i64 0))) := nf
def Zb8 := kR Z8q
def Zc1 := kT Zb8
def Zm7 := kL Zc1
def Z00 := kO Zm7
def ZuE := opN Z00 0
def Zxt := opN Z00 1
def Z4p := opN Z00 2
def Zwa := opN Z00 3
def ZwC := opN Z00 4
def Zxc := opN Z00 5
def Zs3 := opN Z00 6
def Zd8 := opN Z00 7
def Zwk := opN Z00 8
def Zv0 := opN Z00 9
def Zlg := opN Z00 10
theorem Z064 : XG 16 155 Zm7 Z00 [5, 8, 9, 10, 43, 44, 45, 46, 47, 48, 49, 50, 51, 52, 53] := Z1 (by rfl) (by rfl) _
theorem ZWG : Z00.toList = [ZuE, Zxt, Z4p, Zwa, ZwC, Zxc, Zs3, Zd8, Zwk, Zv0, Zlg] := nf
theorem ZUM : stepA E C B 155 Z00 ZuE (φ, H) = some (fput φ 44 (fget φ 10), H) := nf
theorem ZO8 : stepA E C B 155 Z00 Zxt (φ, H) = stp (some 45) φ H (just (aBin E.T .eql 24 (fget φ 44) (.int .i64 21))) := nf
theorem ZRy : stepA E C B 155 Z00 Z4p (φ, H) = some (fput φ 46 (fget φ 45), H) := nf
theorem ZVv : stepA E C B 155 Z00 Zwa (φ, H) = gd φ 46 true (fun φ => some (fput φ 47 (.tup []), H)) (fun φ => some (fput φ 47 (fget φ 9), H)) := s_gd (j := 2) (oj := Z4p) rfl rfl rfl (fun _ => rfl) (fun _ => rfl)
theorem ZTE : stepA E C B 155 Z00 ZwC (φ, H) = gd φ 46 true (fun φ => some (fput φ 48 (.tup []), H)) (fun φ => stp (some 48) φ H (Z3 E.T (B + 48) .len #[22] [(fget φ 47)])) := s_gd (j := 2) (oj := Z4p) rfl rfl rfl (fun _ => rfl) (fun _ => rfl)
theorem ZZx : stepA E C B 155 Z00 Zxc (φ, H) = gd φ 46 true (fun φ => some (fput φ 49 (.tup []), H)) (fun φ => stp (some 49) φ H (just (aBin E.T .eql 3 (fget φ 48) (.int .i64 0)))) := s_gd (j := 2) (oj := Z4p) rfl rfl rfl (fun _ => rfl) (fun _ => rfl)
theorem ZRc : stepA E C B 155 Z00 Zs3 (φ, H) = stp (some 50) φ H (opPick (fget φ 46) (fget φ 49) (.bool false)) := nf
theorem ZT5 : stepA E C B 155 Z00 Zd8 (φ, H) = some (fput φ 51 (fget φ 50), H) := nf
theorem ZZ3 : stepA E C B 155 Z00 Zwk (φ, H) = gd φ 51 true (fun φ => some (fput φ 52 (.tup []), H)) (fun φ => stp (some 52) φ H (aCall C (fun j => B + j * 155 + 52) true 17 [])) := s_gd (j := 7) (oj := Zd8) rfl rfl rfl (fun _ => rfl) (fun _ => rfl)
theorem ZZm : stepA E C B 155 Z00 Zv0 (φ, H) = stp (some 53) φ H (opPick (fget φ 51) (fget φ 52) (.bool false)) := nf
theorem ZGd : stepA E C B 155 Z00 Zlg (φ, H) = some (fput φ 4 (fget φ 53), H) := nf
def ZET := kR Zc1
theorem Z043 : execA E C (fg 16) B 155 E0 N ZET s = some (.ret, s) := Zk (by rfl) s
theorem Z00Y : XQ 16 155 Zc1 Zm7 ZET := Z0 (by rfl) _
def ZCg := kE Zb8
theorem Z04v : execA E C (fg 16) B 155 E0 N ZCg s = some (.normal, s) := Zb (by rfl) s
theorem Z01A : XC 16 155 Zb8 43 Zc1 ZCg := Z8 (by rfl) _
theorem Z052 : XQ 16 155 Z8q Zok Zb8 := Z0 (by rfl) _
def Z8U := kR Z9h
def Z9d := kL Z8U
def ZkK := kL Z9d
def Z2h := kO ZkK
def ZuL := opN Z2h 0
def Zsl := opN Z2h 1
def ZxV := opN Z2h 2
def ZxI := opN Z2h 3
theorem Z04O : XG 16 155 ZkK Z2h [43, 54, 55, 56] := Z1 (by rfl) (by rfl) _
theorem ZVj : Z2h.toList = [ZuL, Zsl, ZxV, ZxI] := nf
theorem ZTw : stepA E C B 155 Z2h ZuL (φ, H) = some (fput φ 54 (fget φ 5), H) := nf
theorem ZRD : stepA E C B 155 Z2h Zsl (φ, H) = stp (some 55) φ H (just (Z2 E.T 22 (fget φ 54) (.int .i64 0))) := nf
theorem ZXt : stepA E C B 155 Z2h ZxV (φ, H) = stp (some 56) φ H (just (aLoad E.T 3 (fget φ 55))) := nf
theorem ZS9 : stepA E C B 155 Z2h ZxI (φ, H) = stp (some 57) φ H (just (aBin E.T .gtr 3 (fget φ 56) (.int .i64 6))) := nf
def Zbs := kR Z9d
def ZaR := kT Zbs
def ZnU := kL ZaR
def ZZ := kO ZnU
def Ztc := opN ZZ 0
def Zr9 := opN ZZ 1
def Z4d := opN ZZ 2
def Zxe := opN ZZ 3
def Zr6 := opN ZZ 4
def Ztd := opN ZZ 5
def ZvM := opN ZZ 6
def Zdl := opN ZZ 7
def Zw1 := opN ZZ 8
def Zwg := opN ZZ 9
def ZoT := opN ZZ 10
theorem Z050 : XG 16 155 ZnU ZZ [5, 8, 9, 10, 57, 58, 59, 60, 61, 62, 63, 64, 65, 66, 67] := Z1 (by rfl) (by rfl) _
theorem ZQJ : ZZ.toList = [Ztc, Zr9, Z4d, Zxe, Zr6, Ztd, ZvM, Zdl, Zw1, Zwg, ZoT] := nf
theorem ZWJ : stepA E C B 155 ZZ Ztc (φ, H) = some (fput φ 58 (fget φ 10), H) := nf
theorem ZOe : stepA E C B 155 ZZ Zr9 (φ, H) = stp (some 59) φ H (just (aBin E.T .eql 24 (fget φ 58) (.int .i64 3))) := nf
theorem ZOU : stepA E C B 155 ZZ Z4d (φ, H) = some (fput φ 60 (fget φ 59), H) := nf
theorem ZP2 : stepA E C B 155 ZZ Zxe (φ, H) = gd φ 60 true (fun φ => some (fput φ 61 (.tup []), H)) (fun φ => some (fput φ 61 (fget φ 9), H)) := s_gd (j := 2) (oj := Z4d) rfl rfl rfl (fun _ => rfl) (fun _ => rfl)
theorem ZQK : stepA E C B 155 ZZ Zr6 (φ, H) = gd φ 60 true (fun φ => some (fput φ 62 (.tup []), H)) (fun φ => stp (some 62) φ H (Z3 E.T (B + 62) .len #[22] [(fget φ 61)])) := s_gd (j := 2) (oj := Z4d) rfl rfl rfl (fun _ => rfl) (fun _ => rfl)
theorem ZVG : stepA E C B 155 ZZ Ztd (φ, H) = gd φ 60 true (fun φ => some (fput φ 63 (.tup []), H)) (fun φ => stp (some 63) φ H (just (aBin E.T .eql 3 (fget φ 62) (.int .i64 0)))) := s_gd (j := 2) (oj := Z4d) rfl rfl rfl (fun _ => rfl) (fun _ => rfl)
theorem ZZh : stepA E C B 155 ZZ ZvM (φ, H) = stp (some 64) φ H (opPick (fget φ 60) (fget φ 63) (.bool false)) := nf
theorem ZQp : stepA E C B 155 ZZ Zdl (φ, H) = some (fput φ 65 (fget φ 64), H) := nf
theorem ZQx : stepA E C B 155 ZZ Zw1 (φ, H) = gd φ 65 true (fun φ => some (fput φ 66 (.tup []), H)) (fun φ => stp (some 66) φ H (aCall C (fun j => B + j * 155 + 66) true 17 [])) := s_gd (j := 7) (oj := Zdl) rfl rfl rfl (fun _ => rfl) (fun _ => rfl)
theorem ZRJ : stepA E C B 155 ZZ Zwg (φ, H) = stp (some 67) φ H (opPick (fget φ 65) (fget φ 66) (.bool false)) := nf
theorem ZKq : stepA E C B 155 ZZ ZoT (φ, H) = some (fput φ 4 (fget φ 67), H) := nf
def ZG6 := kR ZaR
theorem Z04S : execA E C (fg 16) B 155 E0 N ZG6 s = some (.ret, s) := Zk (by rfl) s
theorem Z06Y : XQ 16 155 ZaR ZnU ZG6 := Z0 (by rfl) _
def ZBL := kE Zbs
theorem Z02w : execA E C (fg 16) B 155 E0 N ZBL s = some (.normal, s) := Zb (by rfl) s
theorem Z03s : XC 16 155 Zbs 57 ZaR ZBL := Z8 (by rfl) _
theorem Z04W : XQ 16 155 Z9d ZkK Zbs := Z0 (by rfl) _
def Zal := kR Z8U
def ZoV := kL Zal
def Z0F := kO ZoV
def ZwF := opN Z0F 0
def Zx2 := opN Z0F 1
def Zt7 := opN Z0F 2
def Zww := opN Z0F 3
def Zxx := opN Z0F 4
def ZsT := opN Z0F 5
def ZuY := opN Z0F 6
theorem Z01u : XG 16 155 ZoV Z0F [57, 68, 69, 70, 71, 72] := Z1 (by rfl) (by rfl) _
theorem ZWh : Z0F.toList = [ZwF, Zx2, Zt7, Zww, Zxx, ZsT, ZuY] := nf
theorem ZZd : stepA E C B 155 Z0F ZwF (φ, H) = some (fput φ 69 (fget φ 8), H) := nf
theorem ZRI : stepA E C B 155 Z0F Zx2 (φ, H) = stp (some 70) φ H (aCall C (fun j => B + j * 155 + 70) true 52 [(fget φ 69)]) := nf
theorem ZUS : stepA E C B 155 Z0F Zt7 (φ, H) = some (fput φ 68 (fget φ 70), H) := nf
theorem ZTj : stepA E C B 155 Z0F Zww (φ, H) = stp (some 71) φ H (Zm (fget φ 68) 0) := nf
theorem ZV6 : stepA E C B 155 Z0F Zxx (φ, H) = stp (some 72) φ H (Zm (fget φ 68) 1) := nf
theorem ZU9 : stepA E C B 155 Z0F ZsT (φ, H) = some (fput φ 11 (fget φ 71), H) := nf
theorem ZTb : stepA E C B 155 Z0F ZuY (φ, H) = some (fput φ 12 (fget φ 72), H) := nf
def Z8l := kR Zal
def Za9 := kL Z8l
def Zk3 := kL Za9
def Zg := kO Zk3
def ZnS := opN Zg 0
def Zo8 := opN Zg 1
def Z4Z := opN Zg 2
def ZmO := opN Zg 3
def Zpa := opN Zg 4
def Zjm := opN Zg 5
def Z1h := opN Zg 6
def Zmx := opN Zg 7
def Zox := opN Zg 8
def Zl6 := opN Zg 9
def Zei := opN Zg 10
def ZfG := opN Zg 11
def Zgn := opN Zg 12
def Zgf := opN Zg 13
def Z0P := opN Zg 14
def ZeJ := opN Zg 15
def ZeU := opN Zg 16
def ZfM := opN Zg 17
def Zgv := opN Zg 18
def ZeZ := opN Zg 19
def Zev := opN Zg 20
def Zg0 := opN Zg 21
theorem Z024 : XG 16 155 Zk3 Zg [8, 10, 12, 73, 74, 75, 76, 77, 78, 79, 80, 81, 82, 83, 84, 85, 86, 87, 88, 89, 90, 91, 92, 93] := Z1 (by rfl) (by rfl) _
theorem ZLA : Zg.toList = [ZnS, Zo8, Z4Z, ZmO, Zpa, Zjm, Z1h, Zmx, Zox, Zl6, Zei, ZfG, Zgn, Zgf, Z0P, ZeJ, ZeU, ZfM, Zgv, ZeZ, Zev, Zg0] := nf
theorem ZIX : stepA E C B 155 Zg ZnS (φ, H) = some (fput φ 73 (fget φ 10), H) := nf
theorem ZLo : stepA E C B 155 Zg Zo8 (φ, H) = stp (some 74) φ H (just (aBin E.T .neq 24 (fget φ 73) (.int .i64 0))) := nf
theorem ZJj : stepA E C B 155 Zg Z4Z (φ, H) = some (fput φ 75 (fget φ 74), H) := nf
theorem ZIG : stepA E C B 155 Zg ZmO (φ, H) = gd φ 75 false (fun φ => some (fput φ 76 (.tup []), H)) (fun φ => some (fput φ 76 (fget φ 12), H)) := s_gd (j := 2) (oj := Z4Z) rfl rfl rfl (fun _ => rfl) (fun _ => rfl)
theorem ZHg : stepA E C B 155 Zg Zpa (φ, H) = gd φ 75 false (fun φ => some (fput φ 77 (.tup []), H)) (fun φ => stp (some 77) φ H (just (aBin E.T .neq 24 (fget φ 76) (.int .i64 0)))) := s_gd (j := 2) (oj := Z4Z) rfl rfl rfl (fun _ => rfl) (fun _ => rfl)
theorem ZIg : stepA E C B 155 Zg Zjm (φ, H) = stp (some 78) φ H (opPick (fget φ 75) (.bool true) (fget φ 77)) := nf
theorem ZI9 : stepA E C B 155 Zg Z1h (φ, H) = some (fput φ 79 (fget φ 78), H) := nf
theorem ZMk : stepA E C B 155 Zg Zmx (φ, H) = gd φ 79 false (fun φ => some (fput φ 80 (.tup []), H)) (fun φ => some (fput φ 80 (fget φ 9), H)) := s_gd (j := 6) (oj := Z1h) rfl rfl rfl (fun _ => rfl) (fun _ => rfl)
theorem ZHJ : stepA E C B 155 Zg Zox (φ, H) = gd φ 79 false (fun φ => some (fput φ 81 (.tup []), H)) (fun φ => stp (some 81) φ H (Z3 E.T (B + 81) .len #[22] [(fget φ 80)])) := s_gd (j := 6) (oj := Z1h) rfl rfl rfl (fun _ => rfl) (fun _ => rfl)
theorem ZJB : stepA E C B 155 Zg Zl6 (φ, H) = gd φ 79 false (fun φ => some (fput φ 82 (.tup []), H)) (fun φ => some (fput φ 82 (fget φ 5), H)) := s_gd (j := 6) (oj := Z1h) rfl rfl rfl (fun _ => rfl) (fun _ => rfl)
theorem ZFR : stepA E C B 155 Zg Zei (φ, H) = gd φ 79 false (fun φ => some (fput φ 83 (.tup []), H)) (fun φ => stp (some 83) φ H (just (Z2 E.T 22 (fget φ 82) (.int .i64 0)))) := s_gd (j := 6) (oj := Z1h) rfl rfl rfl (fun _ => rfl) (fun _ => rfl)
theorem ZEi : stepA E C B 155 Zg ZfG (φ, H) = gd φ 79 false (fun φ => some (fput φ 84 (.tup []), H)) (fun φ => stp (some 84) φ H (just (aLoad E.T 3 (fget φ 83)))) := s_gd (j := 6) (oj := Z1h) rfl rfl rfl (fun _ => rfl) (fun _ => rfl)
theorem ZFP : stepA E C B 155 Zg Zgn (φ, H) = gd φ 79 false (fun φ => some (fput φ 85 (.tup []), H)) (fun φ => stp (some 85) φ H (just (aBin E.T .neq 3 (fget φ 81) (fget φ 84)))) := s_gd (j := 6) (oj := Z1h) rfl rfl rfl (fun _ => rfl) (fun _ => rfl)
theorem ZDl : stepA E C B 155 Zg Zgf (φ, H) = stp (some 86) φ H (opPick (fget φ 79) (.bool true) (fget φ 85)) := nf
theorem ZAY : stepA E C B 155 Zg Z0P (φ, H) = some (fput φ 87 (fget φ 86), H) := nf
theorem ZE8 : stepA E C B 155 Zg ZeJ (φ, H) = gd φ 87 false (fun φ => some (fput φ 88 (.tup []), H)) (fun φ => some (fput φ 88 (fget φ 11), H)) := s_gd (j := 14) (oj := Z0P) rfl rfl rfl (fun _ => rfl) (fun _ => rfl)
theorem ZDh : stepA E C B 155 Zg ZeU (φ, H) = gd φ 87 false (fun φ => some (fput φ 89 (.tup []), H)) (fun φ => stp (some 89) φ H (Z3 E.T (B + 89) .len #[22] [(fget φ 88)])) := s_gd (j := 14) (oj := Z0P) rfl rfl rfl (fun _ => rfl) (fun _ => rfl)
theorem ZDQ : stepA E C B 155 Zg ZfM (φ, H) = gd φ 87 false (fun φ => some (fput φ 90 (.tup []), H)) (fun φ => some (fput φ 90 (fget φ 8), H)) := s_gd (j := 14) (oj := Z0P) rfl rfl rfl (fun _ => rfl) (fun _ => rfl)
theorem ZD7 : stepA E C B 155 Zg Zgv (φ, H) = gd φ 87 false (fun φ => some (fput φ 91 (.tup []), H)) (fun φ => stp (some 91) φ H (just (Z2 E.T 22 (fget φ 90) (.int .i64 0)))) := s_gd (j := 14) (oj := Z0P) rfl rfl rfl (fun _ => rfl) (fun _ => rfl)
theorem ZE5 : stepA E C B 155 Zg ZeZ (φ, H) = gd φ 87 false (fun φ => some (fput φ 92 (.tup []), H)) (fun φ => stp (some 92) φ H (just (aLoad E.T 3 (fget φ 91)))) := s_gd (j := 14) (oj := Z0P) rfl rfl rfl (fun _ => rfl) (fun _ => rfl)
theorem ZAU : stepA E C B 155 Zg Zev (φ, H) = gd φ 87 false (fun φ => some (fput φ 93 (.tup []), H)) (fun φ => stp (some 93) φ H (just (aBin E.T .neq 3 (fget φ 89) (fget φ 92)))) := s_gd (j := 14) (oj := Z0P) rfl rfl rfl (fun _ => rfl) (fun _ => rfl)
theorem ZD0 : stepA E C B 155 Zg Zg0 (φ, H) = stp (some 94) φ H (opPick (fget φ 87) (.bool true) (fget φ 93)) := nf
def Zba := kR Za9
def Z9L := kT Zba
def Zof := kL Z9L
def ZbB := kO Zof
def ZjC := opN ZbB 0
theorem Z03q : XG 16 155 Zof ZbB [5, 9, 11, 94] := Z1 (by rfl) (by rfl) _
theorem ZJr : ZbB.toList = [ZjC] := nf
theorem ZGR : stepA E C B 155 ZbB ZjC (φ, H) = some (fput φ 4 (.bool false), H) := nf
def ZAv := kR Z9L
theorem Z05Y : execA E C (fg 16) B 155 E0 N ZAv s = some (.ret, s) := Zk (by rfl) s
theorem Z03Z : XQ 16 155 Z9L Zof ZAv := Z0 (by rfl) _
def ZF8 := kE Zba
theorem Z013 : execA E C (fg 16) B 155 E0 N ZF8 s = some (.normal, s) := Zb (by rfl) s
theorem Z014 : XC 16 155 Zba 94 Z9L ZF8 := Z8 (by rfl) _
theorem Z075 : XQ 16 155 Za9 Zk3 Zba := Z0 (by rfl) _
def Zax := kR Z8l
def Zbj := kL Zax
def Zpy := kL Zbj
def Z2C := kO Zpy
def Zqh := opN Z2C 0
def Zla := opN Z2C 1
def Zk4 := opN Z2C 2
theorem Z01g : XG 16 155 Zpy Z2C [94] := Z1 (by rfl) (by rfl) _
theorem ZJi : Z2C.toList = [Zqh, Zla, Zk4] := nf
theorem ZIY : stepA E C B 155 Z2C Zqh (φ, H) = some (fput φ 95 (fget φ 9), H) := nf
theorem ZGL : stepA E C B 155 Z2C Zla (φ, H) = stp (some 96) φ H (Z3 E.T (B + 96) .len #[22] [(fget φ 95)]) := nf
theorem ZHY : stepA E C B 155 Z2C Zk4 (φ, H) = some (fput φ 97 (.int .i64 0), H) := nf
def ZpK := kR Zbj
def Zm2 := kB ZpK
def Z4r := kB Zm2
def Zpj := kL Z4r
def Zb9 := kO Zpj
def Zow := opN Zb9 0
theorem Z03M : XG 16 155 Zpj Zb9 [] := Z1 (by rfl) (by rfl) _
theorem ZNy : Zb9.toList = [Zow] := nf
theorem ZNc : stepA E C B 155 Zb9 Zow (φ, H) = stp (some 98) φ H (just (aBin E.T .lss 3 (fget φ 97) (fget φ 96))) := nf
def ZaS := kR Z4r
def Z9n := kL ZaS
def ZFQ := kT Z9n
theorem Z02S : execA E C (fg 16) B 155 E0 N ZFQ s = some (.normal, s) := Zb (by rfl) s
def ZEM := kE Z9n
theorem Z02O : execA E C (fg 16) B 155 E0 N ZEM s = some (.exit 0, s) := ZP (by rfl) s
theorem Z05Q : XC 16 155 Z9n 98 ZFQ ZEM := Z8 (by rfl) _
def Z9E := kR ZaS
def ZkO := kL Z9E
def Zbd := kB ZkO
def Zqs := kL Zbd
def Z0X := kO Zqs
def ZoE := opN Z0X 0
def ZjF := opN Z0X 1
def ZlT := opN Z0X 2
def Zk9 := opN Z0X 3
def Zml := opN Z0X 4
theorem Z05Z : XG 16 155 Zqs Z0X [98, 99, 100, 101] := Z1 (by rfl) (by rfl) _
theorem ZL4 : Z0X.toList = [ZoE, ZjF, ZlT, Zk9, Zml] := nf
theorem ZGr : stepA E C B 155 Z0X ZoE (φ, H) = some (fput φ 99 (fget φ 97), H) := nf
theorem ZI3 : stepA E C B 155 Z0X ZjF (φ, H) = stp (some 100) φ H (just (Z2 E.T 22 (fget φ 95) (fget φ 97))) := nf
theorem ZN8 : stepA E C B 155 Z0X ZlT (φ, H) = stp (some 101) φ H (just (aLoad E.T 3 (fget φ 100))) := nf
theorem ZId : stepA E C B 155 Z0X Zk9 (φ, H) = some (fput φ 13 (fget φ 99), H) := nf
theorem ZL5 : stepA E C B 155 Z0X Zml (φ, H) = some (fput φ 14 (fget φ 101), H) := nf
def Z9g := kR Zbd
def ZlJ := kL Z9g
def ZaK := kO ZlJ
def ZnV := opN ZaK 0
theorem Z00H : XG 16 155 ZlJ ZaK [] := Z1 (by rfl) (by rfl) _
theorem ZMe : ZaK.toList = [ZnV] := nf
theorem ZKh : stepA E C B 155 ZaK ZnV (φ, H) = some (fput φ 15 (.int .i64 0), H) := nf
def ZaD := kR Z9g
def Z8H := kL ZaD
def Znh := kL Z8H
def Z2B := kO Znh
def ZoR := opN Z2B 0
def ZnQ := opN Z2B 1
def ZmG := opN Z2B 2
theorem Z070 : XG 16 155 Znh Z2B [] := Z1 (by rfl) (by rfl) _
theorem ZIE : Z2B.toList = [ZoR, ZnQ, ZmG] := nf
theorem ZK0 : stepA E C B 155 Z2B ZoR (φ, H) = some (fput φ 102 (fget φ 5), H) := nf
theorem ZIV : stepA E C B 155 Z2B ZnQ (φ, H) = stp (some 103) φ H (Z3 E.T (B + 103) .len #[22] [(fget φ 102)]) := nf
theorem ZJy : stepA E C B 155 Z2B ZmG (φ, H) = some (fput φ 104 (.int .i64 0), H) := nf
def Zo5 := kR Z8H
def ZiF := kB Zo5
def Z4h := kB ZiF
def ZjV := kL Z4h
def Z9B := kO ZjV
def ZlL := opN Z9B 0
theorem Z058 : XG 16 155 ZjV Z9B [] := Z1 (by rfl) (by rfl) _
theorem ZJ2 : Z9B.toList = [ZlL] := nf
theorem ZGk : stepA E C B 155 Z9B ZlL (φ, H) = stp (some 105) φ H (just (aBin E.T .lss 3 (fget φ 104) (fget φ 103))) := nf
def Zat := kR Z4h
def Zbq := kL Zat
def ZBB := kT Zbq
theorem Z05j : execA E C (fg 16) B 155 E0 N ZBB s = some (.normal, s) := Zb (by rfl) s
def ZEZ := kE Zbq
theorem Z05p : execA E C (fg 16) B 155 E0 N ZEZ s = some (.exit 2, s) := ZP (by rfl) s
theorem Z03Q : XC 16 155 Zbq 105 ZBB ZEZ := Z8 (by rfl) _
def Z8w := kR Zat
def ZkT := kL Z8w
def Zb7 := kB ZkT
def Zko := kL Zb7
def Z2I := kO Zko
def ZlZ := opN Z2I 0
def ZjM := opN Z2I 1
def ZkQ := opN Z2I 2
theorem Z01l : XG 16 155 Zko Z2I [105, 106, 107] := Z1 (by rfl) (by rfl) _
theorem ZJW : Z2I.toList = [ZlZ, ZjM, ZkQ] := nf
theorem ZM3 : stepA E C B 155 Z2I ZlZ (φ, H) = stp (some 106) φ H (just (Z2 E.T 22 (fget φ 102) (fget φ 104))) := nf
theorem ZGA : stepA E C B 155 Z2I ZjM (φ, H) = stp (some 107) φ H (just (aLoad E.T 3 (fget φ 106))) := nf
theorem ZIC : stepA E C B 155 Z2I ZkQ (φ, H) = some (fput φ 17 (fget φ 107), H) := nf
def Zas := kR Zb7
def Zkf := kL Zas
def Z2W := kO Zkf
def Zm5 := opN Z2W 0
def ZoW := opN Z2W 1
def ZpI := opN Z2W 2
theorem Z03e : XG 16 155 Zkf Z2W [17, 108, 109] := Z1 (by rfl) (by rfl) _
theorem ZKE : Z2W.toList = [Zm5, ZoW, ZpI] := nf
theorem ZIH : stepA E C B 155 Z2W Zm5 (φ, H) = some (fput φ 108 (fget φ 17), H) := nf
theorem ZHW : stepA E C B 155 Z2W ZoW (φ, H) = some (fput φ 109 (fget φ 13), H) := nf
theorem ZH0 : stepA E C B 155 Z2W ZpI (φ, H) = stp (some 110) φ H (just (aBin E.T .gtr 3 (fget φ 108) (fget φ 109))) := nf
def Z9q := kR Zas
def ZoB := kT Z9q
def Z2w := kO ZoB
def ZpV := opN Z2w 0
def Zl8 := opN Z2w 1
def Zpd := opN Z2w 2
theorem Z04j : XG 16 155 ZoB Z2w [110, 111, 112] := Z1 (by rfl) (by rfl) _
theorem ZN5 : Z2w.toList = [ZpV, Zl8, Zpd] := nf
theorem ZLu : stepA E C B 155 Z2w ZpV (φ, H) = some (fput φ 111 (fget φ 15), H) := nf
theorem ZM7 : stepA E C B 155 Z2w Zl8 (φ, H) = stp (some 112) φ H (just (aBin E.T .add 3 (fget φ 111) (.int .i64 1))) := nf
theorem ZGo : stepA E C B 155 Z2w Zpd (φ, H) = some (fput φ 15 (fget φ 112), H) := nf
def ZCR := kE Z9q
theorem Z04d : execA E C (fg 16) B 155 E0 N ZCR s = some (.normal, s) := Zb (by rfl) s
theorem Z02J : XC 16 155 Z9q 110 ZoB ZCR := Z8 (by rfl) _
theorem Z00X : XQ 16 155 Zas Zkf Z9q := Z0 (by rfl) _
theorem Z06u : XQ 16 155 Zb7 Zko Zas := Z0 (by rfl) _
theorem Z00N : execA E C (fg 16) B 155 E0 N ZkT s = blockX 3 (fun s => (forget s.1 [110], s.2)) (execA E C (fg 16) B 155 E0 N Zb7 s) := Za (by rfl) (by rfl) s
def Zll := kR Z8w
def Z4v := kO Zll
def Zog := opN Z4v 0
def ZkZ := opN Z4v 1
theorem Z03g : XG 16 155 Zll Z4v [113] := Z1 (by rfl) (by rfl) _
theorem ZHc : Z4v.toList = [Zog, ZkZ] := nf
theorem ZMS : stepA E C B 155 Z4v Zog (φ, H) = stp (some 113) φ H (just (aBin E.T .add 3 (fget φ 104) (.int .i64 1))) := nf
theorem ZJY : stepA E C B 155 Z4v ZkZ (φ, H) = some (fput φ 104 (fget φ 113), H) := nf
theorem Z062 : XQ 16 155 Z8w ZkT Zll := Z0 (by rfl) _
theorem Z02h : XQ 16 155 Zat Zbq Z8w := Z0 (by rfl) _
theorem Z06n : XQ 16 155 Z4h ZjV Zat := Z0 (by rfl) _
theorem Z069 : execA E C (fg 16) B 155 E0 N ZiF s = iterA (execA E C (fg 16) B 155 E0 N Z4h) (headA E0) N s := ZY (by rfl) s
theorem Z06j : execA E C (fg 16) B 155 E0 N Zo5 s = blockX 2 (fun s => (forget s.1 [13, 102, 103, 104, 105], s.2)) (execA E C (fg 16) B 155 E0 N ZiF s) := Za (by rfl) (by rfl) s
theorem Z00E : XQ 16 155 Z8H Znh Zo5 := Z0 (by rfl) _
def Z9y := kR ZaD
def Zpe := kL Z9y
def Z2A := kO Zpe
def Zqg := opN Z2A 0
def Znl := opN Z2A 1
def ZmD := opN Z2A 2
theorem Z049 : XG 16 155 Zpe Z2A [14, 15, 114, 115] := Z1 (by rfl) (by rfl) _
theorem ZGS : Z2A.toList = [Zqg, Znl, ZmD] := nf
theorem ZJw : stepA E C B 155 Z2A Zqg (φ, H) = some (fput φ 114 (fget φ 14), H) := nf
theorem ZHQ : stepA E C B 155 Z2A Znl (φ, H) = some (fput φ 115 (fget φ 15), H) := nf
theorem ZKu : stepA E C B 155 Z2A ZmD (φ, H) = stp (some 116) φ H (just (aBin E.T .neq 3 (fget φ 114) (fget φ 115))) := nf
def Z90 := kR Z9y
def Z9W := kT Z90
def Zln := kL Z9W
def Z9M := kO Zln
def Zls := opN Z9M 0
theorem Z03a : XG 16 155 Zln Z9M [5, 9, 11, 95, 96, 97, 116] := Z1 (by rfl) (by rfl) _
theorem ZGg : Z9M.toList = [Zls] := nf
theorem ZNa : stepA E C B 155 Z9M Zls (φ, H) = some (fput φ 4 (.bool false), H) := nf
def ZDg := kR Z9W
theorem Z00B : execA E C (fg 16) B 155 E0 N ZDg s = some (.ret, s) := Zk (by rfl) s
theorem Z04o : XQ 16 155 Z9W Zln ZDg := Z0 (by rfl) _
def ZAo := kE Z90
theorem Z015 : execA E C (fg 16) B 155 E0 N ZAo s = some (.normal, s) := Zb (by rfl) s
theorem Z06l : XC 16 155 Z90 116 Z9W ZAo := Z8 (by rfl) _
theorem Z03P : XQ 16 155 Z9y Zpe Z90 := Z0 (by rfl) _
theorem Z04f : XQ 16 155 ZaD Z8H Z9y := Z0 (by rfl) _
theorem Z06i : XQ 16 155 Z9g ZlJ ZaD := Z0 (by rfl) _
theorem Z04E : XQ 16 155 Zbd Zqs Z9g := Z0 (by rfl) _
theorem Z02k : execA E C (fg 16) B 155 E0 N ZkO s = blockX 1 (fun s => (forget s.1 [116], s.2)) (execA E C (fg 16) B 155 E0 N Zbd s) := Za (by rfl) (by rfl) s
def ZoP := kR Z9E
def Z4D := kO ZoP
def Zo2 := opN Z4D 0
def Zj3 := opN Z4D 1
theorem Z00U : XG 16 155 ZoP Z4D [117] := Z1 (by rfl) (by rfl) _
theorem ZNu : Z4D.toList = [Zo2, Zj3] := nf
theorem ZLX : stepA E C B 155 Z4D Zo2 (φ, H) = stp (some 117) φ H (just (aBin E.T .add 3 (fget φ 97) (.int .i64 1))) := nf
theorem ZGH : stepA E C B 155 Z4D Zj3 (φ, H) = some (fput φ 97 (fget φ 117), H) := nf
theorem Z00j : XQ 16 155 Z9E ZkO ZoP := Z0 (by rfl) _
theorem Z05N : XQ 16 155 ZaS Z9n Z9E := Z0 (by rfl) _
theorem Z05M : XQ 16 155 Z4r Zpj ZaS := Z0 (by rfl) _
theorem Z00w : execA E C (fg 16) B 155 E0 N Zm2 s = iterA (execA E C (fg 16) B 155 E0 N Z4r) (headA E0) N s := ZY (by rfl) s
theorem Z05F : execA E C (fg 16) B 155 E0 N ZpK s = blockX 0 (fun s => (forget s.1 [95, 96, 97, 98], s.2)) (execA E C (fg 16) B 155 E0 N Zm2 s) := Za (by rfl) (by rfl) s
theorem Z041 : XQ 16 155 Zbj Zpy ZpK := Z0 (by rfl) _
def Z98 := kR Zax
def Zn1 := kL Z98
def Z0i := kO Zn1
def Zmy := opN Z0i 0
def ZmA := opN Z0i 1
def ZkX := opN Z0i 2
def Zn0 := opN Z0i 3
def Zn7 := opN Z0i 4
def ZoX := opN Z0i 5
def ZnP := opN Z0i 6
theorem Z07g : XG 16 155 Zn1 Z0i [118, 119, 120, 121, 122] := Z1 (by rfl) (by rfl) _
theorem ZGN : Z0i.toList = [Zmy, ZmA, ZkX, Zn0, Zn7, ZoX, ZnP] := nf
theorem ZHO : stepA E C B 155 Z0i Zmy (φ, H) = some (fput φ 119 (fget φ 9), H) := nf
theorem ZKJ : stepA E C B 155 Z0i ZmA (φ, H) = stp (some 120) φ H (aCall C (fun j => B + j * 155 + 120) true 52 [(fget φ 119)]) := nf
theorem ZNt : stepA E C B 155 Z0i ZkX (φ, H) = some (fput φ 118 (fget φ 120), H) := nf
theorem ZK3 : stepA E C B 155 Z0i Zn0 (φ, H) = stp (some 121) φ H (Zm (fget φ 118) 0) := nf
theorem ZMy : stepA E C B 155 Z0i Zn7 (φ, H) = stp (some 122) φ H (Zm (fget φ 118) 1) := nf
theorem ZMi : stepA E C B 155 Z0i ZoX (φ, H) = some (fput φ 18 (fget φ 121), H) := nf
theorem ZHp : stepA E C B 155 Z0i ZnP (φ, H) = some (fput φ 10 (fget φ 122), H) := nf
def Za6 := kR Z98
def Z9o := kL Za6
def Zje := kL Z9o
def ZH := kO Zje
def Zqd := opN ZH 0
def Zpr := opN ZH 1
def Z1e := opN ZH 2
def ZoO := opN ZH 3
def Zlr := opN ZH 4
def Zks := opN ZH 5
def ZjS := opN ZH 6
def Zov := opN ZH 7
def ZnA := opN ZH 8
def ZjG := opN ZH 9
theorem Z07b : XG 16 155 Zje ZH [5, 10, 18, 123, 124, 125, 126, 127, 128, 129, 130, 131] := Z1 (by rfl) (by rfl) _
theorem ZGq : ZH.toList = [Zqd, Zpr, Z1e, ZoO, Zlr, Zks, ZjS, Zov, ZnA, ZjG] := nf
theorem ZME : stepA E C B 155 ZH Zqd (φ, H) = some (fput φ 123 (fget φ 10), H) := nf
theorem ZHi : stepA E C B 155 ZH Zpr (φ, H) = stp (some 124) φ H (just (aBin E.T .neq 24 (fget φ 123) (.int .i64 0))) := nf
theorem ZLH : stepA E C B 155 ZH Z1e (φ, H) = some (fput φ 125 (fget φ 124), H) := nf
theorem ZHV : stepA E C B 155 ZH ZoO (φ, H) = gd φ 125 false (fun φ => some (fput φ 126 (.tup []), H)) (fun φ => some (fput φ 126 (fget φ 18), H)) := s_gd (j := 2) (oj := Z1e) rfl rfl rfl (fun _ => rfl) (fun _ => rfl)
theorem ZKB : stepA E C B 155 ZH Zlr (φ, H) = gd φ 125 false (fun φ => some (fput φ 127 (.tup []), H)) (fun φ => some (fput φ 127 (fget φ 5), H)) := s_gd (j := 2) (oj := Z1e) rfl rfl rfl (fun _ => rfl) (fun _ => rfl)
theorem ZMP : stepA E C B 155 ZH Zks (φ, H) = gd φ 125 false (fun φ => some (fput φ 128 (.tup []), H)) (fun φ => stp (some 128) φ H (aCall C (fun j => B + j * 155 + 128) true 66 [(fget φ 127)])) := s_gd (j := 2) (oj := Z1e) rfl rfl rfl (fun _ => rfl) (fun _ => rfl)
theorem ZHz : stepA E C B 155 ZH ZjS (φ, H) = gd φ 125 false (fun φ => some (fput φ 129 (.tup []), H)) (fun φ => mutX (some 129) φ (C 76 [(fget φ 128), (.clo 77 [])] H (B + 155 * 8))) := s_gd (j := 2) (oj := Z1e) rfl rfl rfl (fun _ => rfl) (fun _ => rfl)
theorem ZMl : stepA E C B 155 ZH Zov (φ, H) = gd φ 125 false (fun φ => some (fput φ 130 (.tup []), H)) (fun φ => stp (some 130) φ H (aCall C (fun j => B + j * 155 + 130) true 24 [(fget φ 126), (fget φ 129)])) := s_gd (j := 2) (oj := Z1e) rfl rfl rfl (fun _ => rfl) (fun _ => rfl)
theorem ZLR : stepA E C B 155 ZH ZnA (φ, H) = gd φ 125 false (fun φ => some (fput φ 131 (.tup []), H)) (fun φ => stp (some 131) φ H (justO (aUn .not (fget φ 130)))) := s_gd (j := 2) (oj := Z1e) rfl rfl rfl (fun _ => rfl) (fun _ => rfl)
theorem ZN3 : stepA E C B 155 ZH ZjG (φ, H) = stp (some 132) φ H (opPick (fget φ 125) (.bool true) (fget φ 131)) := nf
def Z8s := kR Z9o
def ZbN := kT Z8s
def ZkH := kL ZbN
def Zbl := kO ZkH
def Zli := opN Zbl 0
theorem Z01h : XG 16 155 ZkH Zbl [9, 11, 132] := Z1 (by rfl) (by rfl) _
theorem ZJz : Zbl.toList = [Zli] := nf
theorem ZJt : stepA E C B 155 Zbl Zli (φ, H) = some (fput φ 4 (.bool false), H) := nf
def ZBk := kR ZbN
theorem Z02o : execA E C (fg 16) B 155 E0 N ZBk s = some (.ret, s) := Zk (by rfl) s
theorem Z06x : XQ 16 155 ZbN ZkH ZBk := Z0 (by rfl) _
def ZDn := kE Z8s
theorem Z02U : execA E C (fg 16) B 155 E0 N ZDn s = some (.normal, s) := Zb (by rfl) s
theorem Z05w : XC 16 155 Z8s 132 ZbN ZDn := Z8 (by rfl) _
theorem Z01C : XQ 16 155 Z9o Zje Z8s := Z0 (by rfl) _
def Z9X := kR Za6
def ZlU := kL Z9X
def ZiG := kB ZlU
def Z4e := kB ZiG
def Z8T := kL Z4e
def ZkP := kL Z8T
def Z0Y := kO ZkP
def Zni := opN Z0Y 0
def Zqw := opN Z0Y 1
def Zo4 := opN Z0Y 2
def Zmm := opN Z0Y 3
def Zoa := opN Z0Y 4
theorem Z01D : XG 16 155 ZkP Z0Y [132, 133, 134, 135, 136] := Z1 (by rfl) (by rfl) _
theorem ZM6 : Z0Y.toList = [Zni, Zqw, Zo4, Zmm, Zoa] := nf
theorem ZKt : stepA E C B 155 Z0Y Zni (φ, H) = some (fput φ 133 (fget φ 11), H) := nf
theorem ZKM : stepA E C B 155 Z0Y Zqw (φ, H) = stp (some 134) φ H (Z3 E.T (B + 134) .len #[22] [(fget φ 133)]) := nf
theorem ZGp : stepA E C B 155 Z0Y Zo4 (φ, H) = some (fput φ 135 (fget φ 9), H) := nf
theorem ZJ4 : stepA E C B 155 Z0Y Zmm (φ, H) = stp (some 136) φ H (Z3 E.T (B + 136) .len #[22] [(fget φ 135)]) := nf
theorem ZHa : stepA E C B 155 Z0Y Zoa (φ, H) = stp (some 137) φ H (just (aBin E.T .lss 3 (fget φ 134) (fget φ 136))) := nf
def ZbG := kR Z8T
def ZBc := kT ZbG
theorem Z03O : execA E C (fg 16) B 155 E0 N ZBc s = some (.normal, s) := Zb (by rfl) s
def ZvC := kE ZbG
theorem ZTM : execA E C (fg 16) B 155 E0 N ZvC s = some (.exit 4, s) := ZP (by rfl) s
theorem Z04Y : XC 16 155 ZbG 137 ZBc ZvC := Z8 (by rfl) _
theorem Z06h : XQ 16 155 Z8T ZkP ZbG := Z0 (by rfl) _
def ZcU := kR Z4e
def ZdF := kB ZcU
def Z1z := kO ZdF
def ZiV := opN Z1z 0
def Zmb := opN Z1z 1
def ZpB := opN Z1z 2
def Zj9 := opN Z1z 3
theorem ZUa : XG 16 155 ZdF Z1z [137, 138, 139, 140] := Z1 (by rfl) (by rfl) _
theorem ZIN : Z1z.toList = [ZiV, Zmb, ZpB, Zj9] := nf
theorem ZGh : stepA E C B 155 Z1z ZiV (φ, H) = some (fput φ 138 (fget φ 11), H) := nf
theorem ZGZ : stepA E C B 155 Z1z Zmb (φ, H) = stp (some 139) φ H (Z9 E.T (B + 139) 22 1 (evO E φ) [(0, Operand.const (Value.int .i64 0))]) := nf
theorem ZJN : stepA E C B 155 Z1z ZpB (φ, H) = stp (some 140) φ H (Z3 E.T (B + 140) .append #[22, 22] [(fget φ 138), (fget φ 139)]) := nf
theorem ZJD : stepA E C B 155 Z1z Zj9 (φ, H) = some (fput φ 11 (fget φ 140), H) := nf
theorem ZQr : execA E C (fg 16) B 155 E0 N ZcU s = blockX 5 (fun s => (forget s.1 [], s.2)) (execA E C (fg 16) B 155 E0 N ZdF s) := Za (by rfl) (by rfl) s
theorem Z05G : XQ 16 155 Z4e Z8T ZcU := Z0 (by rfl) _
theorem Z05x : execA E C (fg 16) B 155 E0 N ZiG s = iterA (execA E C (fg 16) B 155 E0 N Z4e) (headA E0) N s := ZY (by rfl) s
theorem Z05k : execA E C (fg 16) B 155 E0 N ZlU s = blockX 4 (fun s => (forget s.1 [137], s.2)) (execA E C (fg 16) B 155 E0 N ZiG s) := Za (by rfl) (by rfl) s
def Z5G := kR Z9X
def Zcb := kL Z5G
def Z0b := kO Zcb
def Zmj := opN Z0b 0
def Zjn := opN Z0b 1
def Zkw := opN Z0b 2
def ZoD := opN Z0b 3
def Zq3 := opN Z0b 4
def ZjQ := opN Z0b 5
def Zkn := opN Z0b 6
def Zmu := opN Z0b 7
theorem ZYE : XG 16 155 Zcb Z0b [9, 11, 141, 142, 143, 144, 145, 146] := Z1 (by rfl) (by rfl) _
theorem ZGP : Z0b.toList = [Zmj, Zjn, Zkw, ZoD, Zq3, ZjQ, Zkn, Zmu] := nf
theorem ZJ5 : stepA E C B 155 Z0b Zmj (φ, H) = some (fput φ 142 (fget φ 11), H) := nf
theorem ZKb : stepA E C B 155 Z0b Zjn (φ, H) = some (fput φ 143 (fget φ 9), H) := nf
theorem ZLh : stepA E C B 155 Z0b Zkw (φ, H) = stp (some 144) φ H (aCall C (fun j => B + j * 155 + 144) true 27 [(fget φ 142), (fget φ 143)]) := nf
theorem ZKw : stepA E C B 155 Z0b ZoD (φ, H) = some (fput φ 141 (fget φ 144), H) := nf
theorem ZHS : stepA E C B 155 Z0b Zq3 (φ, H) = stp (some 145) φ H (Zm (fget φ 141) 0) := nf
theorem ZIr : stepA E C B 155 Z0b ZjQ (φ, H) = stp (some 146) φ H (Zm (fget φ 141) 1) := nf
theorem ZMN : stepA E C B 155 Z0b Zkn (φ, H) = some (fput φ 19 (fget φ 145), H) := nf
theorem ZIf : stepA E C B 155 Z0b Zmu (φ, H) = some (fput φ 10 (fget φ 146), H) := nf
def Z7y := kR Z5G
def Zdw := kL Z7y
def ZX := kO Zdw
def Znu := opN ZX 0
def ZiH := opN ZX 1
def Z86 := opN ZX 2
def ZqH := opN ZX 3
def Zqe := opN ZX 4
def Z8c := opN ZX 5
def Zlf := opN ZX 6
def Zmf := opN ZX 7
def ZqB := opN ZX 8
theorem ZPB : XG 16 155 Zdw ZX [10, 19, 147, 148, 149, 150, 151, 152, 153, 154] := Z1 (by rfl) (by rfl) _
theorem ZN1 : ZX.toList = [Znu, ZiH, Z86, ZqH, Zqe, Z8c, Zlf, Zmf, ZqB] := nf
theorem ZKN : stepA E C B 155 ZX Znu (φ, H) = some (fput φ 147 (fget φ 10), H) := nf
theorem ZGi : stepA E C B 155 ZX ZiH (φ, H) = stp (some 148) φ H (just (aBin E.T .eql 24 (fget φ 147) (.int .i64 0))) := nf
theorem ZLE : stepA E C B 155 ZX Z86 (φ, H) = some (fput φ 149 (fget φ 148), H) := nf
theorem ZMM : stepA E C B 155 ZX ZqH (φ, H) = gd φ 149 true (fun φ => some (fput φ 150 (.tup []), H)) (fun φ => some (fput φ 150 (fget φ 19), H)) := s_gd (j := 2) (oj := Z86) rfl rfl rfl (fun _ => rfl) (fun _ => rfl)
theorem ZMD : stepA E C B 155 ZX Zqe (φ, H) = stp (some 151) φ H (opPick (fget φ 149) (fget φ 150) (.bool false)) := nf
theorem ZLB : stepA E C B 155 ZX Z8c (φ, H) = some (fput φ 152 (fget φ 151), H) := nf
theorem ZKd : stepA E C B 155 ZX Zlf (φ, H) = gd φ 152 true (fun φ => some (fput φ 153 (.tup []), H)) (fun φ => stp (some 153) φ H (aCall C (fun j => B + j * 155 + 153) true 17 [])) := s_gd (j := 5) (oj := Z8c) rfl rfl rfl (fun _ => rfl) (fun _ => rfl)
theorem ZH2 : stepA E C B 155 ZX Zmf (φ, H) = stp (some 154) φ H (opPick (fget φ 152) (fget φ 153) (.bool false)) := nf
theorem ZLL : stepA E C B 155 ZX ZqB (φ, H) = some (fput φ 4 (fget φ 154), H) := nf
def Zt5 := kR Z7y
theorem ZNS : execA E C (fg 16) B 155 E0 N Zt5 s = some (.ret, s) := Zk (by rfl) s
theorem ZSl : XQ 16 155 Z7y Zdw Zt5 := Z0 (by rfl) _
theorem ZQu : XQ 16 155 Z5G Zcb Z7y := Z0 (by rfl) _
theorem Z05h : XQ 16 155 Z9X ZlU Z5G := Z0 (by rfl) _
theorem Z01P : XQ 16 155 Za6 Z9o Z9X := Z0 (by rfl) _
theorem Z00h : XQ 16 155 Z98 Zn1 Za6 := Z0 (by rfl) _
theorem Z01i : XQ 16 155 Zax Zbj Z98 := Z0 (by rfl) _
theorem Z00s : XQ 16 155 Z8l Za9 Zax := Z0 (by rfl) _
theorem Z02C : XQ 16 155 Zal ZoV Z8l := Z0 (by rfl) _
theorem Z07d : XQ 16 155 Z8U Z9d Zal := Z0 (by rfl) _
theorem Z01v : XQ 16 155 Z9h Z8q Z8U := Z0 (by rfl) _
theorem Z09t : XQ 16 155 Zii Zyt Z9h := Z0 (by rfl) _
theorem Z092 : XQ 16 155 ZhF Zyw Zii := Z0 (by rfl) _
theorem Z07r : XQ 16 155 Zhv ZyQ ZhF := Z0 (by rfl) _
theorem Z090 : XQ 16 155 Zht Zyx Zhv := Z0 (by rfl) _
theorem Z09z : XQ 16 155 Z9s Zzr Zht := Z0 (by rfl) _
theorem Z07y : fInfo E 16 = some ⟨155, #[.tmp 4], Z9s⟩ := nf
theorem b_16 (args : List AV) : bodyA E C fg N 16 args H B = bodyX E [.tmp 4] (execA E C (fg 16) B 155 H N Z9s (Z5 args 0 [], H)) := Zo Z07y args H
abbrev F_16 := And.intro (And.intro (And.intro (And.intro (And.intro (And.intro (And.intro (And.intro @Z0ag @ZY7) (And.intro @ZWX @ZT9)) (And.intro (And.intro @Z0ay @ZQQ) (And.intro @ZRi (And.intro @ZZ1 @ZQo)))) (And.intro (And.intro (And.intro @Z09o @ZTd) (And.intro @ZWw (And.intro @ZYj @ZPY))) (And.intro (And.intro @ZU0 @ZRd) (And.intro @ZTZ (And.intro @ZQH @Z08Y))))) (And.intro (And.intro (And.intro (And.intro @Z00f @ZTI) (And.intro @ZQq @ZVW)) (And.intro (And.intro @ZZa @ZZA) (And.intro @ZOC (And.intro @ZTQ @ZP9)))) (And.intro (And.intro (And.intro @ZVy @Z0b4) (And.intro @ZRO (And.intro @ZUY @ZTP))) (And.intro (And.intro @ZVS @ZUH) (And.intro @ZVJ (And.intro @ZVP @ZVw)))))) (And.intro (And.intro (And.intro (And.intro (And.intro @Z05c @ZV5) (And.intro @ZQ4 @ZY6)) (And.intro (And.intro @ZUk @ZPA) (And.intro @Z064 (And.intro @ZWG @ZUM)))) (And.intro (And.intro (And.intro @ZO8 @ZRy) (And.intro @ZVv (And.intro @ZTE @ZZx))) (And.intro (And.intro @ZRc @ZT5) (And.intro @ZZ3 (And.intro @ZZm @ZGd))))) (And.intro (And.intro (And.intro (And.intro @Z043 @Z00Y) (And.intro @Z04v @Z01A)) (And.intro (And.intro @Z052 @Z04O) (And.intro @ZVj (And.intro @ZTw @ZRD)))) (And.intro (And.intro (And.intro @ZXt @ZS9) (And.intro @Z050 (And.intro @ZQJ @ZWJ))) (And.intro (And.intro @ZOe @ZOU) (And.intro @ZP2 (And.intro @ZQK @ZVG))))))) (And.intro (And.intro (And.intro (And.intro (And.intro (And.intro @ZZh @ZQp) (And.intro @ZQx @ZRJ)) (And.intro (And.intro @ZKq @Z04S) (And.intro @Z06Y (And.intro @Z02w @Z03s)))) (And.intro (And.intro (And.intro @Z04W @Z01u) (And.intro @ZWh (And.intro @ZZd @ZRI))) (And.intro (And.intro @ZUS @ZTj) (And.intro @ZV6 (And.intro @ZU9 @ZTb))))) (And.intro (And.intro (And.intro (And.intro @Z024 @ZLA) (And.intro @ZIX @ZLo)) (And.intro (And.intro @ZJj @ZIG) (And.intro @ZHg (And.intro @ZIg @ZI9)))) (And.intro (And.intro (And.intro @ZMk @ZHJ) (And.intro @ZJB (And.intro @ZFR @ZEi))) (And.intro (And.intro @ZFP @ZDl) (And.intro @ZAY (And.intro @ZE8 @ZDh)))))) (And.intro (And.intro (And.intro (And.intro (And.intro @ZDQ @ZD7) (And.intro @ZE5 @ZAU)) (And.intro (And.intro @ZD0 @Z03q) (And.intro @ZJr (And.intro @ZGR @Z05Y)))) (And.intro (And.intro (And.intro @Z03Z @Z013) (And.intro @Z014 (And.intro @Z075 @Z01g))) (And.intro (And.intro @ZJi @ZIY) (And.intro @ZGL (And.intro @ZHY @Z03M))))) (And.intro (And.intro (And.intro (And.intro @ZNy @ZNc) (And.intro @Z02S @Z02O)) (And.intro (And.intro @Z05Q @Z05Z) (And.intro @ZL4 (And.intro @ZGr @ZI3)))) (And.intro (And.intro (And.intro @ZN8 @ZId) (And.intro @ZL5 (And.intro @Z00H @ZMe))) (And.intro (And.intro @ZKh @Z070) (And.intro @ZIE (And.intro @ZK0 @ZIV)))))))) (And.intro (And.intro (And.intro (And.intro (And.intro (And.intro (And.intro @ZJy @Z058) (And.intro @ZJ2 @ZGk)) (And.intro (And.intro @Z05j @Z05p) (And.intro @Z03Q (And.intro @Z01l @ZJW)))) (And.intro (And.intro (And.intro @ZM3 @ZGA) (And.intro @ZIC (And.intro @Z03e @ZKE))) (And.intro (And.intro @ZIH @ZHW) (And.intro @ZH0 (And.intro @Z04j @ZN5))))) (And.intro (And.intro (And.intro (And.intro @ZLu @ZM7) (And.intro @ZGo @Z04d)) (And.intro (And.intro @Z02J @Z00X) (And.intro @Z06u (And.intro @Z00N @Z03g)))) (And.intro (And.intro (And.intro @ZHc @ZMS) (And.intro @ZJY (And.intro @Z062 @Z02h))) (And.intro (And.intro @Z06n @Z069) (And.intro @Z06j (And.intro @Z00E @Z049)))))) (And.intro (And.intro (And.intro (And.intro (And.intro @ZGS @ZJw) (And.intro @ZHQ @ZKu)) (And.intro (And.intro @Z03a @ZGg) (And.intro @ZNa (And.intro @Z00B @Z04o)))) (And.intro (And.intro (And.intro @Z015 @Z06l) (And.intro @Z03P (And.intro @Z04f @Z06i))) (And.intro (And.intro @Z04E @Z02k) (And.intro @Z00U (And.intro @ZNu @ZLX))))) (And.intro (And.intro (And.intro (And.intro @ZGH @Z00j) (And.intro @Z05N @Z05M)) (And.intro (And.intro @Z00w @Z05F) (And.intro @Z041 (And.intro @Z07g @ZGN)))) (And.intro (And.intro (And.intro @ZHO @ZKJ) (And.intro @ZNt (And.intro @ZK3 @ZMy))) (And.intro (And.intro @ZMi @ZHp) (And.intro @Z07b (And.intro @ZGq @ZME))))))) (And.intro (And.intro (And.intro (And.intro (And.intro (And.intro @ZHi @ZLH) (And.intro @ZHV @ZKB)) (And.intro (And.intro @ZMP @ZHz) (And.intro @ZMl (And.intro @ZLR @ZN3)))) (And.intro (And.intro (And.intro @Z01h @ZJz) (And.intro @ZJt (And.intro @Z02o @Z06x))) (And.intro (And.intro @Z02U @Z05w) (And.intro @Z01C (And.intro @Z01D @ZM6))))) (And.intro (And.intro (And.intro (And.intro @ZKt @ZKM) (And.intro @ZGp @ZJ4)) (And.intro (And.intro @ZHa @Z03O) (And.intro @ZTM (And.intro @Z04Y @Z06h)))) (And.intro (And.intro (And.intro @ZUa @ZIN) (And.intro @ZGh (And.intro @ZGZ @ZJN))) (And.intro (And.intro @ZJD @ZQr) (And.intro @Z05G (And.intro @Z05x @Z05k)))))) (And.intro (And.intro (And.intro (And.intro (And.intro @ZYE @ZGP) (And.intro @ZJ5 @ZKb)) (And.intro (And.intro @ZLh @ZKw) (And.intro @ZHS (And.intro @ZIr @ZMN)))) (And.intro (And.intro (And.intro @ZIf @ZPB) (And.intro @ZN1 (And.intro @ZKN @ZGi))) (And.intro (And.intro @ZLE @ZMM) (And.intro @ZMD (And.intro @ZLB @ZKd))))) (And.intro (And.intro (And.intro (And.intro @ZH2 @ZLL) (And.intro @ZNS @ZSl)) (And.intro (And.intro @ZQu @Z05h) (And.intro @Z01P (And.intro @Z00h @Z01i)))) (And.intro (And.intro (And.intro @Z00s @Z02C) (And.intro @Z07d (And.intro @Z01v @Z09t))) (And.intro (And.intro @Z092 @Z07r) (And.intro @Z090 (And.intro @Z09z @b_16))))))))
end Go.AM.Ytfmnoohhhokicaa
end
noncomputable section
namespace Go.AM.Ytfmnoohhhokicaa
open Go Go.AM Go.AM.Rub
def turE (l : List Int) : Int := if chkR l ≠ 0 then chkR l else if rowF l 0 = 0 then 21 else if rowF l 0 > 6 then 3 else 0
def turL (l : List Int) : List Int := cnjL l (rowF l 0).toNat
theorem ZA1 {d : Nat} {l : List Int} {a : AV} (ha : IV l a) (hl : l.length ≤ 1000) :
   (turE l ≠ 0 ∧ ∃ H, bodyA E (kF (d + 1)) fg 1000000 52 [a] [] 0 = some (.tup [.nilsl, .int .i64 (turE l)], H)) ∨
   (turE l = 0 ∧ ∃ H, bodyA E (kF (d + 1)) fg 1000000 52 [a] [] 0 = some (.tup [.ref 25 0 (turL l).length (turL l).length (turL l).length 1 false, .int .i64 0], H) ∧ hget H 25 = some ⟨.row, ics (turL l)⟩) := by
 have hc := fun (site : Nat → Nat) seen => Z4M (d := d) (site := site) (seen := seen) ha hl
 have sn := Z4c ha
 unfold turE
 by_cases h0 : chkR l = 0
 · obtain ⟨hp, h6, hr⟩ := Z0O.1 h0
   rw [if_neg (fun e => e h0)]
   obtain ⟨ex, rfl⟩ := ZbO ha hp
   have a0 := Zz (l := l) (k := 0) hp
   have hln := Z4 l
   have b0 := rw_b hr (k := 0) hp
   have g0 : (0 : Int) < (l.length : Int) := by omega
   rw [h0] at hc
   by_cases c1 : rowF l 0 = 0
   · rw [if_pos c1]
     refine .inl ⟨by decide, ?_⟩
     rw [c1] at a0
     generalize kF (d + 1) = C at *
     simp (disch := omega) only [ZF, Z5, stp, just, Rd.bind, Rd.run, Rd.opt, upds, tsz, rdCells, aLoad, resA, resL, Z2, aNum, aBin, aInt, Nat.reduceLT, Nat.reduceBEq, Nat.reduceEqDiff, Nat.reduceLeDiff, ↓reduceIte, reduceCtorEq, aCall, snaps, Int.reduceLE, Int.reduceToNat, ZT, F_52, hc, hln, a0, g0]
     exact ⟨_, rfl⟩
   · rw [if_neg c1]
     have c1' : (rowF l 0 == 0) = false := by rw [beq_eq_false_iff_ne]; exact c1
     by_cases c2 : rowF l 0 > 6
     · rw [if_pos c2]
       refine .inl ⟨by decide, ?_⟩
       generalize kF (d + 1) = C at *
       generalize rowF l 0 = v at *
       simp (disch := omega) only [ZF, Z5, stp, just, Rd.bind, Rd.run, Rd.opt, upds, tsz, rdCells, aLoad, resA, resL, Z2, aNum, aBin, aInt, Nat.reduceLT, Nat.reduceBEq, Nat.reduceEqDiff, Nat.reduceLeDiff, ↓reduceIte, reduceCtorEq, aCall, snaps, Int.reduceLE, Int.reduceToNat, ZT, F_52, hc, hln, a0, g0, c1', c2]
       exact ⟨_, rfl⟩
     · rw [if_neg c2]
       refine .inr ⟨rfl, ?_⟩
       unfold turL
       obtain ⟨m, hm⟩ : ∃ m : Nat, rowF l 0 = m := ⟨(rowF l 0).toNat, by omega⟩
       rw [hm] at a0 c1 c1' c2 ⊢
       rw [Int.toNat_natCast, Zd]
       have ht := fun (site : Nat → Nat) seen x => ZqS (d := d) (site := site) (seen := seen) (m := m) (x := x) (rfl : l.length = l.length) (by omega) (by omega)
       generalize kF (d + 1) = C at *
       simp (disch := omega) only [ZF, Z5, stp, just, Rd.bind, Rd.run, Rd.opt, upds, tsz, rdCells, aLoad, resA, resL, Z2, aNum, aBin, aInt, Nat.reduceLT, Nat.reduceBEq, Nat.reduceEqDiff, Nat.reduceLeDiff, ↓reduceIte, reduceCtorEq, aCall, snaps, Int.reduceLE, Int.reduceToNat, ZT, F_52, hc, hln, a0, g0, c1', c2, ht]
       exact ⟨_, rfl, rfl⟩
 · rw [if_pos h0]
   refine .inl ⟨h0, ?_⟩
   generalize kF (d + 1) = C at *
   generalize chkR l = z at *
   have h0' : (z == 0) = false := by rw [beq_eq_false_iff_ne]; exact h0
   simp (disch := omega) only [ZF, Z5, stp, just, Rd.bind, Rd.run, Rd.opt, upds, tsz, resA, resL, Z2, aNum, aBin, aInt, Nat.reduceBEq, Nat.reduceEqDiff, Nat.reduceLeDiff, ↓reduceIte, reduceCtorEq, aCall, snaps, Int.reduceLE, Int.reduceToNat, ZT, F_52, hc, h0, sn 198]
   exact ⟨_, rfl⟩
theorem Z5c {d : Nat} {l : List Int} {a : AV} (ha : IV l a) (hl : l.length ≤ 1000) : RL (kF (d + 2)) 52 [a] (turE l) (turL l) := by
 refine Z07F (n := (turL l).length) ?_ rfl
 rcases ZA1 (d := d) ha hl with ⟨h, H, h1⟩ | ⟨h, H, h1, h2⟩
 · exact .inl ⟨h, H, by rw [Z0H rfl]; exact h1⟩
 · exact .inr ⟨h, 25, H, by rw [Z0H rfl]; exact h1, h2⟩
theorem Zki (caps args : List AV) : mutV E (.clo 77 caps) args = none := rfl
theorem Zdd {d : Nat} {site : Nat → Nat} {seen : List Nat} {u : Int} : aBack site true seen (thaw (kF (d + 1)) 77 [.int .i64 u] [] 0) = .pure (.bool (decide (u = 0)), []) := by
 refine Z1m (Z1Z rfl ?_)
 generalize kF d = C at *
 by_cases h : u = 0
 · rw [decide_eq_true h]; subst h
   simp (disch := omega) only [ZF, Z5, stp, just, Rd.bind, Rd.run, Rd.opt, upds, resA, resL, aBin, aInt, Nat.reduceBEq, Nat.reduceEqDiff, Nat.reduceLeDiff, ↓reduceIte, reduceCtorEq, F_77]
 · rw [decide_eq_false h]
   have h' : (u == 0) = false := by rw [beq_eq_false_iff_ne]; exact h
   simp (disch := omega) only [ZF, Z5, stp, just, Rd.bind, Rd.run, Rd.opt, upds, resA, resL, aBin, aInt, Nat.reduceBEq, Nat.reduceEqDiff, Nat.reduceLeDiff, ↓reduceIte, reduceCtorEq, F_77, h']
abbrev izS (l : List Int) (n : Nat) (x : Bool) (i : Nat) : St := ([(8, .int .i64 i), (7, .int .i64 n), (1, .clo 77 []), (0, .imm (ics l) n x)], [])
theorem Z04t {d : Nat} {l : List Int} {n k : Nat} {x : Bool} (hl : l.length = n) (h6 : n ≤ 8) (hk : k ≤ n) (h1 : ∀ i, i < k → rowF l i ≠ 0) (h2 : k < n → rowF l k = 0) :
   rsOf (bodyA E (kF (d + 1)) fg 1000000 113 [.imm (ics l) n x, .clo 77 []] [] 0) = some (.int .i64 (if k < n then (k : Int) else -1)) := by
 have hlen : (ics l).length = n := by rw [Z4, hl]
 have hgo : ∀ i, i < k → ∃ s', execA E (kF (d + 1)) (fg 113) 0 19 [] 1000000 Z3z (izS l n x i) = some (.normal, s') ∧ headA [] s' = izS l n x (i + 1) := by
   intro i hi
   have a1 := Zz (l := l) (k := i) (by omega)
   have hcl := fun (site : Nat → Nat) seen => Zdd (d := d) (site := site) (seen := seen) (u := rowF l i)
   rw [decide_eq_false (h1 i hi)] at hcl
   have g1 : (i : Int) < n := by omega
   clear h1 h2
   generalize rowF l i = u at *
   generalize kF (d + 1) = C at *
   simp (disch := omega) only [ZF, stp, just, Rd.bind, Rd.run, Rd.opt, upds, tsz, rdCells, aLoad, Z2, aNum, aBin, aInt, Nat.reduceMul, Nat.reduceLT, Nat.reduceBEq, Nat.reduceEqDiff, Nat.reduceLeDiff, ↓reduceIte, reduceCtorEq, aCall, snaps, opCallV, ZT, Z8S, izS, hlen, Z3r (Zki _ _), ZhO, a1, hcl, g1, Zn (show i < 1000000 by omega)]
   exact ⟨_, rfl, rfl⟩
 by_cases hlt : k < n
 · rw [if_pos hlt]
   have hloop := loopM (f := execA E (kF (d + 1)) (fg 113) 0 19 [] 1000000 Z3z) (E0 := []) (izS l n x) k (fun i hi => hgo i hi) rfl (by omega) (e := .ret) (se := ([(4, .int .i64 k)], []))
     (by
       have a1 := Zz (l := l) (k := k) (by omega)
       have hcl := fun (site : Nat → Nat) seen => Zdd (d := d) (site := site) (seen := seen) (u := rowF l k)
       rw [decide_eq_true (h2 hlt)] at hcl
       have g1 : (k : Int) < n := by omega
       clear h1 h2 hgo
       generalize rowF l k = u at *
       generalize kF (d + 1) = C at *
       simp (disch := omega) only [ZF, stp, just, Rd.bind, Rd.run, Rd.opt, upds, tsz, rdCells, aLoad, Z2, aNum, aBin, aInt, Nat.reduceMul, Nat.reduceLT, Nat.reduceBEq, Nat.reduceEqDiff, Nat.reduceLeDiff, ↓reduceIte, reduceCtorEq, aCall, snaps, opCallV, ZT, Z8S, izS, hlen, Z3r (Zki _ _), ZhO, a1, hcl, g1]) (by simp)
   simp only [izS, cl0] at hloop
   clear h1 h2 hgo
   generalize kF (d + 1) = C at *
   simp (disch := omega) only [ZF, Z5, stp, just, Rd.bind, Rd.run, upds, resA, resL, aLen, Z3, Nat.reduceBEq, Nat.reduceEqDiff, Nat.reduceLeDiff, ↓reduceIte, reduceCtorEq, ZT, Z8S, hloop]
 · rw [if_neg hlt]
   have e : k = n := by omega
   subst e
   have hloop := loopM (f := execA E (kF (d + 1)) (fg 113) 0 19 [] 1000000 Z3z) (E0 := []) (izS l k x) k (fun i hi => hgo i hi) rfl (by omega) (e := .exit 0) (se := ([(9, .bool false), (8, .int .i64 k), (7, .int .i64 k), (1, .clo 77 []), (0, .imm (ics l) k x)], []))
     (by
       clear h1 h2 hgo
       generalize kF (d + 1) = C at *
       simp (disch := omega) only [ZF, stp, just, Rd.bind, Rd.run, Rd.opt, upds, aBin, aInt, Nat.reduceEqDiff, Nat.reduceLeDiff, ↓reduceIte, Z8S, izS]) (by simp)
   simp only [izS, cl0] at hloop
   clear h1 h2 hgo
   generalize kF (d + 1) = C at *
   simp (disch := omega) only [ZF, Z5, stp, just, Rd.bind, Rd.run, upds, resA, resL, aLen, Z3, Nat.reduceBEq, Nat.reduceEqDiff, Nat.reduceLeDiff, Int.reduceNeg, ↓reduceIte, reduceCtorEq, ZT, Z8S, hloop]
theorem ZXL {d : Nat} {site : Nat → Nat} {seen : List Nat} {l : List Int} {n k : Nat} {x : Bool} (hl : l.length = n) (h6 : n ≤ 8) (hk : k ≤ n) (h1 : ∀ i, i < k → rowF l i ≠ 0) (h2 : k < n → rowF l k = 0) :
   aBack site true seen (thaw (kF (d + 2)) 113 [.imm (ics l) n x, .clo 77 []] [] 0) = .pure (.int .i64 (if k < n then (k : Int) else -1), []) :=
 Z1P (Z1Z rfl (Z04t hl h6 hk h1 h2))
end Go.AM.Ytfmnoohhhokicaa
end
end
