/- A part of the proof of rubMuirhead_holds: RnM. Own work of this project; texts printed by own programs among it. -/
import Derived.KernelRfl
import Derived.Test.YtfmnoohhhokicaaQvL
set_option maxRecDepth 1000000
set_option maxHeartbeats 16000000
noncomputable section
noncomputable section
namespace Go.AM.Ytfmnoohhhokicaa
open Go Go.AM
variable {C : Callee} {B N : Nat} {E0 : AHeap} (φ : AFr) (H : AHeap) (s : St)
def ZaF := kBody Proofs.Try.f10
def ZEC := kL ZaF
def Z7y := kO ZEC
def ZBX := opN Z7y 0
def Zwu := opN Z7y 1
theorem Z0nn : XG 10 201 ZEC Z7y [0, 2] := Z1 (by rfl) (by rfl) _
theorem ZYy : Z7y.toList = [ZBX, Zwu] := nf
theorem Z02z : stepA E C B 201 Z7y ZBX (φ, H) = stp (some 1) φ H (opBox (B + 1) (acells (fget φ 0))) := nf
theorem ZZE : stepA E C B 201 Z7y Zwu (φ, H) = some (fput φ 2 (.bool false), H) := nf
def Zkx := kR ZaF
def ZGc := kL Zkx
def Z4t := kO ZGc
def ZAX := opN Z4t 0
def ZE0 := opN Z4t 1
def ZuW := opN Z4t 2
theorem Z0n8 : XG 10 201 ZGc Z4t [1, 20, 21] := Z1 (by rfl) (by rfl) _
theorem Z03S : Z4t.toList = [ZAX, ZE0, ZuW] := nf
theorem ZZg : stepA E C B 201 Z4t ZAX (φ, H) = stp (some 20) φ H (just (aLoad E.T 49 (fget φ 1))) := nf
theorem Z04Q : stepA E C B 201 Z4t ZE0 (φ, H) = stp (some 21) φ H (aCall C (fun j => B + j * 201 + 21) true 56 [(fget φ 20), (.int .i64 6), (.int .i64 6)]) := nf
theorem Z03b : stepA E C B 201 Z4t ZuW (φ, H) = some (fput φ 3 (fget φ 21), H) := nf
def ZkU := kR Zkx
def ZFM := kL ZkU
def Z19 := kO ZFM
def ZB8 := opN Z19 0
def ZAJ := opN Z19 1
def ZDx := opN Z19 2
def ZDk := opN Z19 3
def ZC1 := opN Z19 4
def Zw5 := opN Z19 5
def ZzX := opN Z19 6
theorem Z0oI : XG 10 201 ZFM Z19 [22, 23, 24, 25, 26] := Z1 (by rfl) (by rfl) _
theorem ZZ6 : Z19.toList = [ZB8, ZAJ, ZDx, ZDk, ZC1, Zw5, ZzX] := nf
theorem Z08B : stepA E C B 201 Z19 ZB8 (φ, H) = some (fput φ 23 (fget φ 3), H) := nf
theorem Z04x : stepA E C B 201 Z19 ZAJ (φ, H) = stp (some 24) φ H (aCall C (fun j => B + j * 201 + 24) true 63 [(fget φ 23)]) := nf
theorem Z08D : stepA E C B 201 Z19 ZDx (φ, H) = some (fput φ 22 (fget φ 24), H) := nf
theorem Z04h : stepA E C B 201 Z19 ZDk (φ, H) = stp (some 25) φ H (Zd (fget φ 22) 0) := nf
theorem Z07N : stepA E C B 201 Z19 ZC1 (φ, H) = stp (some 26) φ H (Zd (fget φ 22) 1) := nf
theorem ZXn : stepA E C B 201 Z19 Zw5 (φ, H) = some (fput φ 4 (fget φ 25), H) := nf
theorem ZXb : stepA E C B 201 Z19 ZzX (φ, H) = some (fput φ 5 (fget φ 26), H) := nf
def Zkw := kR ZkU
def ZFv := kL Zkw
def ZjT := kO ZFv
def ZDO := opN ZjT 0
theorem Z0o1 : XG 10 201 ZFv ZjT [] := Z1 (by rfl) (by rfl) _
theorem Z0bJ : ZjT.toList = [ZDO] := nf
theorem ZXN : stepA E C B 201 ZjT ZDO (φ, H) = some (fput φ 6 (.nilsl), H) := nf
def Zjc := kR Zkw
def Zka := kL Zjc
def Zps := kL Zka
def Z1b := kO Zps
def ZDi := opN Z1b 0
def ZDE := opN Z1b 1
def ZAw := opN Z1b 2
def Zvw := opN Z1b 3
def ZvK := opN Z1b 4
def Zyr := opN Z1b 5
def Zy8 := opN Z1b 6
theorem Z0jo : XG 10 201 Zps Z1b [27, 28, 29, 30] := Z1 (by rfl) (by rfl) _
theorem Z00S : Z1b.toList = [ZDi, ZDE, ZAw, Zvw, ZvK, Zyr, Zy8] := nf
theorem Z01y : stepA E C B 201 Z1b ZDi (φ, H) = some (fput φ 27 (fget φ 3), H) := nf
theorem Z016 : stepA E C B 201 Z1b ZDE (φ, H) = stp (some 28) φ H (Z3 E.T (B + 28) .len #[22] [(fget φ 27)]) := nf
theorem ZXr : stepA E C B 201 Z1b ZAw (φ, H) = some (fput φ 29 (fget φ 3), H) := nf
theorem Z085 : stepA E C B 201 Z1b Zvw (φ, H) = stp (some 30) φ H (aCall C (fun j => B + j * 201 + 30) true 58 [(fget φ 29)]) := nf
theorem Z0ay : stepA E C B 201 Z1b ZvK (φ, H) = stp (some 31) φ H (aCall C (fun j => B + j * 201 + 31) true 59 [(fget φ 28), (fget φ 30)]) := nf
theorem Z02o : stepA E C B 201 Z1b Zyr (φ, H) = stp (some 32) φ H (Z3 E.T (B + 32) .len #[39] [(fget φ 31)]) := nf
theorem Z08v : stepA E C B 201 Z1b Zy8 (φ, H) = some (fput φ 33 (.int .i64 0), H) := nf
def Zst := kR Zka
def Zqj := kB Zst
def Z3q := kB Zqj
def Ztc := kL Z3q
def Zkv := kO Ztc
def ZDB := opN Zkv 0
theorem Z0ks : XG 10 201 Ztc Zkv [] := Z1 (by rfl) (by rfl) _
theorem Z0bC : Zkv.toList = [ZDB] := nf
theorem Z09y : stepA E C B 201 Zkv ZDB (φ, H) = stp (some 34) φ H (just (aBin E.T .lss 3 (fget φ 33) (fget φ 32))) := nf
def Z9H := kR Z3q
def ZaI := kL Z9H
def ZIQ := kT ZaI
theorem Z0jY : execA E C (fg 10) B 201 E0 N ZIQ s = some (.normal, s) := Zh (by rfl) s
def ZLm := kE ZaI
theorem Z0gm : execA E C (fg 10) B 201 E0 N ZLm s = some (.exit 0, s) := ZW (by rfl) s
theorem Z0jP : XC 10 201 ZaI 34 ZIQ ZLm := Zf (by rfl) _
def Z9A := kR Z9H
def Zom := kL Z9A
def ZaG := kB Zom
def ZpQ := kL ZaG
def Z2Z := kO ZpQ
def ZuZ := opN Z2Z 0
def ZAy := opN Z2Z 1
def Zy0 := opN Z2Z 2
def ZBT := opN Z2Z 3
theorem Z0ec : XG 10 201 ZpQ Z2Z [34, 35, 36] := Z1 (by rfl) (by rfl) _
theorem Z076 : Z2Z.toList = [ZuZ, ZAy, Zy0, ZBT] := nf
theorem Z05P : stepA E C B 201 Z2Z ZuZ (φ, H) = stp (some 35) φ H (just (Z4 E.T 39 (fget φ 31) (fget φ 33))) := nf
theorem Z04Y : stepA E C B 201 Z2Z ZAy (φ, H) = stp (some 36) φ H (just (aLoad E.T 22 (fget φ 35))) := nf
theorem ZXv : stepA E C B 201 Z2Z Zy0 (φ, H) = stp (some 8) φ H (opBox (B + 8) (zeroCells E.T 22)) := nf
theorem Z02c : stepA E C B 201 Z2Z ZBT (φ, H) = stp none φ H (opStore E.T 22 (fget φ 8) (fget φ 36)) := nf
def ZcH := kR ZaG
def Zp5 := kL ZcH
def Z2Y := kO Zp5
def Zwp := opN Z2Y 0
def ZDd := opN Z2Y 1
def ZB4 := opN Z2Y 2
def ZBl := opN Z2Y 3
theorem Z0fm : XG 10 201 Zp5 Z2Y [37, 38, 39] := Z1 (by rfl) (by rfl) _
theorem Z070 : Z2Y.toList = [Zwp, ZDd, ZB4, ZBl] := nf
theorem Z08P : stepA E C B 201 Z2Y Zwp (φ, H) = some (fput φ 37 (fget φ 4), H) := nf
theorem Z01Q : stepA E C B 201 Z2Y ZDd (φ, H) = stp (some 38) φ H (.pure (.clo 65 [(fget φ 8)], [])) := nf
theorem Z08Y : stepA E C B 201 Z2Y ZB4 (φ, H) = stp (some 39) φ H (aCall C (fun j => B + j * 201 + 39) true 64 [(fget φ 37), (fget φ 38)]) := nf
theorem ZZL : stepA E C B 201 Z2Y ZBl (φ, H) = some (fput φ 9 (fget φ 39), H) := nf
def ZaH := kR ZcH
def Zne := kL ZaH
def Z0Q := kO Zne
def ZBm := opN Z0Q 0
def Zwe := opN Z0Q 1
def Zzg := opN Z0Q 2
def ZA8 := opN Z0Q 3
def ZyP := opN Z0Q 4
def ZDV := opN Z0Q 5
def ZAM := opN Z0Q 6
def Zve := opN Z0Q 7
theorem Z0ki : XG 10 201 Zne Z0Q [40, 41, 42, 43, 44, 45] := Z1 (by rfl) (by rfl) _
theorem Z0cj : Z0Q.toList = [ZBm, Zwe, Zzg, ZA8, ZyP, ZDV, ZAM, Zve] := nf
theorem Z00T : stepA E C B 201 Z0Q ZBm (φ, H) = some (fput φ 41 (fget φ 3), H) := nf
theorem Z0bZ : stepA E C B 201 Z0Q Zwe (φ, H) = stp (some 42) φ H (just (aLoad E.T 22 (fget φ 8))) := nf
theorem Z09t : stepA E C B 201 Z0Q Zzg (φ, H) = stp (some 43) φ H (aCall C (fun j => B + j * 201 + 43) true 27 [(fget φ 41), (fget φ 42)]) := nf
theorem Z07W : stepA E C B 201 Z0Q ZA8 (φ, H) = some (fput φ 40 (fget φ 43), H) := nf
theorem Z07G : stepA E C B 201 Z0Q ZyP (φ, H) = stp (some 44) φ H (Zd (fget φ 40) 0) := nf
theorem Z0aL : stepA E C B 201 Z0Q ZDV (φ, H) = stp (some 45) φ H (Zd (fget φ 40) 1) := nf
theorem Z03W : stepA E C B 201 Z0Q ZAM (φ, H) = some (fput φ 10 (fget φ 44), H) := nf
theorem Z05L : stepA E C B 201 Z0Q Zve (φ, H) = some (fput φ 11 (fget φ 45), H) := nf
def Z9T := kR ZaH
def Zpd := kL Z9T
def Z0O := kO Zpd
def Zvl := opN Z0O 0
def ZxH := opN Z0O 1
def ZAI := opN Z0O 2
def ZBe := opN Z0O 3
def ZB5 := opN Z0O 4
def ZAx := opN Z0O 5
def ZDj := opN Z0O 6
def ZvO := opN Z0O 7
theorem Z0jd : XG 10 201 Zpd Z0O [46, 47, 48, 49, 50, 51] := Z1 (by rfl) (by rfl) _
theorem Z09W : Z0O.toList = [Zvl, ZxH, ZAI, ZBe, ZB5, ZAx, ZDj, ZvO] := nf
theorem Z052 : stepA E C B 201 Z0O Zvl (φ, H) = some (fput φ 47 (fget φ 3), H) := nf
theorem Z08K : stepA E C B 201 Z0O ZxH (φ, H) = stp (some 48) φ H (just (aLoad E.T 22 (fget φ 8))) := nf
theorem Z08n : stepA E C B 201 Z0O ZAI (φ, H) = stp (some 49) φ H (aCall C (fun j => B + j * 201 + 49) true 31 [(fget φ 47), (fget φ 48)]) := nf
theorem Z07d : stepA E C B 201 Z0O ZBe (φ, H) = some (fput φ 46 (fget φ 49), H) := nf
theorem Z08y : stepA E C B 201 Z0O ZB5 (φ, H) = stp (some 50) φ H (Zd (fget φ 46) 0) := nf
theorem Z03M : stepA E C B 201 Z0O ZAx (φ, H) = stp (some 51) φ H (Zd (fget φ 46) 1) := nf
theorem ZZa : stepA E C B 201 Z0O ZDj (φ, H) = some (fput φ 12 (fget φ 50), H) := nf
theorem ZYU : stepA E C B 201 Z0O ZvO (φ, H) = some (fput φ 13 (fget φ 51), H) := nf
def Zbh := kR Z9T
def Zud := kL Zbh
def Z0r := kO Zud
def ZoX := opN Z0r 0
def Zn2 := opN Z0r 1
def ZsV := opN Z0r 2
def ZlS := opN Z0r 3
def Zpe := opN Z0r 4
def ZlT := opN Z0r 5
def Zty := opN Z0r 6
def ZqT := opN Z0r 7
theorem Z0ge : XG 10 201 Zud Z0r [52, 53, 54, 55, 56, 57] := Z1 (by rfl) (by rfl) _
theorem ZQW : Z0r.toList = [ZoX, Zn2, ZsV, ZlS, Zpe, ZlT, Zty, ZqT] := nf
theorem ZVF : stepA E C B 201 Z0r ZoX (φ, H) = some (fput φ 53 (fget φ 3), H) := nf
theorem ZWw : stepA E C B 201 Z0r Zn2 (φ, H) = stp (some 54) φ H (just (aLoad E.T 22 (fget φ 8))) := nf
theorem ZRz : stepA E C B 201 Z0r ZsV (φ, H) = stp (some 55) φ H (aCall C (fun j => B + j * 201 + 55) true 29 [(fget φ 53), (fget φ 54)]) := nf
theorem ZUr : stepA E C B 201 Z0r ZlS (φ, H) = some (fput φ 52 (fget φ 55), H) := nf
theorem ZUZ : stepA E C B 201 Z0r Zpe (φ, H) = stp (some 56) φ H (Zd (fget φ 52) 0) := nf
theorem ZUe : stepA E C B 201 Z0r ZlT (φ, H) = stp (some 57) φ H (Zd (fget φ 52) 1) := nf
theorem ZTW : stepA E C B 201 Z0r Zty (φ, H) = some (fput φ 14 (fget φ 56), H) := nf
theorem ZP1 : stepA E C B 201 Z0r ZqT (φ, H) = some (fput φ 15 (fget φ 57), H) := nf
def Z9G := kR Zbh
def Zbi := kL Z9G
def ZoG := kL Zbi
def ZB := kO ZoG
def Zs8 := opN ZB 0
def Zt9 := opN ZB 1
def Z2f := opN ZB 2
def Zmy := opN ZB 3
def ZlK := opN ZB 4
def Zm7 := opN ZB 5
def ZmO := opN ZB 6
def Zm6 := opN ZB 7
def ZoD := opN ZB 8
def Z2I := opN ZB 9
def Zf7 := opN ZB 10
def Zh5 := opN ZB 11
def Zhg := opN ZB 12
def ZhP := opN ZB 13
def ZiQ := opN ZB 14
theorem Z0e3 : XG 10 201 ZoG ZB [11, 58, 59, 60, 61, 62, 63, 64, 65, 66, 67, 68, 69, 70, 71] := Z1 (by rfl) (by rfl) _
theorem ZQ8 : ZB.toList = [Zs8, Zt9, Z2f, Zmy, ZlK, Zm7, ZmO, Zm6, ZoD, Z2I, Zf7, Zh5, Zhg, ZhP, ZiQ] := nf
theorem ZVn : stepA E C B 201 ZB Zs8 (φ, H) = some (fput φ 58 (fget φ 11), H) := nf
theorem ZWO : stepA E C B 201 ZB Zt9 (φ, H) = stp (some 59) φ H (just (aBin E.T .neq 24 (fget φ 58) (.int .i64 0))) := nf
theorem ZW2 : stepA E C B 201 ZB Z2f (φ, H) = some (fput φ 60 (fget φ 59), H) := nf
theorem ZOS : stepA E C B 201 ZB Zmy (φ, H) = gd φ 60 false (fun φ => some (fput φ 61 (.tup []), H)) (fun φ => some (fput φ 61 (fget φ 10), H)) := s_gd (j := 2) (oj := Z2f) rfl rfl rfl (fun _ => rfl) (fun _ => rfl)
theorem ZUJ : stepA E C B 201 ZB ZlK (φ, H) = gd φ 60 false (fun φ => some (fput φ 62 (.tup []), H)) (fun φ => some (fput φ 62 (fget φ 3), H)) := s_gd (j := 2) (oj := Z2f) rfl rfl rfl (fun _ => rfl) (fun _ => rfl)
theorem ZPV : stepA E C B 201 ZB Zm7 (φ, H) = gd φ 60 false (fun φ => some (fput φ 63 (.tup []), H)) (fun φ => stp (some 63) φ H (just (aLoad E.T 22 (fget φ 8)))) := s_gd (j := 2) (oj := Z2f) rfl rfl rfl (fun _ => rfl) (fun _ => rfl)
theorem ZWz : stepA E C B 201 ZB ZmO (φ, H) = gd φ 60 false (fun φ => some (fput φ 64 (.tup []), H)) (fun φ => stp (some 64) φ H (aCall C (fun j => B + j * 201 + 64) true 62 [(fget φ 62), (fget φ 63)])) := s_gd (j := 2) (oj := Z2f) rfl rfl rfl (fun _ => rfl) (fun _ => rfl)
theorem ZQB : stepA E C B 201 ZB Zm6 (φ, H) = gd φ 60 false (fun φ => some (fput φ 65 (.tup []), H)) (fun φ => stp (some 65) φ H (just (aBin E.T .neq 4 (fget φ 61) (fget φ 64)))) := s_gd (j := 2) (oj := Z2f) rfl rfl rfl (fun _ => rfl) (fun _ => rfl)
theorem ZQk : stepA E C B 201 ZB ZoD (φ, H) = stp (some 66) φ H (opPick (fget φ 60) (.bool true) (fget φ 65)) := nf
theorem ZSS : stepA E C B 201 ZB Z2I (φ, H) = some (fput φ 67 (fget φ 66), H) := nf
theorem ZNW : stepA E C B 201 ZB Zf7 (φ, H) = gd φ 67 false (fun φ => some (fput φ 68 (.tup []), H)) (fun φ => some (fput φ 68 (fget φ 10), H)) := s_gd (j := 9) (oj := Z2I) rfl rfl rfl (fun _ => rfl) (fun _ => rfl)
theorem ZMd : stepA E C B 201 ZB Zh5 (φ, H) = gd φ 67 false (fun φ => some (fput φ 69 (.tup []), H)) (fun φ => some (fput φ 69 (fget φ 9), H)) := s_gd (j := 9) (oj := Z2I) rfl rfl rfl (fun _ => rfl) (fun _ => rfl)
theorem ZLi : stepA E C B 201 ZB Zhg (φ, H) = gd φ 67 false (fun φ => some (fput φ 70 (.tup []), H)) (fun φ => stp (some 70) φ H (just (aBin E.T .geq 3 (fget φ 69) (.int .i64 0)))) := s_gd (j := 9) (oj := Z2I) rfl rfl rfl (fun _ => rfl) (fun _ => rfl)
theorem ZOp : stepA E C B 201 ZB ZhP (φ, H) = gd φ 67 false (fun φ => some (fput φ 71 (.tup []), H)) (fun φ => stp (some 71) φ H (just (aBin E.T .neq 4 (fget φ 68) (fget φ 70)))) := s_gd (j := 9) (oj := Z2I) rfl rfl rfl (fun _ => rfl) (fun _ => rfl)
theorem ZK1 : stepA E C B 201 ZB ZiQ (φ, H) = stp (some 72) φ H (opPick (fget φ 67) (.bool true) (fget φ 71)) := nf
def Za9 := kR Zbi
def Zak := kT Za9
def ZtZ := kL Zak
def ZaJ := kO ZtZ
def ZmT := opN ZaJ 0
theorem Z0eg : XG 10 201 ZtZ ZaJ [3, 4, 5, 6, 8, 9, 10, 12, 13, 14, 15, 31, 32, 33, 72] := Z1 (by rfl) (by rfl) _
theorem ZWv : ZaJ.toList = [ZmT] := nf
theorem ZTo : stepA E C B 201 ZaJ ZmT (φ, H) = some (fput φ 2 (.bool false), H) := nf
def ZO2 := kR Zak
theorem Z0k1 : execA E C (fg 10) B 201 E0 N ZO2 s = some (.ret, s) := Zo (by rfl) s
theorem Z0gI : XQ 10 201 Zak ZtZ ZO2 := Z0 (by rfl) _
def ZI4 := kE Za9
theorem Z0kx : execA E C (fg 10) B 201 E0 N ZI4 s = some (.normal, s) := Zh (by rfl) s
theorem Z0e7 : XC 10 201 Za9 72 Zak ZI4 := Zf (by rfl) _
theorem Z0hZ : XQ 10 201 Zbi ZoG Za9 := Z0 (by rfl) _
def Zb9 := kR Z9G
def Zbd := kL Zb9
def Zmr := kL Zbd
def Z4Y := kO Zmr
def ZmS := opN Z4Y 0
def ZmF := opN Z4Y 1
theorem Z0i3 : XG 10 201 Zmr Z4Y [10, 72, 73] := Z1 (by rfl) (by rfl) _
theorem ZTE : Z4Y.toList = [ZmS, ZmF] := nf
theorem ZVz : stepA E C B 201 Z4Y ZmS (φ, H) = some (fput φ 73 (fget φ 10), H) := nf
theorem ZUW : stepA E C B 201 Z4Y ZmF (φ, H) = stp (some 74) φ H (justO (aUn .not (fget φ 73))) := nf
def Zb5 := kR Zbd
def ZbH := kT Zb5
def Z9O := kL ZbH
def Zlp := kL Z9O
def Z8 := kO Zlp
def ZrZ := opN Z8 0
def Zoz := opN Z8 1
def Z5k := opN Z8 2
def ZrV := opN Z8 3
def ZoS := opN Z8 4
def Zpw := opN Z8 5
def Z5A := opN Z8 6
def Zoj := opN Z8 7
def Zo9 := opN Z8 8
def ZnA := opN Z8 9
def Z4p := opN Z8 10
def ZiR := opN Z8 11
def ZhS := opN Z8 12
def Zhf := opN Z8 13
def Z2i := opN Z8 14
def Zf6 := opN Z8 15
def Zi3 := opN Z8 16
def Zgj := opN Z8 17
def Zgw := opN Z8 18
def Zf0 := opN Z8 19
def Z0u := opN Z8 20
def Zfp := opN Z8 21
def ZiG := opN Z8 22
def ZeS := opN Z8 23
def Zg2 := opN Z8 24
def Zfo := opN Z8 25
def Zg7 := opN Z8 26
def ZgQ := opN Z8 27
def Zgm := opN Z8 28
def Zg9 := opN Z8 29
def ZhX := opN Z8 30
def Z0k := opN Z8 31
def Zfx := opN Z8 32
def Zgn := opN Z8 33
def ZeN := opN Z8 34
def Zgz := opN Z8 35
def ZeR := opN Z8 36
def ZgJ := opN Z8 37
def Zi5 := opN Z8 38
def Zi1 := opN Z8 39
def Zh9 := opN Z8 40
def ZgK := opN Z8 41
def ZhA := opN Z8 42
def Z1O := opN Z8 43
def ZiB := opN Z8 44
def Zf4 := opN Z8 45
def ZfM := opN Z8 46
def Zho := opN Z8 47
def ZfA := opN Z8 48
def Zf8 := opN Z8 49
theorem Z0iT : XD 10 201 Zlp Z8 [8, 9, 12, 13, 14, 15, 74, 75, 76, 77, 78, 79, 80, 81, 82, 83, 84, 85, 86, 87, 88, 89, 90, 91, 92, 93, 94, 95, 96, 97, 98, 99, 100, 101, 102, 103, 104, 105, 106, 107, 108, 109, 110, 111, 112, 113, 114, 115, 116, 117, 118, 119, 120, 121, 122, 123] := Z0v (by rfl) (by rfl) _
theorem ZQV : Z8.toList = [ZrZ, Zoz, Z5k, ZrV, ZoS, Zpw, Z5A, Zoj, Zo9, ZnA, Z4p, ZiR, ZhS, Zhf, Z2i, Zf6, Zi3, Zgj, Zgw, Zf0, Z0u, Zfp, ZiG, ZeS, Zg2, Zfo, Zg7, ZgQ, Zgm, Zg9, ZhX, Z0k, Zfx, Zgn, ZeN, Zgz, ZeR, ZgJ, Zi5, Zi1, Zh9, ZgK, ZhA, Z1O, ZiB, Zf4, ZfM, Zho, ZfA, Zf8] := nf
theorem ZOd : statOk Z8 = true := by kernel_rfl
theorem ZMm : drawA E C B 201 Z8 s = if neat 201 s = true then drX Z8 (runT E C B 201 Z8 Z8.toList 0 s) else none := Z0c ZOd s
theorem ZHj (l : List (Nat × Tr)) : dynOk Z8 l = (!writing l || Zc [[], [0], [0, 1], [0, 1, 2], [0, 1, 2, 3], [0, 1, 2, 3, 4], [0, 1, 2, 3, 4, 5], [0, 1, 2, 3, 4, 5, 6], [0, 1, 2, 3, 4, 5, 6, 7], [0, 1, 2, 3, 4, 5, 6, 7, 8], [0, 1, 2, 3, 4, 5, 6, 7, 8, 9], [0, 1, 2, 3, 4, 5, 6, 7, 8, 9, 10], [0, 1, 2, 3, 4, 5, 6, 7, 8, 9, 10, 11], [0, 1, 2, 3, 4, 5, 6, 7, 8, 9, 10, 11, 12], [0, 1, 2, 3, 4, 5, 6, 7, 8, 9, 10, 11, 12, 13], [0, 1, 2, 3, 4, 5, 6, 7, 8, 9, 10, 11, 12, 13, 14], [0, 1, 2, 3, 4, 5, 6, 7, 8, 9, 10, 11, 12, 13, 14], [0, 1, 2, 3, 4, 5, 6, 7, 8, 9, 10, 11, 12, 13, 14, 16], [0, 1, 2, 3, 4, 5, 6, 7, 8, 9, 10, 11, 12, 13, 14, 15, 16, 17], [0, 1, 2, 3, 4, 5, 6, 7, 8, 9, 10, 11, 12, 13, 14, 15, 16, 17, 18], [0, 1, 2, 3, 4, 5, 6, 7, 8, 9, 10, 11, 12, 13, 14, 15, 16, 17, 18, 19], [0, 1, 2, 3, 4, 5, 6, 7, 8, 9, 10, 11, 12, 13, 14, 15, 16, 17, 18, 19, 20], [0, 1, 2, 3, 4, 5, 6, 7, 8, 9, 10, 11, 12, 13, 14, 15, 16, 17, 18, 19, 20], [0, 1, 2, 3, 4, 5, 6, 7, 8, 9, 10, 11, 12, 13, 14, 15, 16, 17, 18, 19, 20, 21, 22], [0, 1, 2, 3, 4, 5, 6, 7, 8, 9, 10, 11, 12, 13, 14, 15, 16, 17, 18, 19, 20, 21, 22, 23], [0, 1, 2, 3, 4, 5, 6, 7, 8, 9, 10, 11, 12, 13, 14, 15, 16, 17, 18, 19, 20], [0, 1, 2, 3, 4, 5, 6, 7, 8, 9, 10, 11, 12, 13, 14, 15, 16, 17, 18, 19, 20], [0, 1, 2, 3, 4, 5, 6, 7, 8, 9, 10, 11, 12, 13, 14, 15, 16, 17, 18, 19, 20, 25, 26], [0, 1, 2, 3, 4, 5, 6, 7, 8, 9, 10, 11, 12, 13, 14, 15, 16, 17, 18, 19, 20, 21, 22, 23, 24, 25, 26, 27], [0, 1, 2, 3, 4, 5, 6, 7, 8, 9, 10, 11, 12, 13, 14, 15, 16, 17, 18, 19, 20, 21, 22, 23, 24, 25, 26, 27, 28], [0, 1, 2, 3, 4, 5, 6, 7, 8, 9, 10, 11, 12, 13, 14, 15, 16, 17, 18, 19, 20, 21, 22, 23, 24, 25, 26, 27, 28, 29], [0, 1, 2, 3, 4, 5, 6, 7, 8, 9, 10, 11, 12, 13, 14, 15, 16, 17, 18, 19, 20, 21, 22, 23, 24, 25, 26, 27, 28, 29, 30], [0, 1, 2, 3, 4, 5, 6, 7, 8, 9, 10, 11, 12, 13, 14, 15, 16, 17, 18, 19, 20, 21, 22, 23, 24, 25, 26, 27, 28, 29, 30, 31], [0, 1, 2, 3, 4, 5, 6, 7, 8, 9, 10, 11, 12, 13, 14, 15, 16, 17, 18, 19, 20, 21, 22, 23, 24, 25, 26, 27, 28, 29, 30, 31], [0, 1, 2, 3, 4, 5, 6, 7, 8, 9, 10, 11, 12, 13, 14, 15, 16, 17, 18, 19, 20, 21, 22, 23, 24, 25, 26, 27, 28, 29, 30, 31, 33], [0, 1, 2, 3, 4, 5, 6, 7, 8, 9, 10, 11, 12, 13, 14, 15, 16, 17, 18, 19, 20, 21, 22, 23, 24, 25, 26, 27, 28, 29, 30, 31, 32, 33, 34], [0, 1, 2, 3, 4, 5, 6, 7, 8, 9, 10, 11, 12, 13, 14, 15, 16, 17, 18, 19, 20, 21, 22, 23, 24, 25, 26, 27, 28, 29, 30, 31], [0, 1, 2, 3, 4, 5, 6, 7, 8, 9, 10, 11, 12, 13, 14, 15, 16, 17, 18, 19, 20, 21, 22, 23, 24, 25, 26, 27, 28, 29, 30, 31], [0, 1, 2, 3, 4, 5, 6, 7, 8, 9, 10, 11, 12, 13, 14, 15, 16, 17, 18, 19, 20, 21, 22, 23, 24, 25, 26, 27, 28, 29, 30, 31, 37], [0, 1, 2, 3, 4, 5, 6, 7, 8, 9, 10, 11, 12, 13, 14, 15, 16, 17, 18, 19, 20, 21, 22, 23, 24, 25, 26, 27, 28, 29, 30, 31, 36, 37, 38], [0, 1, 2, 3, 4, 5, 6, 7, 8, 9, 10, 11, 12, 13, 14, 15, 16, 17, 18, 19, 20, 21, 22, 23, 24, 25, 26, 27, 28, 29, 30, 31, 32, 33, 34, 35, 36, 37, 38, 39], [0, 1, 2, 3, 4, 5, 6, 7, 8, 9, 10, 11, 12, 13, 14, 15, 16, 17, 18, 19, 20, 21, 22, 23, 24, 25, 26, 27, 28, 29, 30, 31, 32, 33, 34, 35, 36, 37, 38, 39, 40], [0, 1, 2, 3, 4, 5, 6, 7, 8, 9, 10, 11, 12, 13, 14, 15, 16, 17, 18, 19, 20, 21, 22, 23, 24, 25, 26, 27, 28, 29, 30, 31, 32, 33, 34, 35, 36, 37, 38, 39, 40, 41], [0, 1, 2, 3, 4, 5, 6, 7, 8, 9, 10, 11, 12, 13, 14, 15, 16, 17, 18, 19, 20, 21, 22, 23, 24, 25, 26, 27, 28, 29, 30, 31, 32, 33, 34, 35, 36, 37, 38, 39, 40, 41, 42], [0, 1, 2, 3, 4, 5, 6, 7, 8, 9, 10, 11, 12, 13, 14, 15, 16, 17, 18, 19, 20, 21, 22, 23, 24, 25, 26, 27, 28, 29, 30, 31, 32, 33, 34, 35, 36, 37, 38, 39, 40, 41, 42, 43], [0, 1, 2, 3, 4, 5, 6, 7, 8, 9, 10, 11, 12, 13, 14, 15, 16, 17, 18, 19, 20, 21, 22, 23, 24, 25, 26, 27, 28, 29, 30, 31, 32, 33, 34, 35, 36, 37, 38, 39, 40, 41, 42, 43], [0, 1, 2, 3, 4, 5, 6, 7, 8, 9, 10, 11, 12, 13, 14, 15, 16, 17, 18, 19, 20, 21, 22, 23, 24, 25, 26, 27, 28, 29, 30, 31, 32, 33, 34, 35, 36, 37, 38, 39, 40, 41, 42, 43], [0, 1, 2, 3, 4, 5, 6, 7, 8, 9, 10, 11, 12, 13, 14, 15, 16, 17, 18, 19, 20, 21, 22, 23, 24, 25, 26, 27, 28, 29, 30, 31, 32, 33, 34, 35, 36, 37, 38, 39, 40, 41, 42, 43, 44, 45, 46], [0, 1, 2, 3, 4, 5, 6, 7, 8, 9, 10, 11, 12, 13, 14, 15, 16, 17, 18, 19, 20, 21, 22, 23, 24, 25, 26, 27, 28, 29, 30, 31, 32, 33, 34, 35, 36, 37, 38, 39, 40, 41, 42, 43, 44, 45, 46, 47], [0, 1, 2, 3, 4, 5, 6, 7, 8, 9, 10, 11, 12, 13, 14, 15, 16, 17, 18, 19, 20, 21, 22, 23, 24, 25, 26, 27, 28, 29, 30, 31, 32, 33, 34, 35, 36, 37, 38, 39, 40, 41, 42, 43, 44, 45, 46, 47, 48]] (Zb l)) := ZX (by kernel_rfl) l
theorem ZVr : stepT E C B 201 Z8 ZrZ (φ, H) = some ((fput φ 75 (fget φ 13), H), ⟨false, [], []⟩) := Z2 rfl (Z7 rfl rfl)
theorem ZTQ : stepT E C B 201 Z8 Zoz (φ, H) = stpT (some 76) φ H (just (aBin E.T .neq 24 (fget φ 75) (.int .i64 12))) := Z2 rfl (Z6 rfl rfl)
theorem ZT0 : stepT E C B 201 Z8 Z5k (φ, H) = some ((fput φ 77 (fget φ 76), H), ⟨false, [], []⟩) := Z2 rfl (Z7 rfl rfl)
theorem ZRx : stepT E C B 201 Z8 ZrV (φ, H) = gdT φ 77 false (fun φ => (some (fput φ 78 (.tup []), H)).map fun s => (s, ⟨false, [], []⟩)) (fun φ => some ((fput φ 78 (fget φ 12), H), ⟨false, [], []⟩)) := Zg (j := 2) (oj := Z5k) rfl rfl rfl (fun _ => rfl) (fun _ => Z7 rfl rfl)
theorem ZSH : stepT E C B 201 Z8 ZoS (φ, H) = gdT φ 77 false (fun φ => (some (fput φ 79 (.tup []), H)).map fun s => (s, ⟨false, [], []⟩)) (fun φ => stpT (some 79) φ H (just (aBin E.T .neq 3 (fget φ 78) (.int .i64 0)))) := Zg (j := 2) (oj := Z5k) rfl rfl rfl (fun _ => rfl) (fun _ => Z6 rfl rfl)
theorem ZUR : stepT E C B 201 Z8 Zpw (φ, H) = stpT (some 80) φ H (opPick (fget φ 77) (.bool true) (fget φ 79)) := Z2 rfl (Z6 rfl rfl)
theorem ZQ9 : stepT E C B 201 Z8 Z5A (φ, H) = some ((fput φ 81 (fget φ 80), H), ⟨false, [], []⟩) := Z2 rfl (Z7 rfl rfl)
theorem ZQx : stepT E C B 201 Z8 Zoj (φ, H) = gdT φ 81 false (fun φ => (some (fput φ 82 (.tup []), H)).map fun s => (s, ⟨false, [], []⟩)) (fun φ => some ((fput φ 82 (fget φ 15), H), ⟨false, [], []⟩)) := Zg (j := 6) (oj := Z5A) rfl rfl rfl (fun _ => rfl) (fun _ => Z7 rfl rfl)
theorem ZPc : stepT E C B 201 Z8 Zo9 (φ, H) = gdT φ 81 false (fun φ => (some (fput φ 83 (.tup []), H)).map fun s => (s, ⟨false, [], []⟩)) (fun φ => stpT (some 83) φ H (just (aBin E.T .neq 24 (fget φ 82) (.int .i64 0)))) := Zg (j := 6) (oj := Z5A) rfl rfl rfl (fun _ => rfl) (fun _ => Z6 rfl rfl)
theorem ZQe : stepT E C B 201 Z8 ZnA (φ, H) = stpT (some 84) φ H (opPick (fget φ 81) (.bool true) (fget φ 83)) := Z2 rfl (Z6 rfl rfl)
theorem ZOA : stepT E C B 201 Z8 Z4p (φ, H) = some ((fput φ 85 (fget φ 84), H), ⟨false, [], []⟩) := Z2 rfl (Z7 rfl rfl)
theorem ZHw : stepT E C B 201 Z8 ZiR (φ, H) = gdT φ 85 false (fun φ => (some (fput φ 86 (.tup []), H)).map fun s => (s, ⟨false, [], []⟩)) (fun φ => some ((fput φ 86 (fget φ 14), H), ⟨false, [], []⟩)) := Zg (j := 10) (oj := Z4p) rfl rfl rfl (fun _ => rfl) (fun _ => Z7 rfl rfl)
theorem ZKl : stepT E C B 201 Z8 ZhS (φ, H) = gdT φ 85 false (fun φ => (some (fput φ 87 (.tup []), H)).map fun s => (s, ⟨false, [], []⟩)) (fun φ => stpT (some 87) φ H (just (aBin E.T .lss 3 (fget φ 86) (.int .i64 1)))) := Zg (j := 10) (oj := Z4p) rfl rfl rfl (fun _ => rfl) (fun _ => Z6 rfl rfl)
theorem ZI2 : stepT E C B 201 Z8 Zhf (φ, H) = stpT (some 88) φ H (opPick (fget φ 85) (.bool true) (fget φ 87)) := Z2 rfl (Z6 rfl rfl)
theorem ZOf : stepT E C B 201 Z8 Z2i (φ, H) = some ((fput φ 89 (fget φ 88), H), ⟨false, [], []⟩) := Z2 rfl (Z7 rfl rfl)
theorem ZJi : stepT E C B 201 Z8 Zf6 (φ, H) = gdT φ 89 false (fun φ => (some (fput φ 90 (.tup []), H)).map fun s => (s, ⟨false, [], []⟩)) (fun φ => some ((fput φ 90 (fget φ 14), H), ⟨false, [], []⟩)) := Zg (j := 14) (oj := Z2i) rfl rfl rfl (fun _ => rfl) (fun _ => Z7 rfl rfl)
theorem ZNj : stepT E C B 201 Z8 Zi3 (φ, H) = gdT φ 89 false (fun φ => (some (fput φ 91 (.tup []), H)).map fun s => (s, ⟨false, [], []⟩)) (fun φ => some ((fput φ 91 (fget φ 3), H), ⟨false, [], []⟩)) := Zg (j := 14) (oj := Z2i) rfl rfl rfl (fun _ => rfl) (fun _ => Z7 rfl rfl)
theorem ZJr : stepT E C B 201 Z8 Zgj (φ, H) = gdT φ 89 false (fun φ => (some (fput φ 92 (.tup []), H)).map fun s => (s, ⟨false, [], []⟩)) (fun φ => stpT (some 92) φ H (Z3 E.T (B + 92) .len #[22] [(fget φ 91)])) := Zg (j := 14) (oj := Z2i) rfl rfl rfl (fun _ => rfl) (fun _ => Z6 rfl rfl)
theorem ZJD : stepT E C B 201 Z8 Zgw (φ, H) = gdT φ 89 false (fun φ => (some (fput φ 93 (.tup []), H)).map fun s => (s, ⟨false, [], []⟩)) (fun φ => stpT (some 93) φ H (just (aBin E.T .gtr 3 (fget φ 90) (fget φ 92)))) := Zg (j := 14) (oj := Z2i) rfl rfl rfl (fun _ => rfl) (fun _ => Z6 rfl rfl)
theorem ZKU : stepT E C B 201 Z8 Zf0 (φ, H) = stpT (some 94) φ H (opPick (fget φ 89) (.bool true) (fget φ 93)) := Z2 rfl (Z6 rfl rfl)
theorem ZLY : stepT E C B 201 Z8 Z0u (φ, H) = some ((fput φ 95 (fget φ 94), H), ⟨false, [], []⟩) := Z2 rfl (Z7 rfl rfl)
theorem ZO8 : stepT E C B 201 Z8 Zfp (φ, H) = gdT φ 95 false (fun φ => (some (fput φ 96 (.tup []), H)).map fun s => (s, ⟨false, [], []⟩)) (fun φ => some ((fput φ 96 (fget φ 3), H), ⟨false, [], []⟩)) := Zg (j := 20) (oj := Z0u) rfl rfl rfl (fun _ => rfl) (fun _ => Z7 rfl rfl)
theorem ZHE : stepT E C B 201 Z8 ZiG (φ, H) = gdT φ 95 false (fun φ => (some (fput φ 97 (.tup []), H)).map fun s => (s, ⟨false, [], []⟩)) (fun φ => some ((fput φ 97 (fget φ 14), H), ⟨false, [], []⟩)) := Zg (j := 20) (oj := Z0u) rfl rfl rfl (fun _ => rfl) (fun _ => Z7 rfl rfl)
theorem ZJV : stepT E C B 201 Z8 ZeS (φ, H) = gdT φ 95 false (fun φ => (some (fput φ 98 (.tup []), H)).map fun s => (s, ⟨false, [], []⟩)) (fun φ => stpT (some 98) φ H (just (aSlice E.T 22 (fget φ 96) none (some (fget φ 97)) none))) := Zg (j := 20) (oj := Z0u) rfl rfl rfl (fun _ => rfl) (fun _ => Z6 rfl rfl)
theorem ZJQ : stepT E C B 201 Z8 Zg2 (φ, H) = gdT φ 95 false (fun φ => (some (fput φ 99 (.tup []), H)).map fun s => (s, ⟨false, [], []⟩)) (fun φ => stpT (some 99) φ H (aCall C (fun j => B + j * 201 + 99) true 58 [(fget φ 98)])) := Zg (j := 20) (oj := Z0u) rfl rfl rfl (fun _ => rfl) (fun _ => Z6 rfl rfl)
theorem ZJR : stepT E C B 201 Z8 Zfo (φ, H) = gdT φ 95 false (fun φ => (some (fput φ 100 (.tup []), H)).map fun s => (s, ⟨false, [], []⟩)) (fun φ => stpT (some 100) φ H (just (aLoad E.T 22 (fget φ 8)))) := Zg (j := 20) (oj := Z0u) rfl rfl rfl (fun _ => rfl) (fun _ => Z6 rfl rfl)
theorem ZKz : stepT E C B 201 Z8 Zg7 (φ, H) = gdT φ 95 false (fun φ => (some (fput φ 101 (.tup []), H)).map fun s => (s, ⟨false, [], []⟩)) (fun φ => some ((fput φ 101 (fget φ 14), H), ⟨false, [], []⟩)) := Zg (j := 20) (oj := Z0u) rfl rfl rfl (fun _ => rfl) (fun _ => Z7 rfl rfl)
theorem ZMZ : stepT E C B 201 Z8 ZgQ (φ, H) = gdT φ 95 false (fun φ => (some (fput φ 102 (.tup []), H)).map fun s => (s, ⟨false, [], []⟩)) (fun φ => stpT (some 102) φ H (just (aSlice E.T 22 (fget φ 100) none (some (fget φ 101)) none))) := Zg (j := 20) (oj := Z0u) rfl rfl rfl (fun _ => rfl) (fun _ => Z6 rfl rfl)
theorem ZI7 : stepT E C B 201 Z8 Zgm (φ, H) = gdT φ 95 false (fun φ => (some (fput φ 103 (.tup []), H)).map fun s => (s, ⟨false, [], []⟩)) (fun φ => stpT (some 103) φ H (aCall C (fun j => B + j * 201 + 103) true 58 [(fget φ 102)])) := Zg (j := 20) (oj := Z0u) rfl rfl rfl (fun _ => rfl) (fun _ => Z6 rfl rfl)
theorem ZHh : stepT E C B 201 Z8 Zg9 (φ, H) = gdT φ 95 false (fun φ => (some (fput φ 104 (.tup []), H)).map fun s => (s, ⟨false, [], []⟩)) (fun φ => stpT (some 104) φ H (just (aBin E.T .geq 3 (fget φ 99) (fget φ 103)))) := Zg (j := 20) (oj := Z0u) rfl rfl rfl (fun _ => rfl) (fun _ => Z6 rfl rfl)
theorem ZMT : stepT E C B 201 Z8 ZhX (φ, H) = stpT (some 105) φ H (opPick (fget φ 95) (.bool true) (fget φ 104)) := Z2 rfl (Z6 rfl rfl)
theorem ZMD : stepT E C B 201 Z8 Z0k (φ, H) = some ((fput φ 106 (fget φ 105), H), ⟨false, [], []⟩) := Z2 rfl (Z7 rfl rfl)
theorem ZKZ : stepT E C B 201 Z8 Zfx (φ, H) = gdT φ 106 false (fun φ => (some (fput φ 107 (.tup []), H)).map fun s => (s, ⟨false, [], []⟩)) (fun φ => some ((fput φ 107 (fget φ 3), H), ⟨false, [], []⟩)) := Zg (j := 31) (oj := Z0k) rfl rfl rfl (fun _ => rfl) (fun _ => Z7 rfl rfl)
theorem ZIO : stepT E C B 201 Z8 Zgn (φ, H) = gdT φ 106 false (fun φ => (some (fput φ 108 (.tup []), H)).map fun s => (s, ⟨false, [], []⟩)) (fun φ => some ((fput φ 108 (fget φ 14), H), ⟨false, [], []⟩)) := Zg (j := 31) (oj := Z0k) rfl rfl rfl (fun _ => rfl) (fun _ => Z7 rfl rfl)
theorem ZLV : stepT E C B 201 Z8 ZeN (φ, H) = gdT φ 106 false (fun φ => (some (fput φ 109 (.tup []), H)).map fun s => (s, ⟨false, [], []⟩)) (fun φ => stpT (some 109) φ H (just (aBin E.T .sub 3 (fget φ 108) (.int .i64 1)))) := Zg (j := 31) (oj := Z0k) rfl rfl rfl (fun _ => rfl) (fun _ => Z6 rfl rfl)
theorem ZIB : stepT E C B 201 Z8 Zgz (φ, H) = gdT φ 106 false (fun φ => (some (fput φ 110 (.tup []), H)).map fun s => (s, ⟨false, [], []⟩)) (fun φ => stpT (some 110) φ H (just (aSlice E.T 22 (fget φ 107) none (some (fget φ 109)) none))) := Zg (j := 31) (oj := Z0k) rfl rfl rfl (fun _ => rfl) (fun _ => Z6 rfl rfl)
theorem ZJO : stepT E C B 201 Z8 ZeR (φ, H) = gdT φ 106 false (fun φ => (some (fput φ 111 (.tup []), H)).map fun s => (s, ⟨false, [], []⟩)) (fun φ => stpT (some 111) φ H (just (aLoad E.T 22 (fget φ 8)))) := Zg (j := 31) (oj := Z0k) rfl rfl rfl (fun _ => rfl) (fun _ => Z6 rfl rfl)
theorem ZIE : stepT E C B 201 Z8 ZgJ (φ, H) = gdT φ 106 false (fun φ => (some (fput φ 112 (.tup []), H)).map fun s => (s, ⟨false, [], []⟩)) (fun φ => some ((fput φ 112 (fget φ 14), H), ⟨false, [], []⟩)) := Zg (j := 31) (oj := Z0k) rfl rfl rfl (fun _ => rfl) (fun _ => Z7 rfl rfl)
theorem ZLj : stepT E C B 201 Z8 Zi5 (φ, H) = gdT φ 106 false (fun φ => (some (fput φ 113 (.tup []), H)).map fun s => (s, ⟨false, [], []⟩)) (fun φ => stpT (some 113) φ H (just (aBin E.T .sub 3 (fget φ 112) (.int .i64 1)))) := Zg (j := 31) (oj := Z0k) rfl rfl rfl (fun _ => rfl) (fun _ => Z6 rfl rfl)
theorem ZLy : stepT E C B 201 Z8 Zi1 (φ, H) = gdT φ 106 false (fun φ => (some (fput φ 114 (.tup []), H)).map fun s => (s, ⟨false, [], []⟩)) (fun φ => stpT (some 114) φ H (just (aSlice E.T 22 (fget φ 111) none (some (fget φ 113)) none))) := Zg (j := 31) (oj := Z0k) rfl rfl rfl (fun _ => rfl) (fun _ => Z6 rfl rfl)
theorem ZHB : stepT E C B 201 Z8 Zh9 (φ, H) = gdT φ 106 false (fun φ => (some (fput φ 115 (.tup []), H)).map fun s => (s, ⟨false, [], []⟩)) (fun φ => stpT (some 115) φ H (aCall C (fun j => B + j * 201 + 115) true 62 [(fget φ 110), (fget φ 114)])) := Zg (j := 31) (oj := Z0k) rfl rfl rfl (fun _ => rfl) (fun _ => Z6 rfl rfl)
theorem ZN4 : stepT E C B 201 Z8 ZgK (φ, H) = gdT φ 106 false (fun φ => (some (fput φ 116 (.tup []), H)).map fun s => (s, ⟨false, [], []⟩)) (fun φ => stpT (some 116) φ H (justO (aUn .not (fget φ 115)))) := Zg (j := 31) (oj := Z0k) rfl rfl rfl (fun _ => rfl) (fun _ => Z6 rfl rfl)
theorem ZHf : stepT E C B 201 Z8 ZhA (φ, H) = stpT (some 117) φ H (opPick (fget φ 106) (.bool true) (fget φ 116)) := Z2 rfl (Z6 rfl rfl)
theorem ZNN : stepT E C B 201 Z8 Z1O (φ, H) = some ((fput φ 118 (fget φ 117), H), ⟨false, [], []⟩) := Z2 rfl (Z7 rfl rfl)
theorem ZIs : stepT E C B 201 Z8 ZiB (φ, H) = gdT φ 118 false (fun φ => (some (fput φ 119 (.tup []), H)).map fun s => (s, ⟨false, [], []⟩)) (fun φ => some ((fput φ 119 (fget φ 3), H), ⟨false, [], []⟩)) := Zg (j := 43) (oj := Z1O) rfl rfl rfl (fun _ => rfl) (fun _ => Z7 rfl rfl)
theorem ZIL : stepT E C B 201 Z8 Zf4 (φ, H) = gdT φ 118 false (fun φ => (some (fput φ 120 (.tup []), H)).map fun s => (s, ⟨false, [], []⟩)) (fun φ => stpT (some 120) φ H (just (aLoad E.T 22 (fget φ 8)))) := Zg (j := 43) (oj := Z1O) rfl rfl rfl (fun _ => rfl) (fun _ => Z6 rfl rfl)
theorem ZKA : stepT E C B 201 Z8 ZfM (φ, H) = gdT φ 118 false (fun φ => (some (fput φ 121 (.tup []), H)).map fun s => (s, ⟨false, [], []⟩)) (fun φ => some ((fput φ 121 (fget φ 14), H), ⟨false, [], []⟩)) := Zg (j := 43) (oj := Z1O) rfl rfl rfl (fun _ => rfl) (fun _ => Z7 rfl rfl)
theorem ZM7 : stepT E C B 201 Z8 Zho (φ, H) = gdT φ 118 false (fun φ => (some (fput φ 122 (.tup []), H)).map fun s => (s, ⟨false, [], []⟩)) (fun φ => stpT (some 122) φ H (aCall C (fun j => B + j * 201 + 122) true 35 [(fget φ 119), (fget φ 120), (fget φ 121)])) := Zg (j := 43) (oj := Z1O) rfl rfl rfl (fun _ => rfl) (fun _ => Z6 rfl rfl)
theorem ZN8 : stepT E C B 201 Z8 ZfA (φ, H) = gdT φ 118 false (fun φ => (some (fput φ 123 (.tup []), H)).map fun s => (s, ⟨false, [], []⟩)) (fun φ => stpT (some 123) φ H (just (aBin E.T .neq 24 (fget φ 122) (.int .i64 0)))) := Zg (j := 43) (oj := Z1O) rfl rfl rfl (fun _ => rfl) (fun _ => Z6 rfl rfl)
theorem ZK7 : stepT E C B 201 Z8 Zf8 (φ, H) = stpT (some 124) φ H (opPick (fget φ 118) (.bool true) (fget φ 123)) := Z2 rfl (Z6 rfl rfl)
def Zct := kR Z9O
def Zb2 := kT Zct
def ZrC := kL Zb2
def Z9r := kO ZrC
def Zsz := opN Z9r 0
theorem Z0hL : XG 10 201 ZrC Z9r [3, 4, 5, 6, 31, 32, 33, 124] := Z1 (by rfl) (by rfl) _
theorem ZW5 : Z9r.toList = [Zsz] := nf
theorem ZWb : stepA E C B 201 Z9r Zsz (φ, H) = some (fput φ 2 (.bool false), H) := nf
def ZMl := kR Zb2
theorem Z0fe : execA E C (fg 10) B 201 E0 N ZMl s = some (.ret, s) := Zo (by rfl) s
theorem Z0kt : XQ 10 201 Zb2 ZrC ZMl := Z0 (by rfl) _
def ZM8 := kE Zct
theorem Z0er : execA E C (fg 10) B 201 E0 N ZM8 s = some (.normal, s) := Zh (by rfl) s
theorem Z0f7 : XC 10 201 Zct 124 Zb2 ZM8 := Zf (by rfl) _
theorem Z0ko : XQ 10 201 Z9O Zlp Zct := Z0 (by rfl) _
def ZNq := kR ZbH
theorem Z0kq : execA E C (fg 10) B 201 E0 N ZNq s = some (.exit 1, s) := ZW (by rfl) s
theorem Z0iU : XQ 10 201 ZbH Z9O ZNq := Z0 (by rfl) _
def ZJn := kE Zb5
theorem Z0f0 : execA E C (fg 10) B 201 E0 N ZJn s = some (.normal, s) := Zh (by rfl) s
theorem Z0jm : XC 10 201 Zb5 74 ZbH ZJn := Zf (by rfl) _
theorem Z0fB : XQ 10 201 Zbd Zmr Zb5 := Z0 (by rfl) _
def Za1 := kR Zb9
def Zu5 := kL Za1
def Z1r := kO Zu5
def ZqD := opN Z1r 0
def Zpc := opN Z1r 1
def Znp := opN Z1r 2
def Zta := opN Z1r 3
def ZlM := opN Z1r 4
theorem Z0eV : XG 10 201 Zu5 Z1r [74, 125, 126, 127, 128] := Z1 (by rfl) (by rfl) _
theorem ZSZ : Z1r.toList = [ZqD, Zpc, Znp, Zta, ZlM] := nf
theorem ZWG : stepA E C B 201 Z1r ZqD (φ, H) = some (fput φ 125 (fget φ 6), H) := nf
theorem ZVK : stepA E C B 201 Z1r Zpc (φ, H) = stp (some 126) φ H (just (aLoad E.T 22 (fget φ 8))) := nf
theorem ZVU : stepA E C B 201 Z1r Znp (φ, H) = stp (some 127) φ H (Z9 E.T (B + 127) 39 1 (evO E φ) [(0, Operand.tmp 126)]) := nf
theorem ZVj : stepA E C B 201 Z1r Zta (φ, H) = stp (some 128) φ H (Z3 E.T (B + 128) .append #[39, 39] [(fget φ 125), (fget φ 127)]) := nf
theorem ZQm : stepA E C B 201 Z1r ZlM (φ, H) = some (fput φ 6 (fget φ 128), H) := nf
def ZbD := kR Za1
def Zq8 := kL ZbD
def Zcf := kO Zq8
def ZnE := opN Zcf 0
theorem Z0iz : XG 10 201 Zq8 Zcf [] := Z1 (by rfl) (by rfl) _
theorem ZW7 : Zcf.toList = [ZnE] := nf
theorem ZTl : stepA E C B 201 Zcf ZnE (φ, H) = some (fput φ 16 (.int .i64 0), H) := nf
def Zb1 := kR ZbD
def Z9Q := kL Zb1
def ZnS := kL Z9Q
def Z3a := kO ZnS
def ZmI := opN Z3a 0
def Zrf := opN Z3a 1
def Zrd := opN Z3a 2
theorem Z0hO : XG 10 201 ZnS Z3a [129] := Z1 (by rfl) (by rfl) _
theorem ZQT : Z3a.toList = [ZmI, Zrf, Zrd] := nf
theorem ZOZ : stepA E C B 201 Z3a ZmI (φ, H) = some (fput φ 129 (fget φ 3), H) := nf
theorem ZOW : stepA E C B 201 Z3a Zrf (φ, H) = stp (some 130) φ H (Z3 E.T (B + 130) .len #[22] [(fget φ 129)]) := nf
theorem ZWi : stepA E C B 201 Z3a Zrd (φ, H) = some (fput φ 131 (.int .i64 0), H) := nf
def Zs3 := kR Z9Q
def ZsI := kB Zs3
def Z51 := kB ZsI
def ZoU := kL Z51
def Zbv := kO ZoU
def Zn5 := opN Zbv 0
theorem Z0gP : XG 10 201 ZoU Zbv [] := Z1 (by rfl) (by rfl) _
theorem ZWP : Zbv.toList = [Zn5] := nf
theorem ZTJ : stepA E C B 201 Zbv Zn5 (φ, H) = stp (some 132) φ H (just (aBin E.T .lss 3 (fget φ 131) (fget φ 130))) := nf
def Z9o := kR Z51
def ZbW := kL Z9o
def ZHs := kT ZbW
theorem Z0dt : execA E C (fg 10) B 201 E0 N ZHs s = some (.normal, s) := Zh (by rfl) s
def ZOs := kE ZbW
theorem Z0kK : execA E C (fg 10) B 201 E0 N ZOs s = some (.exit 2, s) := ZW (by rfl) s
theorem Z0g5 : XC 10 201 ZbW 132 ZHs ZOs := Zf (by rfl) _
def Z9y := kR Z9o
def Zpg := kL Z9y
def ZcD := kB Zpg
def Zqo := kL ZcD
def Z4T := kO Zqo
def ZpR := opN Z4T 0
def Znq := opN Z4T 1
theorem Z0gR : XG 10 201 Zqo Z4T [132, 133] := Z1 (by rfl) (by rfl) _
theorem ZR4 : Z4T.toList = [ZpR, Znq] := nf
theorem ZTe : stepA E C B 201 Z4T ZpR (φ, H) = some (fput φ 133 (fget φ 131), H) := nf
theorem ZTY : stepA E C B 201 Z4T Znq (φ, H) = some (fput φ 17 (fget φ 133), H) := nf
def ZtN := kR ZcD
def Zj := kO ZtN
def Znl := opN Zj 0
def ZsK := opN Zj 1
def Zq5 := opN Zj 2
def Zmd := opN Zj 3
def Zua := opN Zj 4
def ZqR := opN Zj 5
def ZpM := opN Zj 6
def ZtP := opN Zj 7
def ZrX := opN Zj 8
def ZlZ := opN Zj 9
def Zfz := opN Zj 10
def ZgN := opN Zj 11
def ZhV := opN Zj 12
def ZhZ := opN Zj 13
def Zgt := opN Zj 14
def Zhu := opN Zj 15
def Zh1 := opN Zj 16
def ZfR := opN Zj 17
def ZhY := opN Zj 18
def ZhF := opN Zj 19
def Zhn := opN Zj 20
def ZiJ := opN Zj 21
theorem Z0fV : XD 10 201 ZtN Zj [17, 134, 135, 136, 137, 138, 139, 140, 141, 142, 143, 144, 145, 146, 147, 148, 149, 150, 151, 152, 153, 154] := Z0v (by rfl) (by rfl) _
theorem ZUH : Zj.toList = [Znl, ZsK, Zq5, Zmd, Zua, ZqR, ZpM, ZtP, ZrX, ZlZ, Zfz, ZgN, ZhV, ZhZ, Zgt, Zhu, Zh1, ZfR, ZhY, ZhF, Zhn, ZiJ] := nf
theorem ZMf : statOk Zj = true := by kernel_rfl
theorem ZNV : drawA E C B 201 Zj s = if neat 201 s = true then drX Zj (runT E C B 201 Zj Zj.toList 0 s) else none := Z0c ZMf s
theorem ZIi (l : List (Nat × Tr)) : dynOk Zj l = (!writing l || Zc [[], [], [], [1, 2], [1, 2, 3], [], [], [5, 6], [5, 6, 7], [1, 2, 3, 4, 5, 6, 7, 8], [], [], [10, 11], [10, 11, 12], [], [], [14, 15], [14, 15, 16], [10, 11, 12, 13, 14, 15, 16, 17], [1, 2, 3, 4, 5, 6, 7, 8, 9, 10, 11, 12, 13, 14, 15, 16, 17, 18], [0, 1, 2, 3, 4, 5, 6, 7, 8, 9, 10, 11, 12, 13, 14, 15, 16, 17, 18, 19], [0, 1, 2, 3, 4, 5, 6, 7, 8, 9, 10, 11, 12, 13, 14, 15, 16, 17, 18, 19, 20]] (Zb l)) := ZX (by kernel_rfl) l
theorem ZQI : stepT E C B 201 Zj Znl (φ, H) = some ((fput φ 134 (fget φ 16), H), ⟨false, [], []⟩) := Z2 rfl (Z7 rfl rfl)
theorem ZPU : stepT E C B 201 Zj ZsK (φ, H) = some ((fput φ 135 (fget φ 3), H), ⟨false, [], []⟩) := Z2 rfl (Z7 rfl rfl)
theorem ZS4 : stepT E C B 201 Zj Zq5 (φ, H) = some ((fput φ 136 (fget φ 17), H), ⟨false, [], []⟩) := Z2 rfl (Z7 rfl rfl)
theorem ZP3 : stepT E C B 201 Zj Zmd (φ, H) = stpT (some 137) φ H (just (Z4 E.T 22 (fget φ 135) (fget φ 136))) := Z2 rfl (Z6 rfl rfl)
theorem ZTg : stepT E C B 201 Zj Zua (φ, H) = stpT (some 138) φ H (just (aLoad E.T 3 (fget φ 137))) := Z2 rfl (Z6 rfl rfl)
theorem ZOR : stepT E C B 201 Zj ZqR (φ, H) = stpT (some 139) φ H (just (aLoad E.T 22 (fget φ 8))) := Z2 rfl (Z6 rfl rfl)
theorem ZUb : stepT E C B 201 Zj ZpM (φ, H) = some ((fput φ 140 (fget φ 17), H), ⟨false, [], []⟩) := Z2 rfl (Z7 rfl rfl)
theorem ZSt : stepT E C B 201 Zj ZtP (φ, H) = stpT (some 141) φ H (just (Z4 E.T 22 (fget φ 139) (fget φ 140))) := Z2 rfl (Z6 rfl rfl)
theorem ZTy : stepT E C B 201 Zj ZrX (φ, H) = stpT (some 142) φ H (just (aLoad E.T 3 (fget φ 141))) := Z2 rfl (Z6 rfl rfl)
theorem ZQ3 : stepT E C B 201 Zj ZlZ (φ, H) = stpT (some 143) φ H (just (aBin E.T .sub 3 (fget φ 138) (fget φ 142))) := Z2 rfl (Z6 rfl rfl)
theorem ZKp : stepT E C B 201 Zj Zfz (φ, H) = stpT (some 144) φ H (just (aLoad E.T 22 (fget φ 8))) := Z2 rfl (Z6 rfl rfl)
theorem ZNA : stepT E C B 201 Zj ZgN (φ, H) = some ((fput φ 145 (fget φ 17), H), ⟨false, [], []⟩) := Z2 rfl (Z7 rfl rfl)
theorem ZLd : stepT E C B 201 Zj ZhV (φ, H) = stpT (some 146) φ H (just (Z4 E.T 22 (fget φ 144) (fget φ 145))) := Z2 rfl (Z6 rfl rfl)
theorem ZOP : stepT E C B 201 Zj ZhZ (φ, H) = stpT (some 147) φ H (just (aLoad E.T 3 (fget φ 146))) := Z2 rfl (Z6 rfl rfl)
theorem ZHO : stepT E C B 201 Zj Zgt (φ, H) = some ((fput φ 148 (fget φ 3), H), ⟨false, [], []⟩) := Z2 rfl (Z7 rfl rfl)
theorem ZMO : stepT E C B 201 Zj Zhu (φ, H) = some ((fput φ 149 (fget φ 17), H), ⟨false, [], []⟩) := Z2 rfl (Z7 rfl rfl)
theorem ZHG : stepT E C B 201 Zj Zh1 (φ, H) = stpT (some 150) φ H (just (Z4 E.T 22 (fget φ 148) (fget φ 149))) := Z2 rfl (Z6 rfl rfl)
theorem ZJK : stepT E C B 201 Zj ZfR (φ, H) = stpT (some 151) φ H (just (aLoad E.T 3 (fget φ 150))) := Z2 rfl (Z6 rfl rfl)
theorem ZLl : stepT E C B 201 Zj ZhY (φ, H) = stpT (some 152) φ H (just (aBin E.T .sub 3 (fget φ 147) (fget φ 151))) := Z2 rfl (Z6 rfl rfl)
theorem ZO4 : stepT E C B 201 Zj ZhF (φ, H) = stpT (some 153) φ H (Z3 E.T (B + 153) .max #[3, 3] [(fget φ 143), (fget φ 152)]) := Z2 rfl (Z6 rfl rfl)
theorem ZNr : stepT E C B 201 Zj Zhn (φ, H) = stpT (some 154) φ H (just (aBin E.T .add 3 (fget φ 134) (fget φ 153))) := Z2 rfl (Z6 rfl rfl)
theorem ZLk : stepT E C B 201 Zj ZiJ (φ, H) = some ((fput φ 16 (fget φ 154), H), ⟨false, [], []⟩) := Z2 rfl (Z7 rfl rfl)
theorem Z0hA : XQ 10 201 ZcD Zqo ZtN := Z0 (by rfl) _
theorem Z0iO : execA E C (fg 10) B 201 E0 N Zpg s = blockX 3 (fun s => (forget s.1 [], s.2)) (execA E C (fg 10) B 201 E0 N ZcD s) := Zi (by rfl) (by rfl) s
def ZqF := kR Z9y
def Z5b := kO ZqF
def ZsY := opN Z5b 0
def ZmE := opN Z5b 1
theorem Z0hF : XG 10 201 ZqF Z5b [155] := Z1 (by rfl) (by rfl) _
theorem ZSd : Z5b.toList = [ZsY, ZmE] := nf
theorem ZPJ : stepA E C B 201 Z5b ZsY (φ, H) = stp (some 155) φ H (just (aBin E.T .add 3 (fget φ 131) (.int .i64 1))) := nf
theorem ZUN : stepA E C B 201 Z5b ZmE (φ, H) = some (fput φ 131 (fget φ 155), H) := nf
theorem Z0gF : XQ 10 201 Z9y Zpg ZqF := Z0 (by rfl) _
theorem Z0dV : XQ 10 201 Z9o ZbW Z9y := Z0 (by rfl) _
theorem Z0eM : XQ 10 201 Z51 ZoU Z9o := Z0 (by rfl) _
theorem Z0j7 : execA E C (fg 10) B 201 E0 N ZsI s = iterA (execA E C (fg 10) B 201 E0 N Z51) (headA E0) N s := Z08 (by rfl) s
theorem Z0jG : execA E C (fg 10) B 201 E0 N Zs3 s = blockX 2 (fun s => (forget s.1 [8, 130, 131, 132], s.2)) (execA E C (fg 10) B 201 E0 N ZsI s) := Zi (by rfl) (by rfl) s
theorem Z0cH : XQ 10 201 Z9Q ZnS Zs3 := Z0 (by rfl) _
def ZbJ := kR Zb1
def Zqn := kL ZbJ
def Zl := kO Zqn
def Zmq := opN Zl 0
def Zp8 := opN Zl 1
def Z1I := opN Zl 2
def ZsT := opN Zl 3
def Zt6 := opN Zl 4
def Zqm := opN Zl 5
def ZtK := opN Zl 6
def ZnQ := opN Zl 7
def ZsJ := opN Zl 8
def Zrx := opN Zl 9
def Z2s := opN Zl 10
def Zio := opN Zl 11
def Zhs := opN Zl 12
def ZgB := opN Zl 13
def Zhq := opN Zl 14
def Zh6 := opN Zl 15
def Z4x := opN Zl 16
def ZhG := opN Zl 17
def Zfa := opN Zl 18
def Zgb := opN Zl 19
def Z4y := opN Zl 20
def ZeJ := opN Zl 21
def ZiO := opN Zl 22
def ZeG := opN Zl 23
theorem Z0hk : XG 10 201 Zqn Zl [9, 12, 13, 14, 15, 16, 156, 157, 158, 159, 160, 161, 162, 163, 164, 165, 166, 167, 168, 169, 170, 171, 172, 173, 174, 175, 176, 177, 178] := Z1 (by rfl) (by rfl) _
theorem ZT2 : Zl.toList = [Zmq, Zp8, Z1I, ZsT, Zt6, Zqm, ZtK, ZnQ, ZsJ, Zrx, Z2s, Zio, Zhs, ZgB, Zhq, Zh6, Z4x, ZhG, Zfa, Zgb, Z4y, ZeJ, ZiO, ZeG] := nf
theorem ZWA : stepA E C B 201 Zl Zmq (φ, H) = some (fput φ 156 (fget φ 13), H) := nf
theorem ZSC : stepA E C B 201 Zl Zp8 (φ, H) = stp (some 157) φ H (just (aBin E.T .neq 24 (fget φ 156) (.int .i64 0))) := nf
theorem ZPP : stepA E C B 201 Zl Z1I (φ, H) = some (fput φ 158 (fget φ 157), H) := nf
theorem ZRX : stepA E C B 201 Zl ZsT (φ, H) = gd φ 158 false (fun φ => some (fput φ 159 (.tup []), H)) (fun φ => some (fput φ 159 (fget φ 12), H)) := s_gd (j := 2) (oj := Z1I) rfl rfl rfl (fun _ => rfl) (fun _ => rfl)
theorem ZRH : stepA E C B 201 Zl Zt6 (φ, H) = gd φ 158 false (fun φ => some (fput φ 160 (.tup []), H)) (fun φ => some (fput φ 160 (fget φ 5), H)) := s_gd (j := 2) (oj := Z1I) rfl rfl rfl (fun _ => rfl) (fun _ => rfl)
theorem ZWf : stepA E C B 201 Zl Zqm (φ, H) = gd φ 158 false (fun φ => some (fput φ 161 (.tup []), H)) (fun φ => some (fput φ 161 (fget φ 9), H)) := s_gd (j := 2) (oj := Z1I) rfl rfl rfl (fun _ => rfl) (fun _ => rfl)
theorem ZOY : stepA E C B 201 Zl ZtK (φ, H) = gd φ 158 false (fun φ => some (fput φ 162 (.tup []), H)) (fun φ => stp (some 162) φ H (just (Z4 E.T 22 (fget φ 160) (fget φ 161)))) := s_gd (j := 2) (oj := Z1I) rfl rfl rfl (fun _ => rfl) (fun _ => rfl)
theorem ZSa : stepA E C B 201 Zl ZnQ (φ, H) = gd φ 158 false (fun φ => some (fput φ 163 (.tup []), H)) (fun φ => stp (some 163) φ H (just (aLoad E.T 3 (fget φ 162)))) := s_gd (j := 2) (oj := Z1I) rfl rfl rfl (fun _ => rfl) (fun _ => rfl)
theorem ZQ0 : stepA E C B 201 Zl ZsJ (φ, H) = gd φ 158 false (fun φ => some (fput φ 164 (.tup []), H)) (fun φ => stp (some 164) φ H (just (aBin E.T .neq 3 (fget φ 159) (fget φ 163)))) := s_gd (j := 2) (oj := Z1I) rfl rfl rfl (fun _ => rfl) (fun _ => rfl)
theorem ZWM : stepA E C B 201 Zl Zrx (φ, H) = stp (some 165) φ H (opPick (fget φ 158) (.bool true) (fget φ 164)) := nf
theorem ZNc : stepA E C B 201 Zl Z2s (φ, H) = some (fput φ 166 (fget φ 165), H) := nf
theorem ZH0 : stepA E C B 201 Zl Zio (φ, H) = gd φ 166 false (fun φ => some (fput φ 167 (.tup []), H)) (fun φ => some (fput φ 167 (fget φ 12), H)) := s_gd (j := 10) (oj := Z2s) rfl rfl rfl (fun _ => rfl) (fun _ => rfl)
theorem ZHM : stepA E C B 201 Zl Zhs (φ, H) = gd φ 166 false (fun φ => some (fput φ 168 (.tup []), H)) (fun φ => stp (some 168) φ H (just (aBin E.T .mul 3 (.int .i64 2) (fget φ 167)))) := s_gd (j := 10) (oj := Z2s) rfl rfl rfl (fun _ => rfl) (fun _ => rfl)
theorem ZIZ : stepA E C B 201 Zl ZgB (φ, H) = gd φ 166 false (fun φ => some (fput φ 169 (.tup []), H)) (fun φ => some (fput φ 169 (fget φ 16), H)) := s_gd (j := 10) (oj := Z2s) rfl rfl rfl (fun _ => rfl) (fun _ => rfl)
theorem ZIa : stepA E C B 201 Zl Zhq (φ, H) = gd φ 166 false (fun φ => some (fput φ 170 (.tup []), H)) (fun φ => stp (some 170) φ H (just (aBin E.T .neq 3 (fget φ 168) (fget φ 169)))) := s_gd (j := 10) (oj := Z2s) rfl rfl rfl (fun _ => rfl) (fun _ => rfl)
theorem ZKx : stepA E C B 201 Zl Zh6 (φ, H) = stp (some 171) φ H (opPick (fget φ 166) (.bool true) (fget φ 170)) := nf
theorem ZJo : stepA E C B 201 Zl Z4x (φ, H) = some (fput φ 172 (fget φ 171), H) := nf
theorem ZKJ : stepA E C B 201 Zl ZhG (φ, H) = gd φ 172 false (fun φ => some (fput φ 173 (.tup []), H)) (fun φ => some (fput φ 173 (fget φ 15), H)) := s_gd (j := 16) (oj := Z4x) rfl rfl rfl (fun _ => rfl) (fun _ => rfl)
theorem ZJu : stepA E C B 201 Zl Zfa (φ, H) = gd φ 172 false (fun φ => some (fput φ 174 (.tup []), H)) (fun φ => stp (some 174) φ H (just (aBin E.T .neq 24 (fget φ 173) (.int .i64 13)))) := s_gd (j := 16) (oj := Z4x) rfl rfl rfl (fun _ => rfl) (fun _ => rfl)
theorem ZLW : stepA E C B 201 Zl Zgb (φ, H) = stp (some 175) φ H (opPick (fget φ 172) (.bool true) (fget φ 174)) := nf
theorem ZHR : stepA E C B 201 Zl Z4y (φ, H) = some (fput φ 176 (fget φ 175), H) := nf
theorem ZLt : stepA E C B 201 Zl ZeJ (φ, H) = gd φ 176 false (fun φ => some (fput φ 177 (.tup []), H)) (fun φ => some (fput φ 177 (fget φ 14), H)) := s_gd (j := 20) (oj := Z4y) rfl rfl rfl (fun _ => rfl) (fun _ => rfl)
theorem ZKY : stepA E C B 201 Zl ZiO (φ, H) = gd φ 176 false (fun φ => some (fput φ 178 (.tup []), H)) (fun φ => stp (some 178) φ H (just (aBin E.T .neq 3 (fget φ 177) (.int .i64 0)))) := s_gd (j := 20) (oj := Z4y) rfl rfl rfl (fun _ => rfl) (fun _ => rfl)
theorem ZH8 : stepA E C B 201 Zl ZeG (φ, H) = stp (some 179) φ H (opPick (fget φ 176) (.bool true) (fget φ 178)) := nf
def ZaW := kR ZbJ
def Zd5 := kT ZaW
def ZlJ := kL Zd5
def Z9c := kO ZlJ
def Zoh := opN Z9c 0
theorem Z0g7 : XG 10 201 ZlJ Z9c [3, 4, 5, 6, 31, 32, 33, 179] := Z1 (by rfl) (by rfl) _
theorem ZRt : Z9c.toList = [Zoh] := nf
theorem ZV2 : stepA E C B 201 Z9c Zoh (φ, H) = some (fput φ 2 (.bool false), H) := nf
def ZI8 := kR Zd5
theorem Z0jB : execA E C (fg 10) B 201 E0 N ZI8 s = some (.ret, s) := Zo (by rfl) s
theorem Z0fC : XQ 10 201 Zd5 ZlJ ZI8 := Z0 (by rfl) _
def ZNf := kE ZaW
theorem Z0dU : execA E C (fg 10) B 201 E0 N ZNf s = some (.normal, s) := Zh (by rfl) s
theorem Z0fQ : XC 10 201 ZaW 179 Zd5 ZNf := Zf (by rfl) _
theorem Z0gf : XQ 10 201 ZbJ Zqn ZaW := Z0 (by rfl) _
theorem Z0j3 : XQ 10 201 Zb1 Z9Q ZbJ := Z0 (by rfl) _
theorem Z0fw : XQ 10 201 ZbD Zq8 Zb1 := Z0 (by rfl) _
theorem Z0gX : XQ 10 201 Za1 Zu5 ZbD := Z0 (by rfl) _
theorem Z0eS : XQ 10 201 Zb9 Zbd Za1 := Z0 (by rfl) _
theorem Z0j2 : XQ 10 201 Z9G Zbi Zb9 := Z0 (by rfl) _
theorem Z0dL : XQ 10 201 Zbh Zud Z9G := Z0 (by rfl) _
theorem Z0jz : XQ 10 201 Z9T Zpd Zbh := Z0 (by rfl) _
theorem Z0kJ : XQ 10 201 ZaH Zne Z9T := Z0 (by rfl) _
theorem Z0ke : XQ 10 201 ZcH Zp5 ZaH := Z0 (by rfl) _
theorem Z0jW : XQ 10 201 ZaG ZpQ ZcH := Z0 (by rfl) _
theorem Z0eO : execA E C (fg 10) B 201 E0 N Zom s = blockX 1 (fun s => (forget s.1 [124, 179], s.2)) (execA E C (fg 10) B 201 E0 N ZaG s) := Zi (by rfl) (by rfl) s
def ZtB := kR Z9A
def Z5g := kO ZtB
def Zs2 := opN Z5g 0
def ZoE := opN Z5g 1
theorem Z0e1 : XG 10 201 ZtB Z5g [180] := Z1 (by rfl) (by rfl) _
theorem ZUl : Z5g.toList = [Zs2, ZoE] := nf
theorem ZRU : stepA E C B 201 Z5g Zs2 (φ, H) = stp (some 180) φ H (just (aBin E.T .add 3 (fget φ 33) (.int .i64 1))) := nf
theorem ZTd : stepA E C B 201 Z5g ZoE (φ, H) = some (fput φ 33 (fget φ 180), H) := nf
theorem Z0i7 : XQ 10 201 Z9A Zom ZtB := Z0 (by rfl) _
theorem Z0jF : XQ 10 201 Z9H ZaI Z9A := Z0 (by rfl) _
theorem Z0hI : XQ 10 201 Z3q Ztc Z9H := Z0 (by rfl) _
theorem Z0eK : execA E C (fg 10) B 201 E0 N Zqj s = iterA (execA E C (fg 10) B 201 E0 N Z3q) (headA E0) N s := Z08 (by rfl) s
theorem Z0jq : execA E C (fg 10) B 201 E0 N Zst s = blockX 0 (fun s => (forget s.1 [4, 5, 31, 32, 33, 34], s.2)) (execA E C (fg 10) B 201 E0 N Zqj s) := Zi (by rfl) (by rfl) s
theorem Z0m9 : XQ 10 201 Zka Zps Zst := Z0 (by rfl) _
def Zd8 := kR Zjc
def Zsi := kL Zd8
def Z0C := kO Zsi
def ZlB := opN Z0C 0
def ZoB := opN Z0C 1
def Zrv := opN Z0C 2
def ZlN := opN Z0C 3
def ZlH := opN Z0C 4
def Zod := opN Z0C 5
def Zs6 := opN Z0C 6
theorem Z0io : XG 10 201 Zsi Z0C [181, 182, 183, 184, 185] := Z1 (by rfl) (by rfl) _
theorem ZRC : Z0C.toList = [ZlB, ZoB, Zrv, ZlN, ZlH, Zod, Zs6] := nf
theorem ZPw : stepA E C B 201 Z0C ZlB (φ, H) = some (fput φ 182 (fget φ 3), H) := nf
theorem ZPu : stepA E C B 201 Z0C ZoB (φ, H) = stp (some 183) φ H (aCall C (fun j => B + j * 201 + 183) true 37 [(fget φ 182)]) := nf
theorem ZPd : stepA E C B 201 Z0C Zrv (φ, H) = some (fput φ 181 (fget φ 183), H) := nf
theorem ZUX : stepA E C B 201 Z0C ZlN (φ, H) = stp (some 184) φ H (Zd (fget φ 181) 0) := nf
theorem ZRs : stepA E C B 201 Z0C ZlH (φ, H) = stp (some 185) φ H (Zd (fget φ 181) 1) := nf
theorem ZTC : stepA E C B 201 Z0C Zod (φ, H) = some (fput φ 18 (fget φ 184), H) := nf
theorem ZRN : stepA E C B 201 Z0C Zs6 (φ, H) = some (fput φ 19 (fget φ 185), H) := nf
def ZaM := kR Zd8
def ZrW := kL ZaM
def Zz := kO ZrW
def ZpX := opN Zz 0
def Zox := opN Zz 1
def Zrm := opN Zz 2
def Z5h := opN Zz 3
def ZlP := opN Zz 4
def Znc := opN Zz 5
def Zly := opN Zz 6
def Z47 := opN Zz 7
def Zub := opN Zz 8
def Zp3 := opN Zz 9
def Zhk := opN Zz 10
def Zi0 := opN Zz 11
def Z66 := opN Zz 12
def ZiE := opN Zz 13
def Zg3 := opN Zz 14
def Zfn := opN Zz 15
theorem Z0fO : XG 10 201 ZrW Zz [3, 6, 18, 19, 186, 187, 188, 189, 190, 191, 192, 193, 194, 195, 196, 197, 198, 199, 200] := Z1 (by rfl) (by rfl) _
theorem ZVw : Zz.toList = [ZpX, Zox, Zrm, Z5h, ZlP, Znc, Zly, Z47, Zub, Zp3, Zhk, Zi0, Z66, ZiE, Zg3, Zfn] := nf
theorem ZQP : stepA E C B 201 Zz ZpX (φ, H) = some (fput φ 186 (fget φ 3), H) := nf
theorem ZPa : stepA E C B 201 Zz Zox (φ, H) = stp (some 187) φ H (aCall C (fun j => B + j * 201 + 187) true 25 [(fget φ 186)]) := nf
theorem ZVJ : stepA E C B 201 Zz Zrm (φ, H) = stp (some 188) φ H (just (aBin E.T .eql 24 (fget φ 187) (.int .i64 0))) := nf
theorem ZVk : stepA E C B 201 Zz Z5h (φ, H) = some (fput φ 189 (fget φ 188), H) := nf
theorem ZPf : stepA E C B 201 Zz ZlP (φ, H) = gd φ 189 true (fun φ => some (fput φ 190 (.tup []), H)) (fun φ => some (fput φ 190 (fget φ 19), H)) := s_gd (j := 3) (oj := Z5h) rfl rfl rfl (fun _ => rfl) (fun _ => rfl)
theorem ZPj : stepA E C B 201 Zz Znc (φ, H) = gd φ 189 true (fun φ => some (fput φ 191 (.tup []), H)) (fun φ => stp (some 191) φ H (just (aBin E.T .eql 24 (fget φ 190) (.int .i64 0)))) := s_gd (j := 3) (oj := Z5h) rfl rfl rfl (fun _ => rfl) (fun _ => rfl)
theorem ZVG : stepA E C B 201 Zz Zly (φ, H) = stp (some 192) φ H (opPick (fget φ 189) (fget φ 191) (.bool false)) := nf
theorem ZR7 : stepA E C B 201 Zz Z47 (φ, H) = some (fput φ 193 (fget φ 192), H) := nf
theorem ZR9 : stepA E C B 201 Zz Zub (φ, H) = gd φ 193 true (fun φ => some (fput φ 194 (.tup []), H)) (fun φ => some (fput φ 194 (fget φ 18), H)) := s_gd (j := 7) (oj := Z47) rfl rfl rfl (fun _ => rfl) (fun _ => rfl)
theorem ZSh : stepA E C B 201 Zz Zp3 (φ, H) = gd φ 193 true (fun φ => some (fput φ 195 (.tup []), H)) (fun φ => some (fput φ 195 (fget φ 6), H)) := s_gd (j := 7) (oj := Z47) rfl rfl rfl (fun _ => rfl) (fun _ => rfl)
theorem ZKQ : stepA E C B 201 Zz Zhk (φ, H) = gd φ 193 true (fun φ => some (fput φ 196 (.tup []), H)) (fun φ => stp (some 196) φ H (aCall C (fun j => B + j * 201 + 196) true 41 [(fget φ 194), (fget φ 195)])) := s_gd (j := 7) (oj := Z47) rfl rfl rfl (fun _ => rfl) (fun _ => rfl)
theorem ZOF : stepA E C B 201 Zz Zi0 (φ, H) = stp (some 197) φ H (opPick (fget φ 193) (fget φ 196) (.bool false)) := nf
theorem ZJC : stepA E C B 201 Zz Z66 (φ, H) = some (fput φ 198 (fget φ 197), H) := nf
theorem ZNg : stepA E C B 201 Zz ZiE (φ, H) = gd φ 198 true (fun φ => some (fput φ 199 (.tup []), H)) (fun φ => stp (some 199) φ H (aCall C (fun j => B + j * 201 + 199) true 17 [])) := s_gd (j := 12) (oj := Z66) rfl rfl rfl (fun _ => rfl) (fun _ => rfl)
theorem ZGZ : stepA E C B 201 Zz Zg3 (φ, H) = stp (some 200) φ H (opPick (fget φ 198) (fget φ 199) (.bool false)) := nf
theorem ZMu : stepA E C B 201 Zz Zfn (φ, H) = some (fput φ 2 (fget φ 200), H) := nf
def ZKs := kR ZaM
theorem Z0eB : execA E C (fg 10) B 201 E0 N ZKs s = some (.ret, s) := Zo (by rfl) s
theorem Z0iF : XQ 10 201 ZaM ZrW ZKs := Z0 (by rfl) _
theorem Z0hj : XQ 10 201 Zd8 Zsi ZaM := Z0 (by rfl) _
theorem Z0mg : XQ 10 201 Zjc Zka Zd8 := Z0 (by rfl) _
theorem Z0or : XQ 10 201 Zkw ZFv Zjc := Z0 (by rfl) _
theorem Z0o0 : XQ 10 201 ZkU ZFM Zkw := Z0 (by rfl) _
theorem Z0l1 : XQ 10 201 Zkx ZGc ZkU := Z0 (by rfl) _
theorem Z0nr : XQ 10 201 ZaF ZEC Zkx := Z0 (by rfl) _
theorem Z0po : fInfo E 10 = some ⟨201, #[.tmp 2], ZaF⟩ := nf
theorem b_10 (args : List AV) : bodyA E C fg N 10 args H B = bodyX E [.tmp 2] (execA E C (fg 10) B 201 H N ZaF (Z5 args 0 [], H)) := Zp Z0po args H
abbrev F_10 := And.intro (And.intro (And.intro (And.intro (And.intro (And.intro (And.intro (And.intro @Z0nn @ZYy) (And.intro @Z02z (And.intro @ZZE @Z0n8))) (And.intro (And.intro @Z03S @ZZg) (And.intro @Z04Q (And.intro @Z03b @Z0oI)))) (And.intro (And.intro (And.intro @ZZ6 @Z08B) (And.intro @Z04x (And.intro @Z08D @Z04h))) (And.intro (And.intro @Z07N @ZXn) (And.intro @ZXb (And.intro @Z0o1 @Z0bJ))))) (And.intro (And.intro (And.intro (And.intro @ZXN @Z0jo) (And.intro @Z00S (And.intro @Z01y @Z016))) (And.intro (And.intro @ZXr @Z085) (And.intro @Z0ay (And.intro @Z02o @Z08v)))) (And.intro (And.intro (And.intro @Z0ks @Z0bC) (And.intro @Z09y (And.intro @Z0jY @Z0gm))) (And.intro (And.intro @Z0jP (And.intro @Z0ec @Z076)) (And.intro @Z05P (And.intro @Z04Y @ZXv)))))) (And.intro (And.intro (And.intro (And.intro (And.intro @Z02c @Z0fm) (And.intro @Z070 (And.intro @Z08P @Z01Q))) (And.intro (And.intro @Z08Y @ZZL) (And.intro @Z0ki (And.intro @Z0cj @Z00T)))) (And.intro (And.intro (And.intro @Z0bZ @Z09t) (And.intro @Z07W (And.intro @Z07G @Z0aL))) (And.intro (And.intro @Z03W @Z05L) (And.intro @Z0jd (And.intro @Z09W @Z052))))) (And.intro (And.intro (And.intro (And.intro @Z08K @Z08n) (And.intro @Z07d (And.intro @Z08y @Z03M))) (And.intro (And.intro @ZZa @ZYU) (And.intro @Z0ge (And.intro @ZQW @ZVF)))) (And.intro (And.intro (And.intro @ZWw @ZRz) (And.intro @ZUr (And.intro @ZUZ @ZUe))) (And.intro (And.intro @ZTW (And.intro @ZP1 @Z0e3)) (And.intro @ZQ8 (And.intro @ZVn @ZWO))))))) (And.intro (And.intro (And.intro (And.intro (And.intro (And.intro @ZW2 @ZOS) (And.intro @ZUJ (And.intro @ZPV @ZWz))) (And.intro (And.intro @ZQB @ZQk) (And.intro @ZSS (And.intro @ZNW @ZMd)))) (And.intro (And.intro (And.intro @ZLi @ZOp) (And.intro @ZK1 (And.intro @Z0eg @ZWv))) (And.intro (And.intro @ZTo @Z0k1) (And.intro @Z0gI (And.intro @Z0kx @Z0e7))))) (And.intro (And.intro (And.intro (And.intro @Z0hZ @Z0i3) (And.intro @ZTE (And.intro @ZVz @ZUW))) (And.intro (And.intro @Z0iT @ZQV) (And.intro @ZMm (And.intro @ZHj @ZVr)))) (And.intro (And.intro (And.intro @ZTQ @ZT0) (And.intro @ZRx (And.intro @ZSH @ZUR))) (And.intro (And.intro @ZQ9 (And.intro @ZQx @ZPc)) (And.intro @ZQe (And.intro @ZOA @ZHw)))))) (And.intro (And.intro (And.intro (And.intro (And.intro @ZKl @ZI2) (And.intro @ZOf (And.intro @ZJi @ZNj))) (And.intro (And.intro @ZJr @ZJD) (And.intro @ZKU (And.intro @ZLY @ZO8)))) (And.intro (And.intro (And.intro @ZHE @ZJV) (And.intro @ZJQ (And.intro @ZJR @ZKz))) (And.intro (And.intro @ZMZ @ZI7) (And.intro @ZHh (And.intro @ZMT @ZMD))))) (And.intro (And.intro (And.intro (And.intro @ZKZ @ZIO) (And.intro @ZLV (And.intro @ZIB @ZJO))) (And.intro (And.intro @ZIE @ZLj) (And.intro @ZLy (And.intro @ZHB @ZN4)))) (And.intro (And.intro (And.intro @ZHf @ZNN) (And.intro @ZIs (And.intro @ZIL @ZKA))) (And.intro (And.intro @ZM7 (And.intro @ZN8 @ZK7)) (And.intro @Z0hL (And.intro @ZW5 @ZWb)))))))) (And.intro (And.intro (And.intro (And.intro (And.intro (And.intro (And.intro @Z0fe @Z0kt) (And.intro @Z0er (And.intro @Z0f7 @Z0ko))) (And.intro (And.intro @Z0kq @Z0iU) (And.intro @Z0f0 (And.intro @Z0jm @Z0fB)))) (And.intro (And.intro (And.intro @Z0eV @ZSZ) (And.intro @ZWG (And.intro @ZVK @ZVU))) (And.intro (And.intro @ZVj @ZQm) (And.intro @Z0iz (And.intro @ZW7 @ZTl))))) (And.intro (And.intro (And.intro (And.intro @Z0hO @ZQT) (And.intro @ZOZ (And.intro @ZOW @ZWi))) (And.intro (And.intro @Z0gP @ZWP) (And.intro @ZTJ (And.intro @Z0dt @Z0kK)))) (And.intro (And.intro (And.intro @Z0g5 @Z0gR) (And.intro @ZR4 (And.intro @ZTe @ZTY))) (And.intro (And.intro @Z0fV (And.intro @ZUH @ZNV)) (And.intro @ZIi (And.intro @ZQI @ZPU)))))) (And.intro (And.intro (And.intro (And.intro (And.intro @ZS4 @ZP3) (And.intro @ZTg (And.intro @ZOR @ZUb))) (And.intro (And.intro @ZSt @ZTy) (And.intro @ZQ3 (And.intro @ZKp @ZNA)))) (And.intro (And.intro (And.intro @ZLd @ZOP) (And.intro @ZHO (And.intro @ZMO @ZHG))) (And.intro (And.intro @ZJK @ZLl) (And.intro @ZO4 (And.intro @ZNr @ZLk))))) (And.intro (And.intro (And.intro (And.intro @Z0hA @Z0iO) (And.intro @Z0hF (And.intro @ZSd @ZPJ))) (And.intro (And.intro @ZUN @Z0gF) (And.intro @Z0dV (And.intro @Z0eM @Z0j7)))) (And.intro (And.intro (And.intro @Z0jG @Z0cH) (And.intro @Z0hk (And.intro @ZT2 @ZWA))) (And.intro (And.intro @ZSC (And.intro @ZPP @ZRX)) (And.intro @ZRH (And.intro @ZWf @ZOY))))))) (And.intro (And.intro (And.intro (And.intro (And.intro (And.intro @ZSa @ZQ0) (And.intro @ZWM (And.intro @ZNc @ZH0))) (And.intro (And.intro @ZHM @ZIZ) (And.intro @ZIa (And.intro @ZKx @ZJo)))) (And.intro (And.intro (And.intro @ZKJ @ZJu) (And.intro @ZLW (And.intro @ZHR @ZLt))) (And.intro (And.intro @ZKY @ZH8) (And.intro @Z0g7 (And.intro @ZRt @ZV2))))) (And.intro (And.intro (And.intro (And.intro @Z0jB @Z0fC) (And.intro @Z0dU (And.intro @Z0fQ @Z0gf))) (And.intro (And.intro @Z0j3 @Z0fw) (And.intro @Z0gX (And.intro @Z0eS @Z0j2)))) (And.intro (And.intro (And.intro @Z0dL @Z0jz) (And.intro @Z0kJ (And.intro @Z0ke @Z0jW))) (And.intro (And.intro @Z0eO (And.intro @Z0e1 @ZUl)) (And.intro @ZRU (And.intro @ZTd @Z0i7)))))) (And.intro (And.intro (And.intro (And.intro (And.intro @Z0jF @Z0hI) (And.intro @Z0eK (And.intro @Z0jq @Z0m9))) (And.intro (And.intro @Z0io @ZRC) (And.intro @ZPw (And.intro @ZPu @ZPd)))) (And.intro (And.intro (And.intro @ZUX @ZRs) (And.intro @ZTC (And.intro @ZRN @Z0fO))) (And.intro (And.intro @ZVw @ZQP) (And.intro @ZPa (And.intro @ZVJ @ZVk))))) (And.intro (And.intro (And.intro (And.intro @ZPf @ZPj) (And.intro @ZVG (And.intro @ZR7 @ZR9))) (And.intro (And.intro @ZSh @ZKQ) (And.intro @ZOF (And.intro @ZJC @ZNg)))) (And.intro (And.intro (And.intro @ZGZ @ZMu) (And.intro @Z0eB (And.intro @Z0iF @Z0hj))) (And.intro (And.intro @Z0mg (And.intro @Z0or @Z0o0)) (And.intro @Z0l1 (And.intro @Z0nr @b_10))))))))
end Go.AM.Ytfmnoohhhokicaa
end
noncomputable section
namespace Go.AM.Ytfmnoohhhokicaa
open Go Go.AM Go.AM.Rub
abbrev rwK (i j k : Nat) : AV := .clo 105 [.ptr i 0 1, .ptr j 0 1, .ptr k 0 1]
abbrev rhA (l : List Int) (n : Nat) : AHeap := [(0, ⟨.row, ics l⟩), (1, ⟨.box, [.int .i64 n]⟩), (2, ⟨.box, [.nilsl]⟩), (3, ⟨.box, [rwK 1 2 3]⟩)]
abbrev rhB (l : List Int) (n : Nat) (L : List (List Int)) : AHeap := [(0, ⟨.row, ics l⟩), (1, ⟨.box, [.int .i64 n]⟩), (2, ⟨.box, [.ref 3 0 L.length L.length L.length 1 false]⟩), (3, ⟨.row, lcs L⟩), (4, ⟨.box, [rwK 1 2 4]⟩)]
structure RoA (l : List Int) (n : Nat) (new : List (List Int)) (H : AHeap) (id : Nat) (st : BS) : Prop where
 h0 : hget H 0 = some ⟨st, ics l⟩
 st : st = .row ∨ st = .froz
 h1 : hget H 1 = some ⟨.box, [.int .i64 n]⟩
 h2 : hget H 2 = some ⟨.box, [oV id 1 new.length]⟩
 h3 : hget H 3 = some ⟨.box, [rwK 1 2 3]⟩
 id4 : 4 ≤ id
 hr : 0 < new.length → hget H id = some ⟨.row, lcs new⟩
structure RoB (l : List Int) (n : Nat) (L : List (List Int)) (H : AHeap) (st : BS) : Prop where
 h0 : hget H 0 = some ⟨st, ics l⟩
 st : st = .row ∨ st = .froz
 h1 : hget H 1 = some ⟨.box, [.int .i64 n]⟩
 h2 : hget H 2 = some ⟨.box, [.ref 3 0 L.length L.length L.length 1 false]⟩
 h3 : hget H 3 = some ⟨.row, lcs L⟩
 h4 : hget H 4 = some ⟨.box, [rwK 1 2 4]⟩
structure RoC (d : Nat) (l : List Int) (n k m : Nat) (left most : Int) : Prop where
 a : ∃ H id st, pF d 105 [.ref 0 0 k k k 1 false, .int .i64 left, .int .i64 most, .ptr 1 0 1, .ptr 2 0 1, .ptr 3 0 1] (rhA l n) 64 = some (.tup [], H) ∧ RoA l n (fuR l m left most) H id st
 b : ∀ L : List (List Int), 0 < L.length → L.length + 9 ^ m ≤ 900000 → ∃ H st, pF d 105 [.ref 0 0 k k k 1 false, .int .i64 left, .int .i64 most, .ptr 1 0 1, .ptr 2 0 1, .ptr 4 0 1] (rhB l n L) 64 = some (.tup [], H) ∧ RoB l n (L ++ fuR l m left most) H st
theorem newsA {l : List Int} {n : Nat} {new : List (List Int)} {H : AHeap} {id : Nat} {st : BS} (h : RoA l n new H id st) : newsF H (.tup []) 4 = if new = [] then [] else [id] := by
 obtain ⟨h0, hs, h1, h2, h3, h4, hr⟩ := h
 have e : refsOf (.tup []) ++ List.range 4 = [0, 1, 2, 3] := rfl
 unfold newsF
 rw [e]
 cases hn : new with
 | nil =>
   subst hn
   rw [if_pos rfl]
   have hv : oV id 1 ([] : List (List Int)).length = .nilsl := rfl
   rw [hv] at h2
   rcases hs with rfl | rfl <;> simp [mark, h0, h1, h2, h3, refsL, refsOf]
 | cons x xs =>
   rw [← hn]
   have hp : 0 < new.length := by rw [hn]; simp
   rw [if_neg (by rw [hn]; simp)]
   rw [ZN hp] at h2
   have hr := hr hp
   have c0 : (id == 0) = false := by rw [beq_eq_false_iff_ne]; omega
   have c1 : (id == 1) = false := by rw [beq_eq_false_iff_ne]; omega
   have c2 : (id == 2) = false := by rw [beq_eq_false_iff_ne]; omega
   have c3 : (3 == id) = false := by rw [beq_eq_false_iff_ne]; omega
   have c4 : ¬ id < 4 := by omega
   have d0 : ¬ id = 0 := by omega
   have d1 : ¬ id = 1 := by omega
   have d2 : ¬ id = 2 := by omega
   have d3 : ¬ id = 3 := by omega
   have d3' : ¬ 3 = id := by omega
   have d2' : ¬ 2 = id := by omega
   have d1' : ¬ 1 = id := by omega
   rcases hs with rfl | rfl <;> simp [mark, h0, h1, h2, h3, hr, refsL, refsOf, d0, d1, d2, d1', d2', d3', h4]
theorem newsB {l : List Int} {n : Nat} {L : List (List Int)} {H : AHeap} {st : BS} (h : RoB l n L H st) : newsF H (.tup []) 5 = [] := by
 obtain ⟨h0, hs, h1, h2, h3, h4⟩ := h
 have e : refsOf (.tup []) ++ List.range 5 = [0, 1, 2, 3, 4] := rfl
 unfold newsF
 rw [e]
 rcases hs with rfl | rfl <;> simp [mark, h0, h1, h2, h3, h4, refsL, refsOf]
end Go.AM.Ytfmnoohhhokicaa
end
noncomputable section
namespace Go.AM.Ytfmnoohhhokicaa
open Go Go.AM Go.AM.Rub
noncomputable section
variable {d : Nat} {l l' : List Int} {n k m : Nat} {left most : Int} {c : List AV}
theorem ZLp (hC : RoC d l' n k m left most) (_ : l'.length = k) : ∃ st, kF d 105 [.ref 100 0 k k k 1 false, .int .i64 left, .int .i64 most, .ptr 1 0 1, .ptr 2 0 1, .ptr 3 0 1]
     [(0, ⟨.row, ics l⟩), (1, ⟨.box, [.int .i64 n]⟩), (2, ⟨.box, [.nilsl]⟩), (3, ⟨.box, [rwK 1 2 3]⟩), (99, ⟨.row, c⟩), (100, ⟨.row, ics l'⟩)] 400 =
   some (.tup [], (0, ⟨.row, ics l⟩) :: (1, ⟨.box, [.int .i64 n]⟩) :: (2, ⟨.box, [oV 400 1 (fuR l' m left most).length]⟩) :: (3, ⟨.box, [rwK 1 2 3]⟩) :: (99, ⟨.row, c⟩) :: (100, ⟨st, ics l'⟩) :: oH 400 (lcs (fuR l' m left most))) := by
 obtain ⟨H, id, st, hp, ro⟩ := hC.a
 refine ⟨st, ?_⟩
 rw [Z1k rfl]
 have hks : (mark [(0, ⟨.row, ics l⟩), (1, ⟨.box, [.int .i64 n]⟩), (2, ⟨.box, [.nilsl]⟩), (3, ⟨.box, [rwK 1 2 3]⟩), (99, ⟨.row, c⟩), (100, ⟨.row, ics l'⟩)] 1000 (refsL [.ref 100 0 k k k 1 false, .int .i64 left, .int .i64 most, .ptr 1 0 1, .ptr 2 0 1, .ptr 3 0 1]) []).reverse = [100, 1, 2, 3] := rfl
 have hap : AM.apart [100, 1, 2, 3] = true := rfl
 have e1 : renL (posF [100, 1, 2, 3] 0) [.ref 100 0 k k k 1 false, .int .i64 left, .int .i64 most, .ptr 1 0 1, .ptr 2 0 1, .ptr 3 0 1] = some [.ref 0 0 k k k 1 false, .int .i64 left, .int .i64 most, .ptr 1 0 1, .ptr 2 0 1, .ptr 3 0 1] := rfl
 have e2 : foc (posF [100, 1, 2, 3] 0) [(0, ⟨.row, ics l⟩), (1, ⟨.box, [.int .i64 n]⟩), (2, ⟨.box, [.nilsl]⟩), (3, ⟨.box, [rwK 1 2 3]⟩), (99, ⟨.row, c⟩), (100, ⟨.row, ics l'⟩)] 0 [100, 1, 2, 3] = some (rhA l' n) := rfl
 have hn := newsA ro
 obtain ⟨h0, hs, h1, h2, h3, h4, hr⟩ := ro
 have hlen : (ics l').length = (ics l').length := rfl
 have hl4 : ([100, 1, 2, 3] : List Nat).length = 4 := rfl
 have er : List.range 4 = [0, 1, 2, 3] := rfl
 rw [hks]
 unfold focus
 rw [if_pos hap]
 simp only [e1, e2, hp, backF, hl4, hn, er]
 rcases ocvL 400 (fuR l' m left most) with ⟨hn0, o1, o2⟩ | ⟨hp0, o1, o2⟩
 · rw [o1, o2]
   rw [hn0] at h2
   have hv : oV id 1 ([] : List (List Int)).length = .nilsl := rfl
   rw [hv] at h2
   rcases hs with rfl | rfl <;>
   simp only [hn0, if_true, List.length_nil, baseF, freeL, AM.apart, List.append_nil, ren, renL, unf, outF, posF, h0, h1, h2, h3, List.getElem?_cons_zero, List.getElem?_cons_succ, Nat.reduceLT, if_true, goodB, BS.open_, Bool.true_or, Bool.false_or, rhA, Zw, decide_true, Bool.and_self, renB, hl4, upds, Zu, Zy, Nat.reduceEqDiff, Nat.reduceLeDiff, if_false, Nat.reduceAdd, reduceCtorEq]
 · rw [o1, o2]
   rw [ZN hp0] at h2
   have hr := hr hp0
   have hne : ¬ fuR l' m left most = [] := fun e => by rw [e] at hp0; simp at hp0
   have c4 : ¬ id < 4 := by omega
   have hbase : baseF [(0, ⟨.row, ics l⟩), (1, ⟨.box, [.int .i64 n]⟩), (2, ⟨.box, [.nilsl]⟩), (3, ⟨.box, [rwK 1 2 3]⟩), (99, ⟨.row, c⟩), (100, ⟨.row, ics l'⟩)] 1 8 400 = some 400 := rfl
   rcases hs with rfl | rfl <;>
   simp only [hne, if_false, List.length_cons, List.length_nil, Nat.zero_add, hbase, AM.apart, List.elem_nil, Bool.not_false, Bool.and_self, if_true, List.cons_append, List.nil_append, ren, renL, unf, outF, posF, h0, h1, h2, h3, hr, c4, List.getElem?_cons_zero, List.getElem?_cons_succ, Nat.reduceLT, goodB, BS.open_, Bool.true_or, Bool.false_or, rhA, Zw, decide_true, renB, hl4, upds, Zu, Zy, Nat.reduceEqDiff, Nat.reduceLeDiff, Nat.add_zero, reduceCtorEq]
theorem ZLD (hC : RoC d l' n k m left most) {L : List (List Int)} (h0 : 0 < L.length) (h8 : L.length + 9 ^ m ≤ 900000) : ∃ st, kF d 105 [.ref 100 0 k k k 1 false, .int .i64 left, .int .i64 most, .ptr 1 0 1, .ptr 2 0 1, .ptr 3 0 1]
     [(0, ⟨.row, ics l⟩), (1, ⟨.box, [.int .i64 n]⟩), (2, ⟨.box, [.ref 400 0 L.length L.length L.length 1 false]⟩), (3, ⟨.box, [rwK 1 2 3]⟩), (99, ⟨.row, c⟩), (100, ⟨.row, ics l'⟩), (400, ⟨.row, lcs L⟩)] 400 =
   some (.tup [], [(0, ⟨.row, ics l⟩), (1, ⟨.box, [.int .i64 n]⟩), (2, ⟨.box, [.ref 400 0 (L ++ fuR l' m left most).length (L ++ fuR l' m left most).length (L ++ fuR l' m left most).length 1 false]⟩), (3, ⟨.box, [rwK 1 2 3]⟩), (99, ⟨.row, c⟩), (100, ⟨st, ics l'⟩), (400, ⟨.row, lcs (L ++ fuR l' m left most)⟩)]) := by
 obtain ⟨H, st, hp, ro⟩ := hC.b L h0 h8
 refine ⟨st, ?_⟩
 rw [Z1k rfl]
 have hks : (mark [(0, ⟨.row, ics l⟩), (1, ⟨.box, [.int .i64 n]⟩), (2, ⟨.box, [.ref 400 0 L.length L.length L.length 1 false]⟩), (3, ⟨.box, [rwK 1 2 3]⟩), (99, ⟨.row, c⟩), (100, ⟨.row, ics l'⟩), (400, ⟨.row, lcs L⟩)] 1000 (refsL [.ref 100 0 k k k 1 false, .int .i64 left, .int .i64 most, .ptr 1 0 1, .ptr 2 0 1, .ptr 3 0 1]) []).reverse = [100, 1, 2, 400, 3] := rfl
 have hap : AM.apart [100, 1, 2, 400, 3] = true := rfl
 have e1 : renL (posF [100, 1, 2, 400, 3] 0) [.ref 100 0 k k k 1 false, .int .i64 left, .int .i64 most, .ptr 1 0 1, .ptr 2 0 1, .ptr 3 0 1] = some [.ref 0 0 k k k 1 false, .int .i64 left, .int .i64 most, .ptr 1 0 1, .ptr 2 0 1, .ptr 4 0 1] := rfl
 have e2 : foc (posF [100, 1, 2, 400, 3] 0) [(0, ⟨.row, ics l⟩), (1, ⟨.box, [.int .i64 n]⟩), (2, ⟨.box, [.ref 400 0 L.length L.length L.length 1 false]⟩), (3, ⟨.box, [rwK 1 2 3]⟩), (99, ⟨.row, c⟩), (100, ⟨.row, ics l'⟩), (400, ⟨.row, lcs L⟩)] 0 [100, 1, 2, 400, 3] = some (rhB l' n L) := rfl
 have hn := newsB ro
 obtain ⟨h0, hs, h1, h2, h3, h4⟩ := ro
 have hl5 : ([100, 1, 2, 400, 3] : List Nat).length = 5 := rfl
 have er : List.range 5 = [0, 1, 2, 3, 4] := rfl
 rw [hks]
 unfold focus
 rw [if_pos hap]
 simp only [e1, e2, hp, backF, hl5, hn, er]
 rcases hs with rfl | rfl <;>
 simp only [List.length_nil, baseF, freeL, AM.apart, if_true, List.append_nil, ren, renL, unf, outF, posF, h0, h1, h2, h3, h4, List.getElem?_cons_zero, List.getElem?_cons_succ, Nat.reduceLT, goodB, BS.open_, Bool.true_or, Bool.false_or, rhB, Zw, decide_true, Bool.and_self, renB, hl5, upds, Zu, Zy, Nat.reduceEqDiff, Nat.reduceLeDiff, if_false, Nat.reduceAdd, reduceCtorEq]
theorem ZWJ (hC : RoC d l' n k m left most) {L : List (List Int)} (h0 : 0 < L.length) (h8 : L.length + 9 ^ m ≤ 900000) : ∃ st, kF d 105 [.ref 100 0 k k k 1 false, .int .i64 left, .int .i64 most, .ptr 1 0 1, .ptr 2 0 1, .ptr 4 0 1]
     [(0, ⟨.row, ics l⟩), (1, ⟨.box, [.int .i64 n]⟩), (2, ⟨.box, [.ref 3 0 L.length L.length L.length 1 false]⟩), (3, ⟨.row, lcs L⟩), (4, ⟨.box, [rwK 1 2 4]⟩), (99, ⟨.row, c⟩), (100, ⟨.row, ics l'⟩)] 400 =
   some (.tup [], [(0, ⟨.row, ics l⟩), (1, ⟨.box, [.int .i64 n]⟩), (2, ⟨.box, [.ref 3 0 (L ++ fuR l' m left most).length (L ++ fuR l' m left most).length (L ++ fuR l' m left most).length 1 false]⟩), (3, ⟨.row, lcs (L ++ fuR l' m left most)⟩), (4, ⟨.box, [rwK 1 2 4]⟩), (99, ⟨.row, c⟩), (100, ⟨st, ics l'⟩)]) := by
 obtain ⟨H, st, hp, ro⟩ := hC.b L h0 h8
 refine ⟨st, ?_⟩
 rw [Z1k rfl]
 have hks : (mark [(0, ⟨.row, ics l⟩), (1, ⟨.box, [.int .i64 n]⟩), (2, ⟨.box, [.ref 3 0 L.length L.length L.length 1 false]⟩), (3, ⟨.row, lcs L⟩), (4, ⟨.box, [rwK 1 2 4]⟩), (99, ⟨.row, c⟩), (100, ⟨.row, ics l'⟩)] 1000 (refsL [.ref 100 0 k k k 1 false, .int .i64 left, .int .i64 most, .ptr 1 0 1, .ptr 2 0 1, .ptr 4 0 1]) []).reverse = [100, 1, 2, 3, 4] := rfl
 have hap : AM.apart [100, 1, 2, 3, 4] = true := rfl
 have e1 : renL (posF [100, 1, 2, 3, 4] 0) [.ref 100 0 k k k 1 false, .int .i64 left, .int .i64 most, .ptr 1 0 1, .ptr 2 0 1, .ptr 4 0 1] = some [.ref 0 0 k k k 1 false, .int .i64 left, .int .i64 most, .ptr 1 0 1, .ptr 2 0 1, .ptr 4 0 1] := rfl
 have e2 : foc (posF [100, 1, 2, 3, 4] 0) [(0, ⟨.row, ics l⟩), (1, ⟨.box, [.int .i64 n]⟩), (2, ⟨.box, [.ref 3 0 L.length L.length L.length 1 false]⟩), (3, ⟨.row, lcs L⟩), (4, ⟨.box, [rwK 1 2 4]⟩), (99, ⟨.row, c⟩), (100, ⟨.row, ics l'⟩)] 0 [100, 1, 2, 3, 4] = some (rhB l' n L) := rfl
 have hn := newsB ro
 obtain ⟨h0, hs, h1, h2, h3, h4⟩ := ro
 have hl5 : ([100, 1, 2, 3, 4] : List Nat).length = 5 := rfl
 have er : List.range 5 = [0, 1, 2, 3, 4] := rfl
 rw [hks]
 unfold focus
 rw [if_pos hap]
 simp only [e1, e2, hp, backF, hl5, hn, er]
 rcases hs with rfl | rfl <;>
 simp only [List.length_nil, baseF, freeL, AM.apart, if_true, List.append_nil, ren, renL, unf, outF, posF, h0, h1, h2, h3, h4, List.getElem?_cons_zero, List.getElem?_cons_succ, Nat.reduceLT, goodB, BS.open_, Bool.true_or, Bool.false_or, rhB, Zw, decide_true, Bool.and_self, renB, hl5, upds, Zu, Zy, Nat.reduceEqDiff, Nat.reduceLeDiff, if_false, Nat.reduceAdd, reduceCtorEq]
end
end Go.AM.Ytfmnoohhhokicaa
end
noncomputable section
namespace Go.AM.Ytfmnoohhhokicaa
open Go Go.AM Go.AM.Rub
theorem Z09h {d : Nat} {l : List Int} {n : Nat} {left most : Int} (hl : l.length = n) : RoC (d + 1) l n n 0 left most := by
 have hlen : (ics l).length = n := by rw [Za, hl]
 have htk : List.take n (ics l) = ics l := List.take_of_length_le (by omega)
 have em : AV.imm (ics l) n false = .imm (ics l) l.length false := by rw [hl]
 constructor
 · rw [pF_s, Zoa]
   by_cases h : left = 0
   · rw [if_pos h]
     subst h
     generalize kF d = C
     simp only [rhA]
     have e : lcs [l] = [.imm (ics l) n false] := by show [AV.imm (ics l) l.length false] = _; rw [hl]
     simp (disch := omega) only [ZF, Z5, stp, just, Rd.bind, Rd.run, Rd.opt, upds, acells, zeroCells, tsz, elemT, rdCells, aLoad, aStore, opStore, resA, resL, fresh, aLen, Z3, aBin, aInt, putC, evO, Nat.reduceAdd, Nat.reduceLT, Nat.reduceBEq, Nat.reduceEqDiff, Nat.reduceLeDiff, ↓reduceIte, reduceCtorEq, Z9, Zk, partsOf, fillA, repC, Zm, aAppend, srcOf, window, snaps, ZT, Z12, hlen, htk, Z2w (show 1 ≤ 1000000 by omega)]
     exact ⟨_, 83, .froz, rfl, ⟨rfl, .inr rfl, rfl, rfl, rfl, by omega, fun _ => by rw [e]; rfl⟩⟩
   · rw [if_neg h]
     have h' : (left == 0) = false := by rw [beq_eq_false_iff_ne]; exact h
     generalize kF d = C
     simp only [rhA]
     simp (disch := omega) only [ZF, Z5, stp, just, Rd.bind, Rd.run, Rd.opt, upds, acells, zeroCells, tsz, elemT, rdCells, aLoad, resA, resL, fresh, aLen, Z3, aBin, aInt, putC, evO, Nat.reduceAdd, Nat.reduceLT, Nat.reduceBEq, Nat.reduceEqDiff, Nat.reduceLeDiff, ↓reduceIte, reduceCtorEq, Z9, Zk, partsOf, fillA, repC, Zm, aAppend, srcOf, window, snaps, ZT, Z12, hlen, h']
     exact ⟨_, 83, .row, rfl, ⟨rfl, .inl rfl, rfl, rfl, rfl, by omega, fun h => by simp at h⟩⟩
 · intro L h0 h8
   rw [pF_s, Zoa]
   have hlo := Zq L
   have hto := Z1N L
   by_cases h : left = 0
   · rw [if_pos h]
     subst h
     generalize kF d = C
     have hsn := Z40 L l
     rw [← em] at hsn
     have hno : ¬ L.length + 1 ≤ L.length := by omega
     simp only [rhB]
     have key : ∀ (A : List AV) (m : Nat), A.length = m → List.take m A = A → ¬ m + 1 ≤ m → m + 1 ≤ 1000000 → ∃ H st, bodyA E C fg 1000000 105 [.ref 0 0 n n n 1 false, .int .i64 0, .int .i64 most, .ptr 1 0 1, .ptr 2 0 1, .ptr 4 0 1] [(0, ⟨.row, ics l⟩), (1, ⟨.box, [.int .i64 n]⟩), (2, ⟨.box, [.ref 3 0 m m m 1 false]⟩), (3, ⟨.row, A⟩), (4, ⟨.box, [rwK 1 2 4]⟩)] 64 = some (.tup [], H) ∧
         (hget H 0 = some ⟨st, ics l⟩ ∧ (st = .row ∨ st = .froz) ∧ hget H 1 = some ⟨.box, [.int .i64 n]⟩ ∧ hget H 2 = some ⟨.box, [.ref 3 0 (m + 1) (m + 1) (m + 1) 1 false]⟩ ∧ hget H 3 = some ⟨.row, A ++ [.imm (ics l) n false]⟩ ∧ hget H 4 = some ⟨.box, [rwK 1 2 4]⟩) := by
       intro A m q1 q2 q3 q4
       simp (disch := omega) only [ZF, Z5, stp, just, Rd.bind, Rd.run, Rd.opt, upds, acells, zeroCells, tsz, elemT, rdCells, aLoad, aStore, opStore, resA, resL, fresh, aLen, Z3, aBin, aInt, putC, evO, Nat.reduceAdd, Nat.reduceLT, Nat.reduceBEq, Nat.reduceEqDiff, Nat.reduceLeDiff, ↓reduceIte, reduceCtorEq, Z9, Zk, partsOf, fillA, repC, Zm, aAppend, srcOf, window, snaps, ZT, Z12, hlen, htk, q1, q2, q3, Z2w q4]
       exact ⟨_, .froz, rfl, rfl, .inr rfl, rfl, rfl, rfl, rfl⟩
     obtain ⟨H, st, p1, p2, p3, p4, p5, p6, p7⟩ := key (lcs L) L.length hlo hto hno (by omega)
     refine ⟨H, st, p1, ⟨p2, p3, p4, by rw [List.length_append]; exact p5, by rw [← hsn]; exact p6, p7⟩⟩
   · rw [if_neg h, List.append_nil]
     have h' : (left == 0) = false := by rw [beq_eq_false_iff_ne]; exact h
     generalize kF d = C
     simp only [rhB]
     simp (disch := omega) only [ZF, Z5, stp, just, Rd.bind, Rd.run, Rd.opt, upds, acells, zeroCells, tsz, elemT, rdCells, aLoad, resA, resL, fresh, aLen, Z3, aBin, aInt, putC, evO, Nat.reduceAdd, Nat.reduceLT, Nat.reduceBEq, Nat.reduceEqDiff, Nat.reduceLeDiff, ↓reduceIte, reduceCtorEq, Z9, Zk, partsOf, fillA, repC, Zm, aAppend, srcOf, window, snaps, ZT, Z12, hlen, h', if_pos]
     exact ⟨_, .row, rfl, ⟨rfl, .inl rfl, rfl, rfl, rfl, rfl⟩⟩
theorem Z3O (caps args : List AV) : mutV E (.clo 105 caps) args = some (105, args ++ caps) := rfl
abbrev rsA (l : List Int) (n k : Nat) (left t : Int) (L : List (List Int)) : St :=
 ([(9, .int .i64 t), (5, .ptr 3 0 1), (1, .int .i64 left), (0, .ref 0 0 k k k 1 false)], (0, ⟨.row, ics l⟩) :: (1, ⟨.box, [.int .i64 n]⟩) :: (2, ⟨.box, [oV 400 1 L.length]⟩) :: (3, ⟨.box, [rwK 1 2 3]⟩) :: oH 400 (lcs L))
abbrev rsB (l : List Int) (n k : Nat) (left t : Int) (L : List (List Int)) : St :=
 ([(9, .int .i64 t), (5, .ptr 4 0 1), (1, .int .i64 left), (0, .ref 0 0 k k k 1 false)], [(0, ⟨.row, ics l⟩), (1, ⟨.box, [.int .i64 n]⟩), (2, ⟨.box, [.ref 3 0 L.length L.length L.length 1 false]⟩), (3, ⟨.row, lcs L⟩), (4, ⟨.box, [rwK 1 2 4]⟩)])
theorem Z0ie {d : Nat} {l : List Int} {n k m : Nat} {left t : Int} (hl : l.length = k) (h9 : k ≤ 1000) (ht : 0 ≤ t ∧ t ≤ 1000) (hlf : 0 ≤ left ∧ left ≤ 1000) (hC : RoC d (l ++ [t]) n (k + 1) m (left - t) t) (L : List (List Int)) (h8 : L.length + 9 ^ m ≤ 900000) :
   ∃ s', execA E (kF d) (fg 105) 64 42 (rhA l n) 1000000 Z1y (rsA l n k left t L) = some (.normal, s') ∧ headA (rhA l n) s' = rsA l n k left (t - 1) (L ++ fuR (l ++ [t]) m (left - t) t) := by
 have hlen : (ics l).length = k := by rw [Za, hl]
 have htk : List.take k (ics l) = ics l := List.take_of_length_le (by omega)
 have hsn := Z2e l t
 have hl' : (l ++ [t]).length = k + 1 := by simp [hl]
 have g1 : t ≥ 0 := ht.1
 have w1 : wrp .i64 (left - t) = left - t := Zs (by omega)
 have w2 : wrp .i64 (t - 1) = t - 1 := Zs (by omega)
 have gk : (0 : Int) ≤ (k : Int) ∧ (k : Int) ≤ (k : Int) := by omega
 have hno : ¬ k + 1 ≤ k := by omega
 rcases ocvL 400 L with ⟨hn0, o1, o2⟩ | ⟨hp0, o1, o2⟩
 · obtain ⟨st, hc⟩ := ZLp (l := l) (c := [.int .i64 t]) hC hl'
   subst hn0
   rw [List.nil_append]
   simp only [rsA]
   rw [o1, o2]
   rw [← hsn] at hc
   generalize fuR (l ++ [t]) m (left - t) t = new at *
   generalize kF d = C at *
   rcases ocvL 400 new with ⟨hn1, p1, p2⟩ | ⟨hp1, p1, p2⟩ <;> rw [p1, p2] at hc ⊢ <;>
     simp (disch := omega) only [ZF, stp, just, Rd.bind, Rd.run, Rd.opt, upds, acells, zeroCells, tsz, elemT, rdCells, aLoad, fresh, aNum, aLen, Z3, aBin, aInt, putC, evO, Nat.reduceAdd, Nat.reduceMul, Nat.reduceLT, Nat.reduceBEq, Nat.reduceEqDiff, Nat.reduceLeDiff, ↓reduceIte, reduceCtorEq, stpT, Rd.foot, writing, Zb, Tr.empty, Zc, apartT, disj, Z9, Zk, partsOf, fillA, repC, Zm, aAppend, srcOf, window, mutX, snaps, aSlice, aBounds, bMax, bHigh, bLow, ZT, Z12, callVT, Z3O, hlen, htk, hno, g1, w1, w2, gk, hc, Z0M (show k + 1 ≤ 1000000 by omega)] <;> exact ⟨_, rfl, rfl⟩
 · obtain ⟨st, hc⟩ := ZLD (l := l) (c := [.int .i64 t]) hC hp0 h8
   simp only [rsA]
   rw [o1, o2, ZN (show 0 < (L ++ fuR (l ++ [t]) m (left - t) t).length by rw [List.length_append]; omega), Z0W (show 0 < (L ++ fuR (l ++ [t]) m (left - t) t).length by rw [List.length_append]; omega)]
   rw [← hsn] at hc
   generalize L ++ fuR (l ++ [t]) m (left - t) t = new at *
   generalize lcs new = LN at *
   generalize new.length = nn at *
   generalize lcs L = LL at *
   generalize L.length = ll at *
   generalize kF d = C at *
   simp (disch := omega) only [ZF, stp, just, Rd.bind, Rd.run, Rd.opt, upds, acells, zeroCells, tsz, elemT, rdCells, aLoad, fresh, aNum, aLen, Z3, aBin, aInt, putC, evO, Nat.reduceAdd, Nat.reduceMul, Nat.reduceLT, Nat.reduceBEq, Nat.reduceEqDiff, Nat.reduceLeDiff, ↓reduceIte, reduceCtorEq, stpT, Rd.foot, writing, Zb, Tr.empty, Zc, apartT, disj, Z9, Zk, partsOf, fillA, repC, Zm, aAppend, srcOf, window, mutX, snaps, aSlice, aBounds, bMax, bHigh, bLow, ZT, Z12, callVT, Z3O, hlen, htk, hno, g1, w1, w2, gk, hc, Z0M (show k + 1 ≤ 1000000 by omega)]
   exact ⟨_, rfl, rfl⟩
theorem Z0gE {d : Nat} {l : List Int} {n k m : Nat} {left t : Int} (hl : l.length = k) (h9 : k ≤ 1000) (ht : 0 ≤ t ∧ t ≤ 1000) (hlf : 0 ≤ left ∧ left ≤ 1000) (hC : RoC d (l ++ [t]) n (k + 1) m (left - t) t) (L0 L : List (List Int)) (hp0 : 0 < L.length) (h8 : L.length + 9 ^ m ≤ 900000) :
   ∃ s', execA E (kF d) (fg 105) 64 42 (rhB l n L0) 1000000 Z1y (rsB l n k left t L) = some (.normal, s') ∧ headA (rhB l n L0) s' = rsB l n k left (t - 1) (L ++ fuR (l ++ [t]) m (left - t) t) := by
 have hlen : (ics l).length = k := by rw [Za, hl]
 have htk : List.take k (ics l) = ics l := List.take_of_length_le (by omega)
 have hsn := Z2e l t
 have g1 : t ≥ 0 := ht.1
 have w1 : wrp .i64 (left - t) = left - t := Zs (by omega)
 have w2 : wrp .i64 (t - 1) = t - 1 := Zs (by omega)
 have gk : (0 : Int) ≤ (k : Int) ∧ (k : Int) ≤ (k : Int) := by omega
 have hno : ¬ k + 1 ≤ k := by omega
 obtain ⟨st, hc⟩ := ZWJ (l := l) (c := [.int .i64 t]) hC hp0 h8
 simp only [rsB]
 rw [← hsn] at hc
 generalize L ++ fuR (l ++ [t]) m (left - t) t = new at *
 generalize lcs new = LN at *
 generalize new.length = nn at *
 generalize lcs L = LL at *
 generalize L.length = ll at *
 generalize lcs L0 = LL0 at *
 generalize L0.length = l0 at *
 generalize kF d = C at *
 simp (disch := omega) only [ZF, stp, just, Rd.bind, Rd.run, Rd.opt, upds, acells, zeroCells, tsz, elemT, rdCells, aLoad, fresh, aNum, aLen, Z3, aBin, aInt, putC, evO, Nat.reduceAdd, Nat.reduceMul, Nat.reduceLT, Nat.reduceBEq, Nat.reduceEqDiff, Nat.reduceLeDiff, ↓reduceIte, reduceCtorEq, stpT, Rd.foot, writing, Zb, Tr.empty, Zc, apartT, disj, Z9, Zk, partsOf, fillA, repC, Zm, aAppend, srcOf, window, mutX, snaps, aSlice, aBounds, bMax, bHigh, bLow, ZT, Z12, callVT, Z3O, hlen, htk, hno, g1, w1, w2, gk, hc, Z0M (show k + 1 ≤ 1000000 by omega)]
 exact ⟨_, rfl, rfl⟩
end Go.AM.Ytfmnoohhhokicaa
end
noncomputable section
namespace Go.AM.Ytfmnoohhhokicaa
open Go Go.AM Go.AM.Rub
theorem ZIc {d n : Nat} (h6 : n ≤ 6) : ∀ (m : Nat) (l : List Int) (k : Nat) (left most : Int), l.length = k → k + m = n → 0 ≤ left ∧ left ≤ 1000 → 0 ≤ most ∧ most ≤ 8 → RoC (d + m + 1) l n k m left most
 | 0, l, k, left, most, hl, hk, _, _ => by
   rw [Nat.add_zero] at hk
   subst hk
   exact Z09h hl
 | m + 1, l, k, left, most, hl, hk, hlf, hm => by
   obtain ⟨m0, hm0⟩ : ∃ m0 : Nat, min most left = m0 := ⟨(min most left).toNat, by omega⟩
   have hrec : ∀ j : Nat, j < m0 + 1 → RoC (d + m + 1) (l ++ [((m0 : Int) - j)]) n (k + 1) m (left - ((m0 : Int) - j)) ((m0 : Int) - j) := fun j hj =>
     ZIc h6 m (l ++ [((m0 : Int) - j)]) (k + 1) (left - ((m0 : Int) - j)) ((m0 : Int) - j) (by simp [hl]) (by omega) (by omega) (by omega)
   have hlen : (ics l).length = k := by rw [Za, hl]
   have hall := ZwI l m hm0
   have h9 : 9 ^ (m + 1) ≤ 531441 := by have := Nat.pow_le_pow_right (n := 9) (by omega) (show m + 1 ≤ 6 by omega); omega
   have h9' : 9 ^ (m + 1) = 9 * 9 ^ m := by rw [Nat.pow_succ, Nat.mul_comm]
   have hfl : ∀ j, j ≤ m0 + 1 → (fuP l m left m0 j).length ≤ j * 9 ^ m := Zez l m left m0 (by omega)
   have hj9 : ∀ j, j ≤ m0 → j * 9 ^ m ≤ 8 * 9 ^ m := fun j hj => Nat.mul_le_mul_right _ (by omega)
   have emin : (if left < most then left else most) = (m0 : Int) := by rw [← hm0]; split <;> omega
   have gk : ¬ (k : Int) = n := by omega
   have gk' : ((k : Int) == n) = false := by rw [beq_eq_false_iff_ne]; exact gk
   have e2 : ∀ j : Nat, (m0 : Int) - ((j + 1 : Nat) : Int) = (m0 : Int) - j - 1 := fun j => by omega
   have ge : ¬ (m0 : Int) - ((m0 + 1 : Nat) : Int) ≥ 0 := by omega
   constructor
   · rw [show d + (m + 1) + 1 = (d + m + 1) + 1 by omega, pF_s]
     have hloop := loopM (f := execA E (kF (d + m + 1)) (fg 105) 64 42 (rhA l n) 1000000 Z1y) (E0 := rhA l n) (fun j => rsA l n k left ((m0 : Int) - j) (fuP l m left m0 j)) (m0 + 1) (fun j hj => by
         simp only [Z5q, e2]
         exact Z0ie hl (by omega) (by omega) hlf (hrec j hj) (fuP l m left m0 j) (by have := hfl j (by omega); have := hj9 j (by omega); omega)) (by
         have e0 : fuP l m left m0 0 = [] := rfl
         simp only [rsA, e0]; rfl) (by omega)
       (e := .exit 0) (se := ([(24, .bool false), (9, .int .i64 ((m0 : Int) - ((m0 + 1 : Nat) : Int))), (5, .ptr 3 0 1), (1, .int .i64 left), (0, .ref 0 0 k k k 1 false)], (0, ⟨.row, ics l⟩) :: (1, ⟨.box, [.int .i64 n]⟩) :: (2, ⟨.box, [oV 400 1 (fuR l (m + 1) left most).length]⟩) :: (3, ⟨.box, [rwK 1 2 3]⟩) :: oH 400 (lcs (fuR l (m + 1) left most))))
       (by
         simp only [rsA, hall]
         rcases ocvL 400 (fuR l (m + 1) left most) with ⟨_, o1, o2⟩ | ⟨_, o1, o2⟩ <;> rw [o1, o2] <;>
           simp (disch := omega) only [ZF, stp, just, Rd.bind, Rd.run, Rd.opt, upds, aBin, aInt, Nat.reduceBEq, Nat.reduceEqDiff, Nat.reduceLeDiff, ↓reduceIte, Z12, ge]) (by simp)
     have e0 : fuP l m left m0 0 = [] := rfl
     have v0 : oV 400 1 ([] : List (List Int)).length = .nilsl := rfl
     have o0 : oH 400 (lcs []) = [] := rfl
     have z0 : (m0 : Int) - ((0 : Nat) : Int) = m0 := by omega
     simp only [rsA, e0, v0, o0, z0, rhA] at hloop
     simp only [rhA]
     generalize fuR l (m + 1) left most = R at *
     generalize kF (d + m + 1) = C at *
     rcases ocvL 400 R with ⟨hn1, o1, o2⟩ | ⟨hp1, o1, o2⟩ <;> rw [o1, o2] at hloop
     · simp (disch := omega) only [ZF, Z5, stp, justO, just, Rd.bind, Rd.run, Rd.opt, upds, acells, zeroCells, tsz, elemT, rdCells, aLoad, resA, resL, fresh, aLen, Z3, aMin, aBin, aInt, putC, evO, Nat.reduceAdd, Nat.reduceLT, Nat.reduceBEq, Nat.reduceEqDiff, Nat.reduceLeDiff, ↓reduceIte, reduceCtorEq, Z9, Zk, partsOf, fillA, repC, Zm, aAppend, srcOf, window, snaps, ZT, Z12, hlen, gk', emin, hloop]
       exact ⟨_, 400, .row, rfl, ⟨rfl, .inl rfl, rfl, by rw [o1]; rfl, rfl, by omega, fun h => by rw [hn1] at h; simp at h⟩⟩
     · simp (disch := omega) only [ZF, Z5, stp, justO, just, Rd.bind, Rd.run, Rd.opt, upds, acells, zeroCells, tsz, elemT, rdCells, aLoad, resA, resL, fresh, aLen, Z3, aMin, aBin, aInt, putC, evO, Nat.reduceAdd, Nat.reduceLT, Nat.reduceBEq, Nat.reduceEqDiff, Nat.reduceLeDiff, ↓reduceIte, reduceCtorEq, Z9, Zk, partsOf, fillA, repC, Zm, aAppend, srcOf, window, snaps, ZT, Z12, hlen, gk', emin, hloop]
       exact ⟨_, 400, .row, rfl, ⟨rfl, .inl rfl, rfl, by rw [o1]; rfl, rfl, by omega, fun h => rfl⟩⟩
   · intro L h0 h8
     rw [show d + (m + 1) + 1 = (d + m + 1) + 1 by omega, pF_s]
     have hloop := loopM (f := execA E (kF (d + m + 1)) (fg 105) 64 42 (rhB l n L) 1000000 Z1y) (E0 := rhB l n L) (fun j => rsB l n k left ((m0 : Int) - j) (L ++ fuP l m left m0 j)) (m0 + 1) (fun j hj => by
         simp only [Z5q, e2, ← List.append_assoc]
         exact Z0gE hl (by omega) (by omega) hlf (hrec j hj) L (L ++ fuP l m left m0 j) (by rw [List.length_append]; omega) (by rw [List.length_append]; have := hfl j (by omega); have := hj9 j (by omega); omega)) (Z5z (by simp [rhB, Zw])) (by omega)
       (e := .exit 0) (se := ([(24, .bool false), (9, .int .i64 ((m0 : Int) - ((m0 + 1 : Nat) : Int))), (5, .ptr 4 0 1), (1, .int .i64 left), (0, .ref 0 0 k k k 1 false)], [(0, ⟨.row, ics l⟩), (1, ⟨.box, [.int .i64 n]⟩), (2, ⟨.box, [.ref 3 0 (L ++ fuR l (m + 1) left most).length (L ++ fuR l (m + 1) left most).length (L ++ fuR l (m + 1) left most).length 1 false]⟩), (3, ⟨.row, lcs (L ++ fuR l (m + 1) left most)⟩), (4, ⟨.box, [rwK 1 2 4]⟩)]))
       (by
         simp only [rsB, hall]
         simp (disch := omega) only [ZF, stp, just, Rd.bind, Rd.run, Rd.opt, upds, aBin, aInt, Nat.reduceBEq, Nat.reduceEqDiff, Nat.reduceLeDiff, ↓reduceIte, Z12, ge]) (by simp)
     have e0 : fuP l m left m0 0 = [] := rfl
     have z0 : (m0 : Int) - ((0 : Nat) : Int) = m0 := by omega
     simp only [rsB, e0, z0, rhB, List.append_nil] at hloop
     simp only [rhB]
     generalize L ++ fuR l (m + 1) left most = R at *
     generalize kF (d + m + 1) = C at *
     simp (disch := omega) only [ZF, Z5, stp, justO, just, Rd.bind, Rd.run, Rd.opt, upds, acells, zeroCells, tsz, elemT, rdCells, aLoad, resA, resL, fresh, aLen, Z3, aMin, aBin, aInt, putC, evO, Nat.reduceAdd, Nat.reduceLT, Nat.reduceBEq, Nat.reduceEqDiff, Nat.reduceLeDiff, ↓reduceIte, reduceCtorEq, Z9, Zk, partsOf, fillA, repC, Zm, aAppend, srcOf, window, snaps, ZT, Z12, hlen, gk', emin, hloop]
     exact ⟨_, .row, rfl, ⟨rfl, .inl rfl, rfl, rfl, rfl, rfl⟩⟩
end Go.AM.Ytfmnoohhhokicaa
end
noncomputable section
namespace Go.AM.Ytfmnoohhhokicaa
open Go Go.AM Go.AM.Rub
abbrev rhN (n : Nat) : AHeap := [(0, ⟨.box, [.int .i64 n]⟩), (1, ⟨.box, [.nilsl]⟩), (2, ⟨.box, [rwK 0 1 2]⟩)]
noncomputable section
variable {d : Nat} {l' : List Int} {n k m : Nat} {left most : Int} {c : List AV}
theorem ZK2 (hC : RoC d l' n k m left most) : ∃ st, kF d 105 [.ref 100 0 k k k 1 false, .int .i64 left, .int .i64 most, .ptr 0 0 1, .ptr 1 0 1, .ptr 2 0 1] [(0, ⟨.box, [.int .i64 n]⟩), (1, ⟨.box, [.nilsl]⟩), (2, ⟨.box, [rwK 0 1 2]⟩), (99, ⟨.row, c⟩), (100, ⟨.row, ics l'⟩)] 400 =
   some (.tup [], (0, ⟨.box, [.int .i64 n]⟩) :: (1, ⟨.box, [oV 400 1 (fuR l' m left most).length]⟩) :: (2, ⟨.box, [rwK 0 1 2]⟩) :: (99, ⟨.row, c⟩) :: (100, ⟨st, ics l'⟩) :: oH 400 (lcs (fuR l' m left most))) := by
 obtain ⟨H, id, st, hp, ro⟩ := hC.a
 refine ⟨st, ?_⟩
 rw [Z1k rfl]
 have hks : (mark [(0, ⟨.box, [.int .i64 n]⟩), (1, ⟨.box, [.nilsl]⟩), (2, ⟨.box, [rwK 0 1 2]⟩), (99, ⟨.row, c⟩), (100, ⟨.row, ics l'⟩)] 1000 (refsL [.ref 100 0 k k k 1 false, .int .i64 left, .int .i64 most, .ptr 0 0 1, .ptr 1 0 1, .ptr 2 0 1]) []).reverse = [100, 0, 1, 2] := rfl
 have hap : AM.apart [100, 0, 1, 2] = true := rfl
 have e1 : renL (posF [100, 0, 1, 2] 0) [.ref 100 0 k k k 1 false, .int .i64 left, .int .i64 most, .ptr 0 0 1, .ptr 1 0 1, .ptr 2 0 1] = some [.ref 0 0 k k k 1 false, .int .i64 left, .int .i64 most, .ptr 1 0 1, .ptr 2 0 1, .ptr 3 0 1] := rfl
 have e2 : foc (posF [100, 0, 1, 2] 0) [(0, ⟨.box, [.int .i64 n]⟩), (1, ⟨.box, [.nilsl]⟩), (2, ⟨.box, [rwK 0 1 2]⟩), (99, ⟨.row, c⟩), (100, ⟨.row, ics l'⟩)] 0 [100, 0, 1, 2] = some (rhA l' n) := rfl
 have hn := newsA ro
 obtain ⟨h0, hs, h1, h2, h3, h4, hr⟩ := ro
 have hl4 : ([100, 0, 1, 2] : List Nat).length = 4 := rfl
 have er : List.range 4 = [0, 1, 2, 3] := rfl
 rw [hks]
 unfold focus
 rw [if_pos hap]
 simp only [e1, e2, hp, backF, hl4, hn, er]
 rcases ocvL 400 (fuR l' m left most) with ⟨hn0, o1, o2⟩ | ⟨hp0, o1, o2⟩
 · rw [o1, o2]
   rw [hn0] at h2
   have hv : oV id 1 ([] : List (List Int)).length = .nilsl := rfl
   rw [hv] at h2
   rcases hs with rfl | rfl <;>
   simp only [hn0, if_true, List.length_nil, baseF, freeL, AM.apart, List.append_nil, ren, renL, unf, outF, posF, h0, h1, h2, h3, List.getElem?_cons_zero, List.getElem?_cons_succ, Nat.reduceLT, if_true, goodB, BS.open_, Bool.true_or, Bool.false_or, rhA, Zw, decide_true, Bool.and_self, renB, hl4, upds, Zu, Zy, Nat.reduceEqDiff, Nat.reduceLeDiff, if_false, Nat.reduceAdd, reduceCtorEq]
 · rw [o1, o2]
   rw [ZN hp0] at h2
   have hr := hr hp0
   have hne : ¬ fuR l' m left most = [] := fun e => by rw [e] at hp0; simp at hp0
   have c4 : ¬ id < 4 := by omega
   have hbase : baseF [(0, ⟨.box, [.int .i64 n]⟩), (1, ⟨.box, [.nilsl]⟩), (2, ⟨.box, [rwK 0 1 2]⟩), (99, ⟨.row, c⟩), (100, ⟨.row, ics l'⟩)] 1 8 400 = some 400 := rfl
   rcases hs with rfl | rfl <;>
   simp only [hne, if_false, List.length_cons, List.length_nil, Nat.zero_add, hbase, AM.apart, List.elem_nil, Bool.not_false, Bool.and_self, if_true, List.cons_append, List.nil_append, ren, renL, unf, outF, posF, h0, h1, h2, h3, hr, c4, List.getElem?_cons_zero, List.getElem?_cons_succ, Nat.reduceLT, goodB, BS.open_, Bool.true_or, Bool.false_or, rhA, Zw, decide_true, renB, hl4, upds, Zu, Zy, Nat.reduceEqDiff, Nat.reduceLeDiff, Nat.add_zero, reduceCtorEq]
theorem ZNP (hC : RoC d l' n k m left most) {L : List (List Int)} (h0 : 0 < L.length) (h8 : L.length + 9 ^ m ≤ 900000) : ∃ st, kF d 105 [.ref 100 0 k k k 1 false, .int .i64 left, .int .i64 most, .ptr 0 0 1, .ptr 1 0 1, .ptr 2 0 1] [(0, ⟨.box, [.int .i64 n]⟩), (1, ⟨.box, [.ref 400 0 L.length L.length L.length 1 false]⟩), (2, ⟨.box, [rwK 0 1 2]⟩), (99, ⟨.row, c⟩), (100, ⟨.row, ics l'⟩), (400, ⟨.row, lcs L⟩)] 400 =
   some (.tup [], [(0, ⟨.box, [.int .i64 n]⟩), (1, ⟨.box, [.ref 400 0 (L ++ fuR l' m left most).length (L ++ fuR l' m left most).length (L ++ fuR l' m left most).length 1 false]⟩), (2, ⟨.box, [rwK 0 1 2]⟩), (99, ⟨.row, c⟩), (100, ⟨st, ics l'⟩), (400, ⟨.row, lcs (L ++ fuR l' m left most)⟩)]) := by
 obtain ⟨H, st, hp, ro⟩ := hC.b L h0 h8
 refine ⟨st, ?_⟩
 rw [Z1k rfl]
 have hks : (mark [(0, ⟨.box, [.int .i64 n]⟩), (1, ⟨.box, [.ref 400 0 L.length L.length L.length 1 false]⟩), (2, ⟨.box, [rwK 0 1 2]⟩), (99, ⟨.row, c⟩), (100, ⟨.row, ics l'⟩), (400, ⟨.row, lcs L⟩)] 1000 (refsL [.ref 100 0 k k k 1 false, .int .i64 left, .int .i64 most, .ptr 0 0 1, .ptr 1 0 1, .ptr 2 0 1]) []).reverse = [100, 0, 1, 400, 2] := rfl
 have hap : AM.apart [100, 0, 1, 400, 2] = true := rfl
 have e1 : renL (posF [100, 0, 1, 400, 2] 0) [.ref 100 0 k k k 1 false, .int .i64 left, .int .i64 most, .ptr 0 0 1, .ptr 1 0 1, .ptr 2 0 1] = some [.ref 0 0 k k k 1 false, .int .i64 left, .int .i64 most, .ptr 1 0 1, .ptr 2 0 1, .ptr 4 0 1] := rfl
 have e2 : foc (posF [100, 0, 1, 400, 2] 0) [(0, ⟨.box, [.int .i64 n]⟩), (1, ⟨.box, [.ref 400 0 L.length L.length L.length 1 false]⟩), (2, ⟨.box, [rwK 0 1 2]⟩), (99, ⟨.row, c⟩), (100, ⟨.row, ics l'⟩), (400, ⟨.row, lcs L⟩)] 0 [100, 0, 1, 400, 2] = some (rhB l' n L) := rfl
 have hn := newsB ro
 obtain ⟨h0, hs, h1, h2, h3, h4⟩ := ro
 have hl5 : ([100, 0, 1, 400, 2] : List Nat).length = 5 := rfl
 have er : List.range 5 = [0, 1, 2, 3, 4] := rfl
 rw [hks]
 unfold focus
 rw [if_pos hap]
 simp only [e1, e2, hp, backF, hl5, hn, er]
 rcases hs with rfl | rfl <;>
 simp only [List.length_nil, baseF, freeL, AM.apart, if_true, List.append_nil, ren, renL, unf, outF, posF, h0, h1, h2, h3, h4, List.getElem?_cons_zero, List.getElem?_cons_succ, Nat.reduceLT, goodB, BS.open_, Bool.true_or, Bool.false_or, rhB, Zw, decide_true, Bool.and_self, renB, hl5, upds, Zu, Zy, Nat.reduceEqDiff, Nat.reduceLeDiff, if_false, Nat.reduceAdd, reduceCtorEq]
end
abbrev rsN (n : Nat) (left t : Int) (L : List (List Int)) : St :=
 ([(9, .int .i64 t), (5, .ptr 2 0 1), (1, .int .i64 left), (0, .nilsl)], (0, ⟨.box, [.int .i64 n]⟩) :: (1, ⟨.box, [oV 400 1 L.length]⟩) :: (2, ⟨.box, [rwK 0 1 2]⟩) :: oH 400 (lcs L))
theorem Z0hw {d : Nat} {n m : Nat} {left t : Int} (ht : 0 ≤ t ∧ t ≤ 1000) (hlf : 0 ≤ left ∧ left ≤ 1000) (hC : RoC d [t] n 1 m (left - t) t) (L : List (List Int)) (h8 : L.length + 9 ^ m ≤ 900000) :
   ∃ s', execA E (kF d) (fg 105) 64 42 (rhN n) 1000000 Z1y (rsN n left t L) = some (.normal, s') ∧ headA (rhN n) s' = rsN n left (t - 1) (L ++ fuR [t] m (left - t) t) := by
 have e1 : ics [t] = [.int .i64 t] := rfl
 have g1 : t ≥ 0 := ht.1
 have w1 : wrp .i64 (left - t) = left - t := Zs (by omega)
 have w2 : wrp .i64 (t - 1) = t - 1 := Zs (by omega)
 rcases ocvL 400 L with ⟨hn0, o1, o2⟩ | ⟨hp0, o1, o2⟩
 · obtain ⟨st, hc⟩ := ZK2 (c := [.int .i64 t]) hC
   subst hn0
   rw [List.nil_append]
   simp only [rsN]
   rw [o1, o2]
   rw [e1] at hc
   generalize fuR [t] m (left - t) t = new at *
   generalize kF d = C at *
   rcases ocvL 400 new with ⟨hn1, p1, p2⟩ | ⟨hp1, p1, p2⟩ <;> rw [p1, p2] at hc ⊢ <;>
     simp (disch := omega) only [ZF, stp, just, Rd.bind, Rd.run, Rd.opt, upds, acells, zeroCells, tsz, elemT, rdCells, aLoad, fresh, aNum, aLen, Z3, aBin, aInt, putC, evO, Nat.reduceAdd, Nat.reduceMul, Nat.reduceLT, Nat.reduceBEq, Nat.reduceEqDiff, Nat.reduceLeDiff, ↓reduceIte, reduceCtorEq, stpT, Rd.foot, writing, Zb, Tr.empty, Zc, apartT, disj, Z9, Zk, partsOf, fillA, repC, Zm, aAppend, srcOf, window, mutX, snaps, aSlice, aBounds, bMax, bHigh, bLow, Int.reduceLE, Int.reduceToNat, ZT, Z12, callVT, Z3O, g1, w1, w2, hc, Z0M (show 1 ≤ 1000000 by omega)] <;> exact ⟨_, rfl, rfl⟩
 · obtain ⟨st, hc⟩ := ZNP (c := [.int .i64 t]) hC hp0 h8
   simp only [rsN]
   rw [o1, o2, ZN (show 0 < (L ++ fuR [t] m (left - t) t).length by rw [List.length_append]; omega), Z0W (show 0 < (L ++ fuR [t] m (left - t) t).length by rw [List.length_append]; omega)]
   rw [e1] at hc
   generalize L ++ fuR [t] m (left - t) t = new at *
   generalize lcs new = LN at *
   generalize new.length = nn at *
   generalize lcs L = LL at *
   generalize L.length = ll at *
   generalize kF d = C at *
   simp (disch := omega) only [ZF, stp, just, Rd.bind, Rd.run, Rd.opt, upds, acells, zeroCells, tsz, elemT, rdCells, aLoad, fresh, aNum, aLen, Z3, aBin, aInt, putC, evO, Nat.reduceAdd, Nat.reduceMul, Nat.reduceLT, Nat.reduceBEq, Nat.reduceEqDiff, Nat.reduceLeDiff, ↓reduceIte, reduceCtorEq, stpT, Rd.foot, writing, Zb, Tr.empty, Zc, apartT, disj, Z9, Zk, partsOf, fillA, repC, Zm, aAppend, srcOf, window, mutX, snaps, aSlice, aBounds, bMax, bHigh, bLow, Int.reduceLE, Int.reduceToNat, ZT, Z12, callVT, Z3O, g1, w1, w2, hc, Z0M (show 1 ≤ 1000000 by omega)]
   exact ⟨_, rfl, rfl⟩
structure RoN (n : Nat) (new : List (List Int)) (H : AHeap) : Prop where
 h0 : hget H 0 = some ⟨.box, [.int .i64 n]⟩
 h1 : hget H 1 = some ⟨.box, [oV 400 1 new.length]⟩
 h2 : hget H 2 = some ⟨.box, [rwK 0 1 2]⟩
 hr : 0 < new.length → hget H 400 = some ⟨.row, lcs new⟩
theorem Z027 {d n : Nat} (h0 : 0 < n) (h6 : n ≤ 6) {left : Int} (hlf : 0 ≤ left ∧ left ≤ 1000) : ∃ H, pF (d + n + 1) 105 [.nilsl, .int .i64 left, .int .i64 8, .ptr 0 0 1, .ptr 1 0 1, .ptr 2 0 1] (rhN n) 64 = some (.tup [], H) ∧ RoN n (rowsL n left 8) H := by
 obtain ⟨m, rfl⟩ : ∃ m, n = m + 1 := ⟨n - 1, by omega⟩
 obtain ⟨m0, hm0⟩ : ∃ m0 : Nat, min 8 left = m0 := ⟨(min 8 left).toNat, by omega⟩
 have hrec : ∀ j : Nat, j < m0 + 1 → RoC (d + m + 1) ([] ++ [((m0 : Int) - j)]) (m + 1) 1 m (left - ((m0 : Int) - j)) ((m0 : Int) - j) := fun j hj =>
   ZIc h6 m _ 1 _ _ rfl (by omega) (by omega) (by omega)
 have hall := ZwI [] m hm0
 rw [Z00m] at hall
 have h9 : 9 ^ (m + 1) ≤ 531441 := by have := Nat.pow_le_pow_right (n := 9) (by omega) (show m + 1 ≤ 6 by omega); omega
 have h9' : 9 ^ (m + 1) = 9 * 9 ^ m := by rw [Nat.pow_succ, Nat.mul_comm]
 have hfl : ∀ j, j ≤ m0 + 1 → (fuP [] m left m0 j).length ≤ j * 9 ^ m := Zez [] m left m0 (by omega)
 have hj9 : ∀ j, j ≤ m0 → j * 9 ^ m ≤ 8 * 9 ^ m := fun j hj => Nat.mul_le_mul_right _ (by omega)
 have emin : (if left < 8 then left else 8) = (m0 : Int) := by rw [← hm0]; split <;> omega
 have gk : ¬ (0 : Int) = ((m + 1 : Nat) : Int) := by omega
 have gk' : ((0 : Int) == ((m + 1 : Nat) : Int)) = false := by rw [beq_eq_false_iff_ne]; exact gk
 have e2 : ∀ j : Nat, (m0 : Int) - ((j + 1 : Nat) : Int) = (m0 : Int) - j - 1 := fun j => by omega
 have ge : ¬ (m0 : Int) - ((m0 + 1 : Nat) : Int) ≥ 0 := by omega
 rw [show d + (m + 1) + 1 = (d + m + 1) + 1 by omega, pF_s]
 have hloop := loopM (f := execA E (kF (d + m + 1)) (fg 105) 64 42 (rhN (m + 1)) 1000000 Z1y) (E0 := rhN (m + 1)) (fun j => rsN (m + 1) left ((m0 : Int) - j) (fuP [] m left m0 j)) (m0 + 1) (fun j hj => by
     simp only [Z5q, e2]
     exact Z0hw (by omega) hlf (hrec j hj) (fuP [] m left m0 j) (by have := hfl j (by omega); have := hj9 j (by omega); omega)) (by
     have e0 : fuP [] m left m0 0 = [] := rfl
     simp only [rsN, e0]; rfl) (by omega)
   (e := .exit 0) (se := ([(24, .bool false), (9, .int .i64 ((m0 : Int) - ((m0 + 1 : Nat) : Int))), (5, .ptr 2 0 1), (1, .int .i64 left), (0, .nilsl)], (0, ⟨.box, [.int .i64 ((m + 1 : Nat) : Int)]⟩) :: (1, ⟨.box, [oV 400 1 (rowsL (m + 1) left 8).length]⟩) :: (2, ⟨.box, [rwK 0 1 2]⟩) :: oH 400 (lcs (rowsL (m + 1) left 8))))
   (by
     simp only [rsN, hall]
     rcases ocvL 400 (rowsL (m + 1) left 8) with ⟨_, o1, o2⟩ | ⟨_, o1, o2⟩ <;> rw [o1, o2] <;>
       simp (disch := omega) only [ZF, stp, just, Rd.bind, Rd.run, Rd.opt, upds, aBin, aInt, Nat.reduceBEq, Nat.reduceEqDiff, Nat.reduceLeDiff, ↓reduceIte, Z12, ge]) (by simp)
 have e0 : fuP [] m left m0 0 = [] := rfl
 have v0 : oV 400 1 ([] : List (List Int)).length = .nilsl := rfl
 have o0 : oH 400 (lcs []) = [] := rfl
 have z0 : (m0 : Int) - ((0 : Nat) : Int) = m0 := by omega
 simp only [rsN, e0, v0, o0, z0, rhN] at hloop
 simp only [rhN]
 generalize rowsL (m + 1) left 8 = R at *
 generalize kF (d + m + 1) = C at *
 rcases ocvL 400 R with ⟨hn1, o1, o2⟩ | ⟨hp1, o1, o2⟩ <;> rw [o1, o2] at hloop
 · simp (disch := omega) only [ZF, Z5, stp, justO, just, Rd.bind, Rd.run, Rd.opt, upds, acells, zeroCells, tsz, elemT, rdCells, aLoad, resA, resL, fresh, aLen, Z3, aMin, aBin, aInt, putC, evO, Nat.reduceAdd, Nat.reduceLT, Nat.reduceBEq, Nat.reduceEqDiff, Nat.reduceLeDiff, ↓reduceIte, reduceCtorEq, Z9, Zk, partsOf, fillA, repC, Zm, aAppend, srcOf, window, snaps, ZT, Z12, gk', emin, hloop]
   exact ⟨_, rfl, ⟨rfl, by rw [o1]; rfl, rfl, fun h => by rw [hn1] at h; simp at h⟩⟩
 · simp (disch := omega) only [ZF, Z5, stp, justO, just, Rd.bind, Rd.run, Rd.opt, upds, acells, zeroCells, tsz, elemT, rdCells, aLoad, resA, resL, fresh, aLen, Z3, aMin, aBin, aInt, putC, evO, Nat.reduceAdd, Nat.reduceLT, Nat.reduceBEq, Nat.reduceEqDiff, Nat.reduceLeDiff, ↓reduceIte, reduceCtorEq, Z9, Zk, partsOf, fillA, repC, Zm, aAppend, srcOf, window, snaps, ZT, Z12, gk', emin, hloop]
   exact ⟨_, rfl, ⟨rfl, by rw [o1]; rfl, rfl, fun h => rfl⟩⟩
theorem newsN {n : Nat} {new : List (List Int)} {H : AHeap} (h : RoN n new H) : newsF H (.tup []) 3 = if new = [] then [] else [400] := by
 obtain ⟨h0, h1, h2, hr⟩ := h
 have e : refsOf (.tup []) ++ List.range 3 = [0, 1, 2] := rfl
 unfold newsF
 rw [e]
 cases hn : new with
 | nil =>
   subst hn
   rw [if_pos rfl]
   have hv : oV 400 1 ([] : List (List Int)).length = .nilsl := rfl
   rw [hv] at h1
   simp [mark, h0, h1, h2, refsL, refsOf]
 | cons x xs =>
   rw [← hn]
   have hp : 0 < new.length := by rw [hn]; simp
   rw [if_neg (by rw [hn]; simp)]
   rw [ZN hp] at h1
   have hr := hr hp
   simp [mark, h0, h1, h2, hr, refsL, refsOf]
theorem Z0dG {d n : Nat} (h0 : 0 < n) (h6 : n ≤ 6) {left : Int} (hlf : 0 ≤ left ∧ left ≤ 1000) : kF (d + n + 1) 105 [.nilsl, .int .i64 left, .int .i64 8, .ptr 2 0 1, .ptr 5 0 1, .ptr 6 0 1] [(2, ⟨.box, [.int .i64 n]⟩), (5, ⟨.box, [.nilsl]⟩), (6, ⟨.box, [rwK 2 5 6]⟩)] 96 =
   some (.tup [], (2, ⟨.box, [.int .i64 n]⟩) :: (5, ⟨.box, [oV 96 1 (rowsL n left 8).length]⟩) :: (6, ⟨.box, [rwK 2 5 6]⟩) :: oH 96 (lcs (rowsL n left 8))) := by
 obtain ⟨H, hp, ro⟩ := Z027 (d := d) h0 h6 hlf
 rw [Z1k rfl]
 have hks : (mark [(2, ⟨.box, [.int .i64 n]⟩), (5, ⟨.box, [.nilsl]⟩), (6, ⟨.box, [rwK 2 5 6]⟩)] 1000 (refsL [.nilsl, .int .i64 left, .int .i64 8, .ptr 2 0 1, .ptr 5 0 1, .ptr 6 0 1]) []).reverse = [2, 5, 6] := rfl
 have hap : AM.apart [2, 5, 6] = true := rfl
 have e1 : renL (posF [2, 5, 6] 0) [.nilsl, .int .i64 left, .int .i64 8, .ptr 2 0 1, .ptr 5 0 1, .ptr 6 0 1] = some [.nilsl, .int .i64 left, .int .i64 8, .ptr 0 0 1, .ptr 1 0 1, .ptr 2 0 1] := rfl
 have e2 : foc (posF [2, 5, 6] 0) [(2, ⟨.box, [.int .i64 n]⟩), (5, ⟨.box, [.nilsl]⟩), (6, ⟨.box, [rwK 2 5 6]⟩)] 0 [2, 5, 6] = some (rhN n) := rfl
 have hn := newsN ro
 obtain ⟨h0, h1, h2, hr⟩ := ro
 have hl3 : ([2, 5, 6] : List Nat).length = 3 := rfl
 have er : List.range 3 = [0, 1, 2] := rfl
 rw [hks]
 unfold focus
 rw [if_pos hap]
 simp only [e1, e2, hp, backF, hl3, hn, er]
 rcases ocvL 96 (rowsL n left 8) with ⟨hn0, o1, o2⟩ | ⟨hp0, o1, o2⟩
 · rw [o1, o2]
   rw [hn0] at h1
   have hv : oV 400 1 ([] : List (List Int)).length = .nilsl := rfl
   rw [hv] at h1
   simp only [hn0, if_true, List.length_nil, baseF, freeL, AM.apart, List.append_nil, ren, renL, unf, outF, posF, h0, h1, h2, List.getElem?_cons_zero, List.getElem?_cons_succ, Nat.reduceLT, if_true, goodB, BS.open_, Bool.true_or, renB, hl3, upds, Zu, Zy, Nat.reduceEqDiff, Nat.reduceLeDiff, if_false, Nat.reduceAdd]
 · rw [o1, o2]
   rw [ZN hp0] at h1
   have hr := hr hp0
   have hne : ¬ rowsL n left 8 = [] := fun e => by rw [e] at hp0; simp at hp0
   have hbase : baseF [(2, ⟨.box, [.int .i64 n]⟩), (5, ⟨.box, [.nilsl]⟩), (6, ⟨.box, [rwK 2 5 6]⟩)] 1 8 96 = some 96 := rfl
   simp only [hne, if_false, List.length_cons, List.length_nil, Nat.zero_add, hbase, AM.apart, List.elem_nil, Bool.not_false, Bool.and_self, if_true, List.cons_append, List.nil_append, ren, renL, unf, outF, posF, h0, h1, h2, hr, List.getElem?_cons_zero, List.getElem?_cons_succ, Nat.reduceLT, goodB, BS.open_, Bool.true_or, renB, hl3, upds, Zu, Zy, Nat.reduceEqDiff, Nat.reduceLeDiff, Nat.add_zero, reduceCtorEq]
theorem ZNE {d n : Nat} {site : Nat → Nat} {seen : List Nat} (h0 : 0 < n) (h6 : n ≤ 6) {left : Int} (hlf : 0 ≤ left ∧ left ≤ 1000) : aBack site true seen (thaw (kF (d + n + 2)) 59 [.int .i64 n, .int .i64 left] [] 0) =
   if rowsL n left 8 = [] then .pure (.nilsl, []) else Z0t (site 0) seen (fun k => .ref k 0 (rowsL n left 8).length (rowsL n left 8).length (rowsL n left 8).length 1 false) ⟨.row, lcs (rowsL n left 8)⟩ := by
 have hc := Z0dG (d := d) h0 h6 hlf
 have key : (rowsL n left 8 = [] ∧ ∃ H, bodyA E (kF (d + n + 1)) fg 1000000 59 [.int .i64 n, .int .i64 left] [] 0 = some (.nilsl, H)) ∨ (0 < (rowsL n left 8).length ∧ ∃ H, bodyA E (kF (d + n + 1)) fg 1000000 59 [.int .i64 n, .int .i64 left] [] 0 = some (.ref 96 0 (rowsL n left 8).length (rowsL n left 8).length (rowsL n left 8).length 1 false, H) ∧ hget H 96 = some ⟨.row, lcs (rowsL n left 8)⟩) := by
   generalize rowsL n left 8 = R at *
   generalize kF (d + n + 1) = C at *
   rcases ocvL 96 R with ⟨hn1, o1, o2⟩ | ⟨hp1, o1, o2⟩ <;> rw [o1, o2] at hc
   · refine .inl ⟨hn1, ?_⟩
     simp (disch := omega) only [ZF, Z5, stp, opBox, just, Rd.bind, Rd.run, Rd.opt, upds, acells, zeroCells, tsz, rdCells, aLoad, aStore, opStore, resA, resL, fresh, putC, Nat.reduceMul, Nat.reduceBEq, Nat.reduceEqDiff, Nat.reduceLeDiff, ↓reduceIte, reduceCtorEq, mutX, snaps, ZT, F_59, callV, Z3O, hc]
     exact ⟨_, rfl⟩
   · refine .inr ⟨hp1, ?_⟩
     simp (disch := omega) only [ZF, Z5, stp, opBox, just, Rd.bind, Rd.run, Rd.opt, upds, acells, zeroCells, tsz, rdCells, aLoad, aStore, opStore, resA, resL, fresh, putC, Nat.reduceMul, Nat.reduceBEq, Nat.reduceEqDiff, Nat.reduceLeDiff, ↓reduceIte, reduceCtorEq, mutX, snaps, ZT, F_59, callV, Z3O, hc]
     exact ⟨_, rfl, rfl⟩
 rcases key with ⟨e, H, h1⟩ | ⟨hp, H, h1, h2⟩
 · rw [if_pos e]
   exact Zit ⟨H, by rw [Z15 rfl]; exact h1⟩
 · rw [if_neg (fun e => by rw [e] at hp; simp at hp)]
   exact Z2u (by rw [Z15 rfl]; exact h1) h2 (Zq _)
end Go.AM.Ytfmnoohhhokicaa
end
noncomputable section
namespace Go.AM.Ytfmnoohhhokicaa
open Go Go.AM Go.AM.Rub
theorem ZiW {C : Callee} {site : Nat → Nat} {seen : List Nat} {f : FuncId} {args : List AV} {id id' n n' g g' sz sz' : Nat} {cells cells' : List AV} {k : IntKind} {z : Int} {H' : AHeap} (h : C f args [] 0 = some (.tup [.ref id 0 n n g sz false, .ref id' 0 n' n' g' sz' false, .int k z], H')) (hg : hget H' id = some ⟨.row, cells⟩) (hg' : hget H' id' = some ⟨.row, cells'⟩) (hne : id' ≠ id) (hs : site 1 ≠ site 0) (e1 : cells.length = g) (e2 : cells'.length = g') :
   aBack site true seen (thaw C f args [] 0) = Z2L (site 0) (site 1) seen (fun k0 k1 => .tup [.ref k0 0 n n g sz false, .ref k1 0 n' n' g' sz' false, .int k z]) ⟨.row, cells⟩ ⟨.row, cells'⟩ := by
 subst e1; subst e2
 have hb : ∀ off, (site 1 + off == site 0 + off) = false := fun off => by rw [beq_eq_false_iff_ne]; omega
 simp only [thaw, h, frzRet, aBack, sitesB, aBackAt, imp, imps, hg, hg', hne, hb, List.length_nil, List.length_cons, List.not_mem_nil, List.mem_cons, or_false, not_false_eq_true, and_true, if_true, List.map_cons, List.map_nil, AM.apart, List.elem_cons, List.elem_nil, Bool.not_false, Bool.and_true, AV.leads, AV.leads.leadsL, Bool.or_false, Bool.true_or, Nat.zero_add, Z2L]
def pairE (a b : List Int) : Int := if chkR a ≠ 0 then chkR a else if chkR b ≠ 0 then chkR b else if a.length ≠ b.length then 5 else if ps (rowF a) a.length ≠ ps (rowF b) b.length then 17 else 0
theorem Z1m {a b : List Int} : pairE a b = 0 ↔ ∃ n, 0 < n ∧ n ≤ 6 ∧ Rw n a ∧ Rw n b ∧ ps (rowF a) n = ps (rowF b) n := by
 unfold pairE
 by_cases ha : chkR a = 0
 · rw [if_neg (fun e => e ha)]
   by_cases hb : chkR b = 0
   · rw [if_neg (fun e => e hb)]
     obtain ⟨a1, a2, a3⟩ := Z1e.1 ha
     obtain ⟨b1, b2, b3⟩ := Z1e.1 hb
     by_cases hl : a.length = b.length
     · rw [if_neg (fun e => e hl)]
       by_cases hs : ps (rowF a) a.length = ps (rowF b) b.length
       · rw [if_neg (fun e => e hs)]
         rw [← hl] at hs b3
         exact ⟨fun _ => ⟨a.length, a1, a2, a3, b3, hs⟩, fun _ => rfl⟩
       · rw [if_pos hs]
         refine ⟨fun e => absurd e (by decide), fun ⟨n, _, _, r1, r2, r3⟩ => ?_⟩
         rw [r1.len, r2.len] at hs; exact absurd r3 hs
     · rw [if_pos hl]
       refine ⟨fun e => absurd e (by decide), fun ⟨n, _, _, r1, r2, r3⟩ => ?_⟩
       rw [r1.len, r2.len] at hl; exact absurd rfl hl
   · rw [if_pos hb]
     refine ⟨fun e => absurd e hb, fun ⟨n, h0, h6, r1, r2, r3⟩ => absurd (Z1e.2 ⟨by rw [r2.len]; exact h0, by rw [r2.len]; exact h6, by rw [r2.len]; exact r2⟩) hb⟩
 · rw [if_pos ha]
   refine ⟨fun e => absurd e ha, fun ⟨n, h0, h6, r1, r2, r3⟩ => absurd (Z1e.2 ⟨by rw [r1.len]; exact h0, by rw [r1.len]; exact h6, by rw [r1.len]; exact r1⟩) ha⟩
theorem ZUB {d : Nat} {l m : List Int} {a b : AV} (ha : IV l a) (hb : IV m b) (hl : l.length ≤ 1000) (hm : m.length ≤ 1000) :
   (pairE l m ≠ 0 ∧ ∃ H, bodyA E (kF (d + 1)) fg 1000000 85 [a, b] [] 0 = some (.tup [.nilsl, .nilsl, .int .i64 (pairE l m)], H)) ∨
   (pairE l m = 0 ∧ ∃ H, bodyA E (kF (d + 1)) fg 1000000 85 [a, b] [] 0 = some (.tup [.ref 20 0 (l.length + 1) (l.length + 1) (l.length + 1) 1 false, .ref 22 0 (m.length + 1) (m.length + 1) (m.length + 1) 1 false, .int .i64 0], H) ∧ hget H 20 = some ⟨.row, ics (riL l)⟩ ∧ hget H 22 = some ⟨.row, ics (riL m)⟩) := by
 have hc1 := fun (site : Nat → Nat) seen => Z3w (d := d) (site := site) (seen := seen) ha hl
 have hc2 := fun (site : Nat → Nat) seen => Z3w (d := d) (site := site) (seen := seen) hb hm
 have sa := Z0J ha
 have sb := Z0J hb
 unfold pairE
 by_cases h1 : chkR l = 0
 · rw [if_neg (fun e => e h1)]
   rw [h1] at hc1
   obtain ⟨a1, a2, a3⟩ := Z1e.1 h1
   by_cases h2 : chkR m = 0
   · rw [if_neg (fun e => e h2)]
     rw [h2] at hc2
     obtain ⟨b1, b2, b3⟩ := Z1e.1 h2
     have r1 := fun (site : Nat → Nat) seen => Z5y (d := d) (site := site) (seen := seen) ha a3 (by omega)
     have r2 := fun (site : Nat → Nat) seen => Z5y (d := d) (site := site) (seen := seen) hb b3 (by omega)
     obtain ⟨ea, rfl⟩ := Z5n ha a1
     obtain ⟨eb, rfl⟩ := Z5n hb b1
     have l1 := Za l
     have l2 := Za m
     have l3 := Z1d l
     have l4 := Z1d m
     generalize kF (d + 1) = C at *
     by_cases h3 : l.length = m.length
     · rw [if_neg (fun e => e h3)]
       have g1 : ¬ (l.length : Int) ≠ m.length := by omega
       have g2 : ((l.length : Int) != m.length) = false := by rw [bne_eq_false_iff_eq]; omega
       have g3 : (l.length : Int) = m.length := by omega
       have g4 : (l.length : Int) < ((l.length + 1 : Nat) : Int) := by omega
       have g5 : (m.length : Int) < ((m.length + 1 : Nat) : Int) := by omega
       have t1 : (ics (riL l))[l.length]? = some (.int .i64 (ps (rowF l) l.length)) := Z1Y (Z3T (Nat.le_refl _))
       have t2 : (ics (riL m))[m.length]? = some (.int .i64 (ps (rowF m) m.length)) := Z1Y (Z3T (Nat.le_refl _))
       by_cases h4 : ps (rowF l) l.length = ps (rowF m) m.length
       · rw [if_neg (fun e => e h4)]
         refine .inr ⟨rfl, ?_⟩
         generalize ps (rowF l) l.length = p at *
         generalize ps (rowF m) m.length = q at *
         subst h4
         simp (disch := omega) only [ZF, Z5, stp, just, Rd.bind, Rd.run, Rd.opt, upds, tsz, rdCells, aLoad, resA, resL, Z4, aNum, aLen, Z3, aBin, aInt, Nat.reduceAdd, Nat.reduceLT, Nat.reduceBEq, Nat.reduceEqDiff, Nat.reduceLeDiff, ↓reduceIte, reduceCtorEq, stpT, Rd.foot, writing, Zb, Tr.empty, Zc, apartT, disj, aCall, snaps, ZT, F_85, hc1, hc2, r1, r2, l3, l4, g2, g4, g5, t1, t2]
         exact ⟨_, rfl, rfl, rfl⟩
       · rw [if_pos h4]
         refine .inl ⟨by decide, ?_⟩
         generalize ps (rowF l) l.length = p at *
         generalize ps (rowF m) m.length = q at *
         have h4' : (p != q) = true := by rw [bne_iff_ne]; exact h4
         simp (disch := omega) only [ZF, Z5, stp, just, Rd.bind, Rd.run, Rd.opt, upds, tsz, rdCells, aLoad, resA, resL, Z4, aNum, aLen, Z3, aBin, aInt, Nat.reduceAdd, Nat.reduceLT, Nat.reduceBEq, Nat.reduceEqDiff, Nat.reduceLeDiff, ↓reduceIte, reduceCtorEq, stpT, Rd.foot, writing, Zb, Tr.empty, Zc, apartT, disj, aCall, snaps, ZT, F_85, hc1, hc2, r1, r2, l3, l4, g2, g4, g5, h4', t1, t2]
         exact ⟨_, rfl⟩
     · rw [if_pos h3]
       refine .inl ⟨by decide, ?_⟩
       have g1 : (l.length : Int) ≠ m.length := by omega
       have g2 : ((l.length : Int) != m.length) = true := by rw [bne_iff_ne]; omega
       have g3 : ¬ (l.length : Int) = m.length := by omega
       simp (disch := omega) only [ZF, Z5, stp, just, Rd.bind, Rd.run, Rd.opt, upds, tsz, rdCells, aLoad, resA, resL, Z4, aNum, aLen, Z3, aBin, aInt, Nat.reduceAdd, Nat.reduceLT, Nat.reduceBEq, Nat.reduceEqDiff, Nat.reduceLeDiff, ↓reduceIte, reduceCtorEq, stpT, Rd.foot, aCall, snaps, ZT, F_85, hc1, hc2, r1, r2, l3, g2, if_pos]
       exact ⟨_, rfl⟩
   · rw [if_pos h2]
     refine .inl ⟨h2, ?_⟩
     generalize kF (d + 1) = C at *
     generalize chkR m = z at *
     have h0' : (z == 0) = false := by rw [beq_eq_false_iff_ne]; exact h2
     simp (disch := omega) only [ZF, Z5, stp, just, Rd.bind, Rd.run, Rd.opt, upds, resA, resL, aBin, aInt, Nat.reduceBEq, Nat.reduceEqDiff, Nat.reduceLeDiff, ↓reduceIte, reduceCtorEq, aCall, snaps, F_85, hc1, hc2, h2, sa 198, sb 198]
     exact ⟨_, rfl⟩
 · rw [if_pos h1]
   refine .inl ⟨h1, ?_⟩
   generalize kF (d + 1) = C at *
   generalize chkR l = z at *
   have h0' : (z == 0) = false := by rw [beq_eq_false_iff_ne]; exact h1
   simp (disch := omega) only [ZF, Z5, stp, just, Rd.bind, Rd.run, Rd.opt, upds, resA, resL, aBin, aInt, Nat.reduceBEq, Nat.reduceEqDiff, Nat.reduceLeDiff, ↓reduceIte, reduceCtorEq, aCall, snaps, F_85, hc1, h1, sa 198]
   exact ⟨_, rfl⟩
def PaC (C : Callee) (a b : AV) (l m : List Int) : Prop :=
 (pairE l m ≠ 0 ∧ ∀ (site : Nat → Nat) seen, aBack site true seen (thaw C 85 [a, b] [] 0) = .pure (.tup [.nilsl, .nilsl, .int .i64 (pairE l m)], [])) ∨
 (pairE l m = 0 ∧ ∀ (site : Nat → Nat) seen, site 1 ≠ site 0 → aBack site true seen (thaw C 85 [a, b] [] 0) = Z2L (site 0) (site 1) seen (fun k k' => .tup [.ref k 0 (l.length + 1) (l.length + 1) (l.length + 1) 1 false, .ref k' 0 (m.length + 1) (m.length + 1) (m.length + 1) 1 false, .int .i64 0]) ⟨.row, ics (riL l)⟩ ⟨.row, ics (riL m)⟩)
theorem paC {d : Nat} {l m : List Int} {a b : AV} (ha : IV l a) (hb : IV m b) (hl : l.length ≤ 1000) (hm : m.length ≤ 1000) : PaC (kF (d + 2)) a b l m := by
 rcases ZUB (d := d) ha hb hl hm with ⟨h, H, h1⟩ | ⟨h, H, h1, h2, h3⟩
 · exact .inl ⟨h, fun site seen => Z0I (by rw [Z15 rfl]; exact h1) rfl (fun _ => rfl) rfl⟩
 · exact .inr ⟨h, fun site seen hs => ZiW (by rw [Z15 rfl]; exact h1) h2 h3 (by decide) hs (Z1d l) (Z1d m)⟩
def ovE (a b : List Int) (i : Nat) : Int := if rowF a i < rowF b i then (i : Int) + 1 else 0
def ovV (a b : List Int) : Int := fe (ovE a b) 0 a.length - 1
abbrev ovS (a b : List Int) (x y : Bool) (i : Nat) : St := ([(8, .int .i64 i), (7, .int .i64 a.length), (1, .imm (ics b) b.length y), (0, .imm (ics a) a.length x)], [])
theorem ZRG {C : Callee} {a b : List Int} {x y : Bool} (hl : a.length = b.length) (h9 : a.length ≤ 1000) : rsOf (bodyA E C fg 1000000 86 [.imm (ics a) a.length x, .imm (ics b) b.length y] [] 0) = some (.int .i64 (ovV a b)) := by
 have l1 := Za a
 have l2 := Za b
 have hloop := loopE (f := (execA E C (fg 86) 0 22 [] 1000000 Zc0)) (e := ovE a b) (R := fun e H => ([(4, .int .i64 (e - 1))], H)) (ovS a b x y) a.length (E0 := []) rfl (by omega) (x := .exit 0) (se := ([(9, .bool false), (8, .int .i64 a.length), (7, .int .i64 a.length), (1, .imm (ics b) b.length y), (0, .imm (ics a) a.length x)], [])) (by simp)
   (fun i hi _ he => by
     have a1 := Z01 (l := a) (k := i) hi
     have a2 := Z01 (l := b) (k := i) (by omega)
     have g1 : (i : Int) < a.length := by omega
     have g2 : (i : Int) < b.length := by omega
     have g3 : ¬ rowF a i < rowF b i := fun h => by unfold ovE at he; rw [if_pos h] at he; omega
     simp (disch := omega) only [ZF, stp, just, Rd.bind, Rd.run, Rd.opt, upds, tsz, rdCells, aLoad, Z4, aNum, aBin, aInt, Nat.reduceAdd, Nat.reduceLT, Nat.reduceBEq, Nat.reduceEqDiff, Nat.reduceLeDiff, ↓reduceIte, reduceCtorEq, stpT, Rd.foot, writing, Zb, Tr.empty, Zc, ZT, F_86, ovS, g1, g2, g3, a1, a2, l1, l2, Zx (show i < 1000000 by omega)]
     exact ⟨_, rfl, rfl⟩)
   (fun i hi _ he => by
     have a1 := Z01 (l := a) (k := i) hi
     have a2 := Z01 (l := b) (k := i) (by omega)
     have g1 : (i : Int) < a.length := by omega
     have g2 : (i : Int) < b.length := by omega
     by_cases g3 : rowF a i < rowF b i
     · have e : ovE a b i - 1 = i := by unfold ovE; rw [if_pos g3]; omega
       rw [e]
       simp (disch := omega) only [ZF, stp, just, Rd.bind, Rd.run, Rd.opt, upds, tsz, rdCells, aLoad, Z4, aNum, aBin, aInt, Nat.reduceAdd, Nat.reduceLT, Nat.reduceBEq, Nat.reduceEqDiff, Nat.reduceLeDiff, ↓reduceIte, reduceCtorEq, stpT, Rd.foot, writing, Zb, Tr.empty, Zc, ZT, F_86, ovS, g1, g2, g3, a1, a2, l1, l2]
       exact ⟨_, rfl⟩
     · unfold ovE at he; rw [if_neg g3] at he; exact absurd rfl he)
   (fun _ => by simp (disch := omega) only [ZF, stp, just, Rd.bind, Rd.run, Rd.opt, upds, aBin, aInt, Nat.reduceEqDiff, Nat.reduceLeDiff, ↓reduceIte, F_86, ovS])
 simp only [ovS, cl0] at hloop
 unfold ovV
 rcases hloop with ⟨hz, hloop⟩ | ⟨hz, H, hloop⟩
 · rw [hz]
   have e : (0 : Int) - 1 = -1 := rfl
   rw [e]
   simp (disch := omega) only [ZF, Z5, stp, just, Rd.bind, Rd.run, upds, resA, resL, aLen, Z3, Nat.reduceBEq, Nat.reduceEqDiff, Nat.reduceLeDiff, Int.reduceNeg, ↓reduceIte, reduceCtorEq, ZT, F_86, hloop]
 · simp (disch := omega) only [ZF, Z5, stp, just, Rd.bind, Rd.run, upds, resA, resL, aLen, Z3, Nat.reduceBEq, Nat.reduceEqDiff, Nat.reduceLeDiff, ↓reduceIte, reduceCtorEq, ZT, F_86, hloop]
theorem Z6e {d : Nat} {site : Nat → Nat} {seen : List Nat} {a b : List Int} {n : Nat} {x y : Bool} (h1 : a.length = n) (h2 : b.length = n) (h9 : n ≤ 1000) : aBack site true seen (thaw (kF (d + 1)) 86 [.imm (ics a) n x, .imm (ics b) n y] [] 0) = .pure (.int .i64 (ovV a b), []) := by
 have := Z10 (site := site) (seen := seen) (Z0P (d := d) (f := 86) rfl (ZRG (C := kF d) (a := a) (b := b) (x := x) (y := y) (by omega) (by omega)))
 rw [h1, h2] at this
 exact this
def whV (a b : List Int) : Int := ovV (riL a) (riL b)
theorem ZI5 {n : Nat} {a b : List Int} (ha : Rw n a) (hb : Rw n b) (he : ps (rowF a) n = ps (rowF b) n) : whV a b < 0 ↔ MajL a b := by
 have hla : (riL a).length = n + 1 := by show (riP a a.length).length = _; rw [Z1c, ha.len]
 have h0 : ∀ m k, 0 ≤ fe (ovE (riL a) (riL b)) k m := by
   intro m
   induction m with
   | zero => intro k; exact Int.le_refl _
   | succ m ih =>
     intro k
     simp only [fe]
     split
     · exact ih _
     · unfold ovE; split <;> omega
 have := h0 (riL a).length 0
 have hz : whV a b < 0 ↔ fe (ovE (riL a) (riL b)) 0 (riL a).length = 0 := by unfold whV ovV; omega
 rw [hz, Z2F, hla]
 constructor
 · intro h
   refine ⟨by rw [ha.len]; exact he, fun k hk => ?_⟩
   rw [ha.len] at hk
   have := h k (by omega) (by omega)
   unfold ovE at this
   split at this
   · omega
   · rename_i hno
     rw [Z2q (by rw [ha.len]; omega), Z2q (by rw [hb.len]; omega)] at hno
     omega
 · intro h i _ hi
   unfold ovE
   rw [if_neg]
   rw [Z2q (by rw [ha.len]; omega), Z2q (by rw [hb.len]; omega)]
   have := h.le i (by rw [ha.len]; omega)
   omega
def becV (a b : List Int) : Bool := decide (pairE a b = 0 ∧ whV a b < 0)
theorem Zut {d : Nat} {l m : List Int} {a b : AV} (ha : IV l a) (hb : IV m b) (hl : l.length ≤ 1000) (hm : m.length ≤ 1000) : rsOf (bodyA E (kF (d + 2)) fg 1000000 27 [a, b] [] 0) = some (.tup [.bool (becV l m), .int .i64 (pairE l m)]) := by
 have hp := paC (d := d) ha hb hl hm
 have sa := Z0J ha
 have sb := Z0J hb
 unfold becV
 rcases hp with ⟨h, hp⟩ | ⟨h, hp⟩
 · rw [decide_eq_false fun e => h e.1]
   generalize kF (d + 2) = C at *
   generalize pairE l m = z at *
   have h0' : (z == 0) = false := by rw [beq_eq_false_iff_ne]; exact h
   simp (disch := omega) only [ZF, Z5, stp, justO, just, Rd.bind, Rd.run, Rd.opt, upds, Zd, resA, resL, aBin, aInt, Nat.reduceBEq, Nat.reduceEqDiff, Nat.reduceLeDiff, ↓reduceIte, reduceCtorEq, aCall, snaps, F_27, hp, h, sa 198, sb 197]
 · obtain ⟨n, n0, n6, r1, r2, re⟩ := Z1m.1 h
   have ho := fun (site : Nat → Nat) seen x y => Z6e (d := d + 1) (site := site) (seen := seen) (a := riL l) (b := riL m) (n := n + 1) (x := x) (y := y) (by show (riP l l.length).length = _; rw [Z1c, r1.len]) (by show (riP m m.length).length = _; rw [Z1c, r2.len]) (by omega)
   have e1 : ovV (riL l) (riL m) = whV l m := rfl
   rw [e1] at ho
   rw [r1.len, r2.len] at hp
   have l1 := Z1d l
   have l2 := Z1d m
   rw [r1.len] at l1
   rw [r2.len] at l2
   have t1 : List.take (n + 1) (ics (riL l)) = ics (riL l) := List.take_of_length_le (by omega)
   have t2 : List.take (n + 1) (ics (riL m)) = ics (riL m) := List.take_of_length_le (by omega)
   rw [h]
   generalize kF (d + 2) = C at *
   generalize whV l m = w at *
   by_cases hw : w < 0
   · rw [decide_eq_true ⟨rfl, hw⟩]
     simp (disch := omega) only [ZF, Z5, stp, justO, just, Rd.bind, Rd.run, Rd.opt, upds, Zd, resA, resL, aBin, aInt, Nat.reduceAdd, Nat.reduceMul, Nat.reduceBEq, Nat.reduceEqDiff, Nat.reduceLeDiff, ↓reduceIte, reduceCtorEq, aCall, snaps, F_27, hp, ho, hw, l1, l2, t1, t2, sa 198, sb 197]
   · rw [decide_eq_false fun e => hw e.2]
     simp (disch := omega) only [ZF, Z5, stp, justO, just, Rd.bind, Rd.run, Rd.opt, upds, Zd, resA, resL, aBin, aInt, Nat.reduceAdd, Nat.reduceMul, Nat.reduceBEq, Nat.reduceEqDiff, Nat.reduceLeDiff, ↓reduceIte, reduceCtorEq, aCall, snaps, F_27, hp, ho, hw, l1, l2, t1, t2, sa 198, sb 197]
theorem Zrh {d : Nat} {site : Nat → Nat} {seen : List Nat} {l m : List Int} {a b : AV} (ha : IV l a) (hb : IV m b) (hl : l.length ≤ 1000) (hm : m.length ≤ 1000) : aBack site true seen (thaw (kF (d + 3)) 27 [a, b] [] 0) = .pure (.tup [.bool (becV l m), .int .i64 (pairE l m)], []) :=
 ZiX (Z0P rfl (Zut ha hb hl hm))
def whyV (a b : List Int) : Int := if pairE a b = 0 ∧ ¬ whV a b < 0 then whV a b else 0
def whyE (a b : List Int) : Int := if pairE a b ≠ 0 then pairE a b else if whV a b < 0 then 13 else 0
theorem Z04R {d : Nat} {l m : List Int} {a b : AV} (ha : IV l a) (hb : IV m b) (hl : l.length ≤ 1000) (hm : m.length ≤ 1000) : rsOf (bodyA E (kF (d + 2)) fg 1000000 29 [a, b] [] 0) = some (.tup [.int .i64 (whyV l m), .int .i64 (whyE l m)]) := by
 have hp := paC (d := d) ha hb hl hm
 have sa := Z0J ha
 have sb := Z0J hb
 unfold whyV whyE
 rcases hp with ⟨h, hp⟩ | ⟨h, hp⟩
 · rw [if_neg fun e => h e.1, if_pos h]
   generalize kF (d + 2) = C at *
   generalize pairE l m = z at *
   have h0' : (z == 0) = false := by rw [beq_eq_false_iff_ne]; exact h
   simp (disch := omega) only [ZF, Z5, stp, justO, just, Rd.bind, Rd.run, Rd.opt, upds, Zd, resA, resL, aBin, aInt, Nat.reduceBEq, Nat.reduceEqDiff, Nat.reduceLeDiff, ↓reduceIte, reduceCtorEq, aCall, snaps, F_29, hp, h, sa 198, sb 197]
 · obtain ⟨n, n0, n6, r1, r2, re⟩ := Z1m.1 h
   have ho := fun (site : Nat → Nat) seen x y => Z6e (d := d + 1) (site := site) (seen := seen) (a := riL l) (b := riL m) (n := n + 1) (x := x) (y := y) (by show (riP l l.length).length = _; rw [Z1c, r1.len]) (by show (riP m m.length).length = _; rw [Z1c, r2.len]) (by omega)
   have e1 : ovV (riL l) (riL m) = whV l m := rfl
   rw [e1] at ho
   rw [r1.len, r2.len] at hp
   have l1 := Z1d l
   have l2 := Z1d m
   rw [r1.len] at l1
   rw [r2.len] at l2
   have t1 : List.take (n + 1) (ics (riL l)) = ics (riL l) := List.take_of_length_le (by omega)
   have t2 : List.take (n + 1) (ics (riL m)) = ics (riL m) := List.take_of_length_le (by omega)
   rw [h, if_neg (fun e : (0 : Int) ≠ 0 => e rfl)]
   generalize kF (d + 2) = C at *
   generalize whV l m = w at *
   by_cases hw : w < 0
   · rw [if_neg fun e => e.2 hw, if_pos hw]
     simp (disch := omega) only [ZF, Z5, stp, justO, just, Rd.bind, Rd.run, Rd.opt, upds, Zd, resA, resL, aBin, aInt, Nat.reduceAdd, Nat.reduceMul, Nat.reduceBEq, Nat.reduceEqDiff, Nat.reduceLeDiff, ↓reduceIte, reduceCtorEq, aCall, snaps, F_29, hp, ho, hw, l1, l2, t1, t2, sa 198, sb 197]
   · rw [if_pos ⟨rfl, hw⟩, if_neg hw]
     simp (disch := omega) only [ZF, Z5, stp, justO, just, Rd.bind, Rd.run, Rd.opt, upds, Zd, resA, resL, aBin, aInt, Nat.reduceAdd, Nat.reduceMul, Nat.reduceBEq, Nat.reduceEqDiff, Nat.reduceLeDiff, ↓reduceIte, reduceCtorEq, aCall, snaps, F_29, hp, ho, hw, l1, l2, t1, t2, sa 198, sb 197]
theorem ZRo {d : Nat} {site : Nat → Nat} {seen : List Nat} {l m : List Int} {a b : AV} (ha : IV l a) (hb : IV m b) (hl : l.length ≤ 1000) (hm : m.length ≤ 1000) : aBack site true seen (thaw (kF (d + 3)) 29 [a, b] [] 0) = .pure (.tup [.int .i64 (whyV l m), .int .i64 (whyE l m)], []) :=
 ZGz (Z0P rfl (Z04R ha hb hl hm))
def prvE (a b : List Int) (k : Int) : Int := if pairE a b ≠ 0 then pairE a b else if k < 0 ∨ k > a.length then 2 else if ps (rowF a) k.toNat ≥ ps (rowF b) k.toNat then 14 else 0
theorem ZG7 {d : Nat} {l m : List Int} {a b : AV} {k : Int} (ha : IV l a) (hb : IV m b) (hl : l.length ≤ 1000) (hm : m.length ≤ 1000) : rsOf (bodyA E (kF (d + 2)) fg 1000000 35 [a, b, .int .i64 k] [] 0) = some (.int .i64 (prvE l m k)) := by
 have hp := paC (d := d) ha hb hl hm
 have sa := Z0J ha
 have sb := Z0J hb
 unfold prvE
 rcases hp with ⟨h, hp⟩ | ⟨h, hp⟩
 · rw [if_pos h]
   generalize kF (d + 2) = C at *
   generalize pairE l m = z at *
   have h0' : (z == 0) = false := by rw [beq_eq_false_iff_ne]; exact h
   simp (disch := omega) only [ZF, ↓gd, Z5, stp, opPick, justO, just, Rd.bind, Rd.run, Rd.opt, upds, Zd, resA, resL, Z4, aNum, aLen, Z3, aBin, aInt, Nat.reduceAdd, Nat.reduceBEq, Nat.reduceEqDiff, Nat.reduceLeDiff, ↓reduceIte, reduceCtorEq, stpT, aCall, snaps, ZT, F_35, hp, h, sa 198, sb 197]
 · obtain ⟨n, n0, n6, r1, r2, re⟩ := Z1m.1 h
   rw [r1.len, r2.len] at hp
   have l1 := Z1d l
   have l2 := Z1d m
   rw [r1.len] at l1
   rw [r2.len] at l2
   rw [h, if_neg (fun e : (0 : Int) ≠ 0 => e rfl)]
   have hla : aLen E.T 22 a = .pure (.int .i64 (n : Int)) := by rw [ZFw ha, r1.len]
   rw [r1.len]
   generalize kF (d + 2) = C at *
   by_cases c1 : k < 0 ∨ k > n
   · rw [if_pos c1]
     by_cases c2 : k < 0
     · simp (disch := omega) only [ZF, ↓gd, Z5, stp, opPick, justO, just, Rd.bind, Rd.run, Rd.opt, upds, tsz, Zd, resA, resL, Z4, aNum, aBin, aInt, Nat.reduceAdd, Nat.reduceMul, Nat.reduceLT, Nat.reduceBEq, Nat.reduceEqDiff, Nat.reduceLeDiff, ↓reduceIte, reduceCtorEq, stpT, aCall, snaps, ZT, F_35, hp, c2, sa 198, sb 197, if_pos]
     · have c3 : k > n := by omega
       simp (disch := omega) only [ZF, ↓gd, Z5, stp, opPick, justO, just, Rd.bind, Rd.run, Rd.opt, upds, tsz, Zd, resA, resL, Z4, aNum, Z3, aBin, aInt, Nat.reduceAdd, Nat.reduceMul, Nat.reduceLT, Nat.reduceBEq, Nat.reduceEqDiff, Nat.reduceLeDiff, ↓reduceIte, reduceCtorEq, stpT, aCall, snaps, ZT, F_35, hp, c2, c3, hla, sa 198, sb 197, if_pos]
   · rw [if_neg c1]
     obtain ⟨q, rfl⟩ : ∃ q : Nat, k = q := ⟨k.toNat, by omega⟩
     have c2 : ¬ (q : Int) < 0 := by omega
     have c3 : ¬ (q : Int) > n := by omega
     have t1 : (ics (riL l))[q]? = some (.int .i64 (ps (rowF l) q)) := Z1Y (Z3T (by rw [r1.len]; omega))
     have t2 : (ics (riL m))[q]? = some (.int .i64 (ps (rowF m) q)) := Z1Y (Z3T (by rw [r2.len]; omega))
     have g1 : (q : Int) < ((n + 1 : Nat) : Int) := by omega
     rw [Int.toNat_natCast]
     generalize ps (rowF l) q = u at *
     generalize ps (rowF m) q = v at *
     by_cases c4 : u ≥ v
     · rw [if_pos c4]
       simp (disch := omega) only [ZF, ↓gd, Z5, stp, opPick, justO, just, Rd.bind, Rd.run, Rd.opt, upds, tsz, rdCells, aLoad, Zd, resA, resL, Z4, aNum, Z3, aBin, aInt, Nat.reduceAdd, Nat.reduceMul, Nat.reduceLT, Nat.reduceBEq, Nat.reduceEqDiff, Nat.reduceLeDiff, ↓reduceIte, reduceCtorEq, stpT, Rd.foot, writing, Zb, Tr.empty, Zc, apartT, disj, aCall, snaps, ZT, F_35, hp, c2, c3, c4, g1, t1, t2, l1, l2, hla, sa 198, sb 197]
     · rw [if_neg c4]
       simp (disch := omega) only [ZF, ↓gd, Z5, stp, opPick, justO, just, Rd.bind, Rd.run, Rd.opt, upds, tsz, rdCells, aLoad, Zd, resA, resL, Z4, aNum, Z3, aBin, aInt, Nat.reduceAdd, Nat.reduceMul, Nat.reduceLT, Nat.reduceBEq, Nat.reduceEqDiff, Nat.reduceLeDiff, ↓reduceIte, reduceCtorEq, stpT, Rd.foot, writing, Zb, Tr.empty, Zc, apartT, disj, aCall, snaps, ZT, F_35, hp, c2, c3, c4, g1, t1, t2, l1, l2, hla, sa 198, sb 197]
theorem Zuu {d : Nat} {site : Nat → Nat} {seen : List Nat} {l m : List Int} {a b : AV} {k : Int} (ha : IV l a) (hb : IV m b) (hl : l.length ≤ 1000) (hm : m.length ≤ 1000) : aBack site true seen (thaw (kF (d + 3)) 35 [a, b, .int .i64 k] [] 0) = .pure (.int .i64 (prvE l m k), []) :=
 Z10 (Z0P rfl (ZG7 ha hb hl hm))
end Go.AM.Ytfmnoohhhokicaa
end
noncomputable section
namespace Go.AM.Ytfmnoohhhokicaa
open Go Go.AM Go.AM.Rub
theorem ZQf {n : Nat} {l : List Int} (h : Rw n l) : l.take n = l := List.take_of_length_le (by rw [h.len]; exact Nat.le_refl _)
theorem totalA {d : Nat} {site : Nat → Nat} {seen : List Nat} {n : Nat} {l : List Int} (h : Rw n l) (hn : n ≤ 8) {ex : Bool} : aBack site true seen (thaw (kF (d + 1)) 58 [.imm (ics l) n ex] [] 0) = .pure (.int .i64 (ps (rowF l) n), []) := by
 have := Z17 (d := d) (site := site) (seen := seen) h hn (Nat.le_refl n) (ex := ex)
 rw [ZQf h] at this
 exact this
theorem Zr3 {n : Nat} {l : List Int} (h : Rw n l) : l ∈ rowsL n (ps (rowF l) n) 8 := by
 rw [Z3i]
 exact ⟨h.len, by rw [← Z5P, h.len], h.row⟩
theorem ZdG {n : Nat} {s : Int} {l : List Int} (h : l ∈ rowsL n s 8) : Rw n l ∧ ps (rowF l) n = s := by
 rw [Z3i] at h
 exact ⟨⟨h.1, h.2.2⟩, by rw [← h.2.1, ← Z5P, h.1]⟩
theorem ZHZ {n : Nat} {l : List Int} (h : Rw n l) (h0 : 0 < n) (h6 : n ≤ 6) : chkR l = 0 := by
 rw [Z1e, h.len]; exact ⟨h0, h6, h⟩
end Go.AM.Ytfmnoohhhokicaa
end
noncomputable section
namespace Go.AM.Rub
theorem ZHD (a : List Int) : MajL a a := Maj.refl _ _
end Go.AM.Rub
end
noncomputable section
namespace Go.AM.Ytfmnoohhhokicaa
open Go Go.AM Go.AM.Rub
theorem Zxh {n : Nat} {a : List Int} (h : Rw n a) : ∀ m j, j + m ≤ n → ps (rowF a) j ≤ ps (rowF a) (j + m)
 | 0, j, _ => Int.le_refl _
 | m + 1, j, hj => by
   have ih := Zxh h m j (by omega)
   have := rw_b h (k := j + m) (by omega)
   rw [show j + (m + 1) = j + m + 1 by omega, ps]
   omega
theorem Z5I {n : Nat} {a l : List Int} (ha : Rw n a) (hl : Rw n l) (he : ps (rowF l) n = ps (rowF a) n) : okE (ps (rowF a)) 0 0 l = true ↔ MajL a l := by
 rw [ZLf, hl.len]
 constructor
 · intro h
   refine ⟨by rw [ha.len, he], fun k hk => ?_⟩
   rw [ha.len] at hk
   cases k with
   | zero => exact Int.le_refl _
   | succ k =>
     have := h k (by omega)
     rw [Nat.zero_add] at this
     omega
 · intro h j hj
   have := h.le (j + 1) (by rw [ha.len]; omega)
   rw [Nat.zero_add]
   omega
theorem Zt7 {n : Nat} {a : List Int} (ha : Rw n a) (p : List Int → Bool) (hp : ∀ l, Rw n l → ps (rowF l) n = ps (rowF a) n → (p l = true ↔ MajL a l)) : beL a = (rowsL n (ps (rowF a) n) 8).filter p := by
 unfold beL
 have hx : ∀ j, j ≤ a.length → ps (rowF a) j ≤ ps (rowF a) a.length := fun j hj => by
   have := Zxh ha (a.length - j) j (by rw [ha.len] at hj ⊢; omega)
   rw [show j + (a.length - j) = a.length by omega] at this
   exact this
 rw [ZJI hx a.length [] 0 8 (by simp) (by omega) (fun h0 => by rw [h0]; rfl), ha.len, Int.sub_zero]
 simp only [List.nil_append, List.map_id']
 apply List.filter_congr
 intro l hl
 obtain ⟨h1, h2⟩ := ZdG hl
 rw [Bool.eq_iff_iff, hp l h1 h2]
 exact Z5I ha h1 h2
theorem Zzu {n : Nat} {a l : List Int} (ha : Rw n a) : l ∈ beL a ↔ Rw n l ∧ ps (rowF l) n = ps (rowF a) n ∧ MajL a l := by
 rw [Zt7 ha (okE (ps (rowF a)) 0 0) fun l hl he => Z5I ha hl he, List.mem_filter]
 constructor
 · rintro ⟨h, ho⟩
   obtain ⟨h1, h2⟩ := ZdG h
   exact ⟨h1, h2, (Z5I ha h1 h2).1 ho⟩
 · rintro ⟨h1, h2, h3⟩
   refine ⟨by rw [← h2]; exact Zr3 h1, (Z5I ha h1 h2).2 h3⟩
theorem Zen {n : Nat} {a : List Int} (ha : Rw n a) : 0 < (beL a).length := List.length_pos_of_mem ((Zzu ha).2 ⟨ha, rfl, ZHD a⟩)
theorem Z0ea {n : Nat} {a : List Int} (ha : Rw n a) : (beL a).length ≤ (rowsL n (ps (rowF a) n) 8).length := by
 rw [Zt7 ha (okE (ps (rowF a)) 0 0) fun l hl he => Z5I ha hl he]
 exact List.length_filter_le _ _
theorem ZUs {n : Nat} {s : Int} (h : n ≤ 6) : (rowsL n s 8).length ≤ 531441 := by
 have := Z4n n s 8 (by omega)
 have := Nat.pow_le_pow_right (n := 9) (show 0 < 9 by omega) h
 omega
theorem ZOD {d : Nat} {l : List Int} {a : AV} (ha : IV l a) (hl : l.length ≤ 1000) :
   (chkR l ≠ 0 ∧ ∃ H, bodyA E (kF (d + 10)) fg 1000000 37 [a] [] 0 = some (.tup [.nilsl, .int .i64 (chkR l)], H)) ∨
   (chkR l = 0 ∧ ∃ H, bodyA E (kF (d + 10)) fg 1000000 37 [a] [] 0 = some (.tup [.ref 232 0 (beL l).length (beL l).length (beL l).length 1 false, .int .i64 0], H) ∧ hget H 232 = some ⟨.row, lcs (beL l)⟩) := by
 have hc := fun (site : Nat → Nat) seen => Z3w (d := d + 9) (site := site) (seen := seen) ha hl
 have sn := Z0J ha
 by_cases h0 : chkR l = 0
 · obtain ⟨hp, h6, hr⟩ := Z1e.1 h0
   obtain ⟨H, he, h5, h232⟩ := ZTS (d := d + 6 - l.length) ha hr hp h6
   rw [show d + 6 - l.length + l.length + 3 = d + 9 by omega] at he
   have he := (Z15 (d := d + 9) (f := 92) rfl [a, vB 5] [(5, ⟨.box, [.nilsl]⟩)] 120).trans he
   have h232 := h232 (Zen hr)
   rw [ZN (Zen hr)] at h5
   refine .inr ⟨h0, H, ?_⟩
   rw [h0] at hc
   generalize kF (d + 10) = C at *
   simp (disch := omega) only [ZF, Z5, stp, opBox, just, Rd.bind, Rd.run, Rd.opt, upds, zeroCells, rdCells, aLoad, resA, resL, fresh, aBin, aInt, Nat.reduceMul, Nat.reduceBEq, Nat.reduceEqDiff, Nat.reduceLeDiff, ↓reduceIte, reduceCtorEq, mutX, aCall, snaps, ZT, F_37, hc, he, h5, h232, sn 198]
 · refine .inl ⟨h0, ?_⟩
   generalize kF (d + 10) = C at *
   generalize chkR l = z at *
   have h0' : (z == 0) = false := by rw [beq_eq_false_iff_ne]; exact h0
   simp (disch := omega) only [ZF, Z5, stp, just, Rd.bind, Rd.run, Rd.opt, upds, resA, resL, aBin, aInt, Nat.reduceBEq, Nat.reduceEqDiff, Nat.reduceLeDiff, ↓reduceIte, reduceCtorEq, aCall, snaps, F_37, hc, h0, sn 198]
   exact ⟨_, rfl⟩
def RLL (C : Callee) (f : FuncId) (args : List AV) (e : Int) (L : List (List Int)) : Prop :=
 (e ≠ 0 ∧ ∀ (site : Nat → Nat) seen, aBack site true seen (thaw C f args [] 0) = .pure (.tup [.nilsl, .int .i64 e], [])) ∨
 (e = 0 ∧ ∀ (site : Nat → Nat) seen, aBack site true seen (thaw C f args [] 0) = Z0t (site 0) seen (fun k => .tup [.ref k 0 L.length L.length L.length 1 false, .int .i64 0]) ⟨.row, lcs L⟩)
theorem ZPg {d : Nat} {l : List Int} {a : AV} (ha : IV l a) (hl : l.length ≤ 1000) : RLL (kF (d + 11)) 37 [a] (chkR l) (beL l) := by
 rcases ZOD (d := d) ha hl with ⟨h0, H, h⟩ | ⟨h0, H, h1, h2⟩
 · exact .inl ⟨h0, fun site seen => Zss ⟨H, by rw [Z15 rfl]; exact h⟩⟩
 · exact .inr ⟨h0, fun site seen => ZiT (by rw [Z15 rfl]; exact h1) h2 (Zq _)⟩
theorem ZFy {d n : Nat} {l : List Int} {a : AV} (ha : IV l a) (hr : Rw n l) (h0 : 0 < n) (h6 : n ≤ 6) (site : Nat → Nat) (seen : List Nat) :
   aBack site true seen (thaw (kF (d + 11)) 37 [a] [] 0) = Z0t (site 0) seen (fun k => .tup [.ref k 0 (beL l).length (beL l).length (beL l).length 1 false, .int .i64 0]) ⟨.row, lcs (beL l)⟩ := by
 rcases ZPg (d := d) ha (by rw [hr.len]; omega) with ⟨hz, _⟩ | ⟨_, h⟩
 · exact absurd (ZHZ hr h0 h6) hz
 · exact h site seen
end Go.AM.Ytfmnoohhhokicaa
end
noncomputable section
namespace Go.AM.Ytfmnoohhhokicaa
open Go Go.AM Go.AM.Rub
theorem Z08h {d : Nat} {l m : List Int} {x : Bool} (hl : m.length ≤ 1000) : rsOf (bodyA E (kF (d + 1)) fg 1000000 107 [.imm (ics l) l.length x, .iptr [.imm (ics m) m.length false] 0] [] 0) = some (.bool (decide (m = l))) := by
 have hs := fun (site : Nat → Nat) seen => Z4e (d := d) (site := site) (seen := seen) (Z2v m false) (Z2v l x) hl
 generalize kF (d + 1) = C at *
 simp (disch := omega) only [ZF, Z5, stp, just, Rd.bind, Rd.run, Rd.opt, upds, rdCells, aLoad, resA, resL, Nat.reduceBEq, Nat.reduceEqDiff, Nat.reduceLeDiff, ↓reduceIte, reduceCtorEq, aCall, snaps, ZT, Z0p0, hs]
theorem pr2 (d : Nat) (m : List Int) {L : List (List Int)} (hL : m.length ≤ 1000) : PrC (kF (d + 2)) 107 (.imm (ics m) m.length false) (fun l => decide (m = l)) L :=
 ⟨⟨_, ZHJ⟩, fun _ _ => rfl, fun _ _ _ _ => Z0Y (Z0P rfl (Z08h hL))⟩
theorem Z0bw (m : List Int) (L : List (List Int)) : L.any (fun l => decide (m = l)) = decide (m ∈ L) := by
 rw [Bool.eq_iff_iff, List.any_eq_true, decide_eq_true_eq]
 constructor
 · rintro ⟨x, hx, e⟩; rw [of_decide_eq_true e]; exact hx
 · intro h; exact ⟨m, h, decide_eq_true rfl⟩
theorem con2 {d : Nat} {m : List Int} {a : AV} {L : List (List Int)} (ha : LV L a) (hL : m.length ≤ 1000) (hl : L.length ≤ 900000) {site : Nat → Nat} {seen : List Nat} :
   aBack site true seen (thaw (kF (d + 4)) 73 [a, .clo 107 [.iptr [.imm (ics m) m.length false] 0]] [] 0) = .pure (.bool (decide (m ∈ L)), []) := by
 have := ZtS (site := site) (seen := seen) (pr2 d m (L := L) hL) ha hl (fun _ => rfl)
 rw [Z0bw] at this
 exact this
structure ReC (C : Callee) (n : Nat) : Prop where
 co : ∀ (site : Nat → Nat) seen m a L, LV L a → L.length ≤ 900000 → m.length = n → aBack site true seen (thaw C 73 [a, .clo 107 [.iptr [.imm (ics m) n false] 0]] [] 0) = .pure (.bool (decide (m ∈ L)), [])
 rb : ∀ (site : Nat → Nat) seen row x, Rw n row → aBack site true seen (thaw C 106 [.imm (ics row) n x] [] 0) = if rbL row = [] then .pure (.nilsl, []) else Z0t (site 0) seen (fun k => .ref k 0 (rbL row).length (rbL row).length (rbL row).length 1 false) ⟨.row, lcs (rbL row)⟩
theorem reC (d : Nat) {n : Nat} (h0 : 0 < n) (h6 : n ≤ 6) : ReC (kF (d + 7)) n :=
 ⟨fun site seen m a L h1 h2 h3 => by subst h3; exact con2 (d := d + 3) h1 (by omega) h2, fun site seen row x h => Zqs (d := d) h h0 h6⟩
def farL (a : List Int) (L : List (List Int)) : List Int := L.map fun b => (apL a b : Int)
theorem Z8Z (a : List Int) (L : List (List Int)) : (farL a L).length = L.length := by simp [farL]
theorem ZCM {a : List Int} {L : List (List Int)} {k : Nat} {b : List Int} (h : L[k]? = some b) : (farL a L)[k]? = some (apL a b : Int) := by simp [farL, h]
abbrev riI (a : List Int) (nbs all : List (List Int)) (i k : Nat) : St :=
 ([(24, .int .i64 k), (23, .int .i64 nbs.length), (22, .ref 22 0 nbs.length nbs.length nbs.length 1 false), (6, .int .i64 i), (5, .ref 11 0 all.length all.length all.length 1 false), (4, .ref 10 0 all.length all.length all.length 1 false)],
   [(10, ⟨.row, lcs all⟩), (11, ⟨.row, ics (farL a all)⟩), (22, ⟨.row, lcs nbs⟩)])
theorem Z0ow {C : Callee} {n : Nat} {a x : List Int} {nbs all : List (List Int)} (hC : ReC C n) (ha : all.length ≤ 800000) (hn : nbs.length ≤ 100) {i : Nat} (hi : i < all.length) (hx : all[i]? = some x) (hxf : apL a x ≤ 1000) (k : Nat) {l : List Int} (hk : nbs[k]? = some l) (hl : l.length = n) (hD : l ∉ all → apL a l = apL a x + 1) :
   ∃ s', (execA E C (fg 63) 0 47 [] 1000000 Z3V) (riI a nbs all i k) = some (.normal, s') ∧ headA [] s' = riI a nbs (ad all l) i (k + 1) := by
 have hkl := (List.getElem?_eq_some_iff.1 hk).1
 have hat := Z41 hk
 rw [hl] at hat
 have hln := Zq nbs
 have hla := Zq all
 have hta := Z1N all
 have hfl : (ics (farL a all)).length = all.length := by rw [Za, Z8Z]
 have htf : List.take all.length (ics (farL a all)) = ics (farL a all) := List.take_of_length_le (by omega)
 have hfa := Z1Y (ZCM (a := a) hx)
 have hco := fun (site : Nat → Nat) seen ex => hC.co site seen l (.imm (lcs all) all.length ex) all (.inr ⟨ex, rfl⟩) (by omega) hl
 have g1 : (k : Int) < nbs.length := by omega
 have g2 : (i : Int) < all.length := by omega
 have w : wrp .i64 ((apL a x : Int) + 1) = (apL a x : Int) + 1 := Zs (by omega)
 have had : ad all l = if l ∈ all then all else all ++ [l] := rfl
 rw [had]
 by_cases hm : l ∈ all
 · rw [if_pos hm]
   rw [decide_eq_true hm] at hco
   simp only [riI]
   generalize ics (farL a all) = F at *
   generalize lcs all = A at *
   generalize all.length = m at *
   generalize lcs nbs = NB at *
   generalize nbs.length = nn at *
   simp (disch := omega) only [ZF, stp, opBox, justO, just, Rd.bind, Rd.run, Rd.opt, upds, acells, zeroCells, tsz, elemT, rdCells, aLoad, aStore, opStore, fresh, Z4, aNum, Z3, aBin, aInt, putC, evO, Nat.reduceAdd, Nat.reduceLT, Nat.reduceBEq, Nat.reduceEqDiff, Nat.reduceLeDiff, ↓reduceIte, reduceCtorEq, stpT, Rd.foot, Z9, Zk, partsOf, fillA, repC, Zm, aAppend, srcOf, window, aUn, aCall, snaps, ZT, F_63, hat, hln, hla, hta, hco, g1, Zx (show k < 1000000 by omega)]
   exact ⟨_, rfl, rfl⟩
 · rw [if_neg hm]
   rw [decide_eq_false hm] at hco
   have s1 := Z40 all l
   rw [hl] at s1
   have s2 := Z2e (farL a all) ((apL a x : Int) + 1)
   have e2 : farL a all ++ [(apL a x : Int) + 1] = farL a (all ++ [l]) := by
     have := hD hm
     simp only [farL, List.map_append, List.map_cons, List.map_nil, this]
     simp
   rw [e2] at s2
   have hno : ¬ all.length + 1 ≤ all.length := by omega
   simp only [riI, List.length_append, List.length_singleton]
   rw [← s1, ← s2]
   generalize ics (farL a all) = F at *
   generalize lcs all = A at *
   generalize all.length = m at *
   generalize lcs nbs = NB at *
   generalize nbs.length = nn at *
   simp (disch := omega) only [ZF, stp, opBox, justO, just, Rd.bind, Rd.run, Rd.opt, upds, acells, zeroCells, tsz, elemT, rdCells, aLoad, aStore, opStore, fresh, Z4, aNum, Z3, aBin, aInt, putC, evO, Nat.reduceAdd, Nat.reduceLT, Nat.reduceBEq, Nat.reduceEqDiff, Nat.reduceLeDiff, ↓reduceIte, reduceCtorEq, stpT, Rd.foot, writing, Zb, Tr.empty, Zc, apartT, disj, Z9, Zk, partsOf, fillA, repC, Zm, aAppend, srcOf, window, aUn, aCall, snaps, ZT, F_63, hat, hln, hla, hta, hfl, htf, hfa, hco, g1, g2, w, hno, Z2w (show m + 1 ≤ 1000000 by omega), Z0M (show m + 1 ≤ 1000000 by omega), Zx (show k < 1000000 by omega)]
   exact ⟨_, rfl, rfl⟩
abbrev reS (a : List Int) (all : List (List Int)) (i : Nat) : St :=
 ([(6, .int .i64 i), (5, .ref 11 0 all.length all.length all.length 1 false), (4, .ref 10 0 all.length all.length all.length 1 false)], [(10, ⟨.row, lcs all⟩), (11, ⟨.row, ics (farL a all)⟩)])
theorem Z02R (all : List (List Int)) (ls : List (List Int)) (l : List Int) : addN all (ls ++ [l]) = ad (addN all ls) l := by
 rw [Z69]; unfold ad; by_cases h : l ∈ addN all ls <;> simp [h]
theorem Z8F : ∀ (ls all : List (List Int)), (addN all ls).length ≤ all.length + ls.length
 | [], all => by simp [addN]
 | l :: ls, all => by
   simp only [addN, List.length_cons]
   split
   · have := Z8F ls all; omega
   · have := Z8F ls (all ++ [l]); rw [List.length_append, List.length_singleton] at this; omega
theorem Z0oM {C : Callee} {n : Nat} {a : List Int} (hC : ReC C n) (h : Rw n a) (h6 : n ≤ 6) {i : Nat} (hs : ∀ j, j ≤ i → j < (bfR a j).length) :
   ∃ s', (execA E C (fg 63) 0 47 [] 1000000 Z7r) (reS a (bfR a i) i) = some (.normal, s') ∧ headA [] s' = reS a (bfR a (i + 1)) (i + 1) := by
 have inv := Z3L h i fun j hj => hs j (by omega)
 have hi := hs i (Nat.le_refl _)
 have hx : (bfR a i)[i]? = some (bfR a i)[i] := List.getElem?_eq_getElem hi
 have e : bfR a (i + 1) = addN (bfR a i) (rbL (bfR a i)[i]) := by simp only [bfR, hx]
 have hfar := fun l => Z01g h (fun j hj => hs j (by omega)) hx (l := l)
 rw [e]
 have hxr := (inv.sub _ (List.mem_of_getElem? hx)).1
 have hxf := ZO9 h hxr
 have hlen := ZrB h inv.nd inv.sub
 have h9 : 9 ^ n ≤ 531441 := by have := Nat.pow_le_pow_right (n := 9) (by omega) h6; omega
 generalize bfR a i = all at *
 generalize hxx : all[i] = x at *
 clear hxx
 have hnb : (rbL x).length ≤ 100 := by
   have := ZdM x x.length x.length
   have h1 := hxr.len
   have h2 : x.length * x.length ≤ 6 * 6 := Nat.mul_le_mul (by omega) (by omega)
   unfold rbL; omega
 have hla := Zq all
 have hat := Z41 hx
 rw [hxr.len] at hat
 have hrb := fun (site : Nat → Nat) seen y => hC.rb site seen x y hxr
 have g1 : (i : Int) < all.length := by omega
 by_cases hn : rbL x = []
 · rw [hn]
   have e2 : addN all [] = all := rfl
   rw [e2]
   simp only [if_pos hn] at hrb
   have hloop := Z4W (f := (execA E C (fg 63) 0 47 [] 1000000 Z3V)) (E0 := []) (s0 := ([(24, .int .i64 0), (23, .int .i64 0), (22, .nilsl), (6, .int .i64 i), (5, .ref 11 0 all.length all.length all.length 1 false), (4, .ref 10 0 all.length all.length all.length 1 false)], [(10, ⟨.row, lcs all⟩), (11, ⟨.row, ics (farL a all)⟩)])) rfl
     (e := .exit 2) (se := ([(25, .bool false), (24, .int .i64 0), (23, .int .i64 0), (22, .nilsl), (6, .int .i64 i), (5, .ref 11 0 all.length all.length all.length 1 false), (4, .ref 10 0 all.length all.length all.length 1 false)], [(10, ⟨.row, lcs all⟩), (11, ⟨.row, ics (farL a all)⟩)]))
     (by simp (disch := omega) only [ZF, stp, just, Rd.bind, Rd.run, Rd.opt, upds, aBin, aInt, Nat.reduceEqDiff, Nat.reduceLeDiff, ↓reduceIte, F_63]) (by simp)
   simp only [reS]
   generalize ics (farL a all) = F at *
   generalize lcs all = A at *
   generalize all.length = m at *
   simp (disch := omega) only [ZF, stp, just, Rd.bind, Rd.run, Rd.opt, upds, tsz, rdCells, aLoad, Z4, aNum, aLen, Z3, aBin, aInt, Nat.reduceLT, Nat.reduceBEq, Nat.reduceEqDiff, Nat.reduceLeDiff, ↓reduceIte, aCall, snaps, ZT, F_63, hla, hat, hrb, hloop, g1, Zx (show i < 1000000 by omega)]
   exact ⟨_, rfl, rfl⟩
 · simp only [if_neg hn] at hrb
   have key : ∀ k, k ≤ (rbL x).length → (addN all ((rbL x).take k)).length ≤ all.length + k ∧ (∀ l ∈ all, l ∈ addN all ((rbL x).take k)) ∧ (addN all ((rbL x).take k))[i]? = some x := by
     intro k hk
     obtain ⟨new, e, _, _, _⟩ := Z3c ((rbL x).take k) all
     have hle := Z8F ((rbL x).take k) all
     rw [List.length_take] at hle
     refine ⟨by omega, fun l hl => by rw [e]; exact List.mem_append_left _ hl, ?_⟩
     rw [e, List.getElem?_append_left hi]; exact hx
   have hloop := loopM (f := (execA E C (fg 63) 0 47 [] 1000000 Z3V)) (E0 := []) (fun k => riI a (rbL x) (addN all ((rbL x).take k)) i k) (rbL x).length (fun k hk => by
       obtain ⟨q1, q2, q3⟩ := key k (by omega)
       have hk2 : (rbL x)[k]? = some (rbL x)[k] := List.getElem?_eq_getElem hk
       have h1 : (rbL x).take (k + 1) = (rbL x).take k ++ [(rbL x)[k]] := by rw [List.take_add_one, hk2]; rfl
       have hm := List.mem_of_getElem? hk2
       simp only [h1, Z02R]
       exact Z0ow hC (by omega) hnb (List.getElem?_eq_some_iff.1 q3).1 q3 (by omega) k hk2 (Z01i hxr hm).len (fun hno => hfar _ hm fun hh => hno (q2 _ hh))) rfl (by omega)
     (e := .exit 2) (se := ([(25, .bool false), (24, .int .i64 (rbL x).length), (23, .int .i64 (rbL x).length), (22, .ref 22 0 (rbL x).length (rbL x).length (rbL x).length 1 false), (6, .int .i64 i), (5, .ref 11 0 (addN all (rbL x)).length (addN all (rbL x)).length (addN all (rbL x)).length 1 false), (4, .ref 10 0 (addN all (rbL x)).length (addN all (rbL x)).length (addN all (rbL x)).length 1 false)], [(10, ⟨.row, lcs (addN all (rbL x))⟩), (11, ⟨.row, ics (farL a (addN all (rbL x)))⟩), (22, ⟨.row, lcs (rbL x)⟩)]))
     (by
       simp only [riI, List.take_length]
       simp (disch := omega) only [ZF, stp, just, Rd.bind, Rd.run, Rd.opt, upds, aBin, aInt, Nat.reduceEqDiff, Nat.reduceLeDiff, ↓reduceIte, F_63]) (by simp)
   have e2 : addN all [] = all := rfl
   have hln := Zq (rbL x)
   simp only [riI, List.take_zero, e2, cl0] at hloop
   simp only [reS]
   generalize ics (farL a (addN all (rbL x))) = F2 at *
   generalize lcs (addN all (rbL x)) = A2 at *
   generalize (addN all (rbL x)).length = m2 at *
   generalize ics (farL a all) = F at *
   generalize lcs all = A at *
   generalize all.length = m at *
   simp (disch := omega) only [ZF, stp, just, Rd.bind, Rd.run, Rd.opt, upds, tsz, rdCells, aLoad, Z4, aNum, aLen, Z3, aBin, aInt, Nat.reduceLT, Nat.reduceBEq, Nat.reduceEqDiff, Nat.reduceLeDiff, ↓reduceIte, aCall, snaps, ZT, F_63, hla, hat, hrb, hln, hloop, g1, Zx (show i < 1000000 by omega)]
   exact ⟨_, rfl, rfl⟩
theorem Zui {C : Callee} {n : Nat} {a : List Int} (hC : ReC C n) (h : Rw n a) (h6 : n ≤ 6) :
   ∃ H, bodyA E C fg 1000000 63 [.imm (ics a) n false] [] 0 = some (.tup [.ref 10 0 (reL a).length (reL a).length (reL a).length 1 false, .ref 11 0 (reL a).length (reL a).length (reL a).length 1 false], H) ∧ hget H 10 = some ⟨.row, lcs (reL a)⟩ ∧ hget H 11 = some ⟨.row, ics (farL a (reL a))⟩ := by
 obtain ⟨h1, h2⟩ := Z8D h
 have hl := ZAa h
 have ok := Zqb h
 have h9 : 9 ^ n ≤ 531441 := by have := Nat.pow_le_pow_right (n := 9) (by omega) h6; omega
 have := ok.len
 have hloop := loopM (f := (execA E C (fg 63) 0 47 [] 1000000 Z7r)) (E0 := []) (fun i => reS a (bfR a i) i) (reN a) (fun i hi => Z0oM hC h h6 fun j hj => h1 j (by omega)) rfl (by omega)
   (e := .exit 0) (se := ([(15, .bool false), (6, .int .i64 (reN a)), (5, .ref 11 0 (reL a).length (reL a).length (reL a).length 1 false), (4, .ref 10 0 (reL a).length (reL a).length (reL a).length 1 false)], [(10, ⟨.row, lcs (reL a)⟩), (11, ⟨.row, ics (farL a (reL a))⟩)]))
   (by
     have e : bfR a (reN a) = reL a := rfl
     have hla := Zq (reL a)
     simp only [reS, e]
     have g1 : ¬ ((reN a : Nat) : Int) < (reL a).length := by omega
     generalize ics (farL a (reL a)) = F at *
     generalize lcs (reL a) = A at *
     generalize (reL a).length = m at *
     simp (disch := omega) only [ZF, stp, just, Rd.bind, Rd.run, Rd.opt, upds, aLen, Z3, aBin, aInt, Nat.reduceBEq, Nat.reduceEqDiff, Nat.reduceLeDiff, ↓reduceIte, ZT, F_63, hla, g1]) (by simp)
 have e0 : lcs (bfR a 0) = [.imm (ics a) n false] := by show [AV.imm (ics a) a.length false] = _; rw [h.len]
 have e1 : ics (farL a (bfR a 0)) = [.int .i64 0] := by
   have : apL a a = 0 := by
     have := (lev h).d0
     exact this
   show [AV.int .i64 (apL a a : Int)] = _
   rw [this]; rfl
 have e2 : (bfR a 0).length = 1 := rfl
 simp only [reS, e0, e1, e2, cl0] at hloop
 generalize ics (farL a (reL a)) = F at *
 generalize lcs (reL a) = A at *
 generalize (reL a).length = m at *
 simp (disch := omega) only [ZF, Z5, stp, Rd.bind, Rd.run, upds, acells, zeroCells, tsz, elemT, resA, resL, fresh, putC, evO, ofV, ofV1, Nat.reduceAdd, Nat.reduceLT, Nat.reduceBEq, Nat.reduceEqDiff, Nat.reduceLeDiff, ↓reduceIte, reduceCtorEq, Z9, Zk, partsOf, fillA, repC, snaps, ZT, F_63, hloop]
 exact ⟨_, rfl, rfl, rfl⟩
theorem ZsZ {d : Nat} {site : Nat → Nat} {seen : List Nat} {n : Nat} {a : List Int} (h : Rw n a) (h0 : 0 < n) (h6 : n ≤ 6) (hs : site 1 ≠ site 0) : aBack site true seen (thaw (kF (d + 8)) 63 [.imm (ics a) n false] [] 0) =
   Z2L (site 0) (site 1) seen (fun k k' => .tup [.ref k 0 (reL a).length (reL a).length (reL a).length 1 false, .ref k' 0 (reL a).length (reL a).length (reL a).length 1 false]) ⟨.row, lcs (reL a)⟩ ⟨.row, ics (farL a (reL a))⟩ := by
 obtain ⟨H, h1, h2, h3⟩ := Zui (reC d h0 h6) h h6
 have l1 := Zq (reL a)
 have l2 : (ics (farL a (reL a))).length = (reL a).length := by rw [Za, Z8Z]
 have := ZFt (site := site) (seen := seen) (C := kF (d + 8)) (f := 63) (args := [.imm (ics a) n false]) (id := 10) (id' := 11) (n := (reL a).length) (n' := (reL a).length) (sz := 1) (sz' := 1) (cells := lcs (reL a)) (cells' := ics (farL a (reL a))) (H' := H) (by rw [Z15 rfl, l1, l2]; exact h1) h2 h3 (by decide) hs
 rw [l1, l2] at this
 exact this
end Go.AM.Ytfmnoohhhokicaa
end
end
