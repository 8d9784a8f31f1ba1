/- A part of the proof of rubFlat_holds: RoI. Own work of this project; texts printed by own programs among it. -/
import Derived.KernelRfl
import Derived.Test.YtfmnoohhhokicaaWvH
set_option maxRecDepth 1000000
set_option maxHeartbeats 16000000
noncomputable section
noncomputable section
namespace Go.AM.Ytfmnoohhhokicaa
open Go Go.AM
variable {C : Callee} {B N : Nat} {E0 : AHeap} (φ : AFr) (H : AHeap) (s : St)
def Z7N := kBody Proofs.Try.f92
def Zpk := kL Z7N
def Zb5 := kO Zpk
def Zng := opN Zb5 0
theorem ZTy : XG 92 14 Zpk Zb5 [1] := Z2 (by rfl) (by rfl) _
theorem ZAx : Zb5.toList = [Zng] := nf
theorem ZBL : stepA E C B 14 Zb5 Zng (φ, H) = stp (some 3) φ H (opBox (B + 3) (acells (fget φ 1))) := nf
def Zaq := kR Z7N
def ZpL := kL Zaq
def Z1J := kO ZpL
def Znf := opN Z1J 0
def Znj := opN Z1J 1
def ZkY := opN Z1J 2
def ZkI := opN Z1J 3
theorem ZQX : XG 92 14 ZpL Z1J [7, 8] := Z2 (by rfl) (by rfl) _
theorem ZCD : Z1J.toList = [Znf, Znj, ZkY, ZkI] := nf
theorem ZHs : stepA E C B 14 Z1J Znf (φ, H) = some (fput φ 7 (fget φ 0), H) := nf
theorem ZJ8 : stepA E C B 14 Z1J Znj (φ, H) = stp (some 8) φ H (aCall C (fun j => B + j * 14 + 8) true 79 [(fget φ 7)]) := nf
theorem ZFI : stepA E C B 14 Z1J ZkY (φ, H) = stp (some 4) φ H (opBox (B + 4) (zeroCells E.T 22)) := nf
theorem ZAc : stepA E C B 14 Z1J ZkI (φ, H) = stp none φ H (opStore E.T 22 (fget φ 4) (fget φ 8)) := nf
def Zak := kR Zaq
def ZoT := kL Zak
def Z1H := kO ZoT
def Zi3 := opN Z1H 0
def Zoc := opN Z1H 1
def ZkH := opN Z1H 2
def Zmf := opN Z1H 3
theorem ZRV : XG 92 14 ZoT Z1H [0, 9, 10] := Z2 (by rfl) (by rfl) _
theorem ZFm : Z1H.toList = [Zi3, Zoc, ZkH, Zmf] := nf
theorem ZCl : stepA E C B 14 Z1H Zi3 (φ, H) = some (fput φ 9 (fget φ 0), H) := nf
theorem ZC4 : stepA E C B 14 Z1H Zoc (φ, H) = stp (some 10) φ H (Z1 E.T (B + 10) .len #[22] [(fget φ 9)]) := nf
theorem ZB2 : stepA E C B 14 Z1H ZkH (φ, H) = stp (some 5) φ H (opBox (B + 5) (zeroCells E.T 3)) := nf
theorem ZHN : stepA E C B 14 Z1H Zmf (φ, H) = stp none φ H (opStore E.T 3 (fget φ 5) (fget φ 10)) := nf
def Z9K := kR Zak
def Zpu := kL Z9K
def Za1 := kO Zpu
def Zkg := opN Za1 0
theorem ZRS : XG 92 14 Zpu Za1 [] := Z2 (by rfl) (by rfl) _
theorem ZBX : Za1.toList = [Zkg] := nf
theorem ZDf : stepA E C B 14 Za1 Zkg (φ, H) = stp (some 6) φ H (opBox (B + 6) (zeroCells E.T 94)) := nf
def Zbh := kR Z9K
def Zpc := kL Zbh
def Z4V := kO Zpc
def Zjp := opN Z4V 0
def Zmk := opN Z4V 1
theorem ZSP : XG 92 14 Zpc Z4V [3, 4, 5, 11] := Z2 (by rfl) (by rfl) _
theorem ZzY : Z4V.toList = [Zjp, Zmk] := nf
theorem ZBK : stepA E C B 14 Z4V Zjp (φ, H) = stp (some 11) φ H (.pure (.clo 116 [(fget φ 5), (fget φ 3), (fget φ 4), (fget φ 6)], [])) := nf
theorem ZAR : stepA E C B 14 Z4V Zmk (φ, H) = stp none φ H (opStore E.T 94 (fget φ 6) (fget φ 11)) := nf
def Zd5 := kR Zbh
def Z4g := kO Zd5
def ZmP := opN Z4g 0
def ZmZ := opN Z4g 1
theorem ZPI : XG 92 14 Zd5 Z4g [6, 12, 13] := Z2 (by rfl) (by rfl) _
theorem ZAD : Z4g.toList = [ZmP, ZmZ] := nf
theorem ZFH : stepA E C B 14 Z4g ZmP (φ, H) = stp (some 12) φ H (just (aLoad E.T 94 (fget φ 6))) := nf
theorem ZHc : stepA E C B 14 Z4g ZmZ (φ, H) = callV E C (B + 14 * 8) (some 13) (fun j => B + j * 14 + 13) φ H (fget φ 12) [(.nilsl), (.int .i64 0), (.int .i64 8)] true := nf
theorem ZUv : XQ 92 14 Zbh Zpc Zd5 := Z0 (by rfl) _
theorem ZQb : XQ 92 14 Z9K Zpu Zbh := Z0 (by rfl) _
theorem ZTa : XQ 92 14 Zak ZoT Z9K := Z0 (by rfl) _
theorem ZRP : XQ 92 14 Zaq ZpL Zak := Z0 (by rfl) _
theorem ZQF : XQ 92 14 Z7N Zpk Zaq := Z0 (by rfl) _
theorem ZUf : fInfo E 92 = some ⟨14, #[], Z7N⟩ := nf
theorem b_92 (args : List AV) : bodyA E C fg N 92 args H B = bodyX E [] (execA E C (fg 92) B 14 H N Z7N (Z3 args 0 [], H)) := Zw ZUf args H
abbrev F_92 := And.intro (And.intro (And.intro (And.intro (And.intro @ZTy @ZAx) (And.intro @ZBL @ZQX)) (And.intro (And.intro @ZCD @ZHs) (And.intro @ZJ8 @ZFI))) (And.intro (And.intro (And.intro @ZAc @ZRV) (And.intro @ZFm @ZCl)) (And.intro (And.intro @ZC4 @ZB2) (And.intro @ZHN @ZRS)))) (And.intro (And.intro (And.intro (And.intro @ZBX @ZDf) (And.intro @ZSP @ZzY)) (And.intro (And.intro @ZBK @ZAR) (And.intro @ZPI @ZAD))) (And.intro (And.intro (And.intro @ZFH @ZHc) (And.intro @ZUv @ZQb)) (And.intro (And.intro @ZTa @ZRP) (And.intro @ZQF @b_92))))
def Z3Y := kBody Proofs.Try.f116
def Zg6 := kL Z3Y
def Z1T := kO Zg6
def Zgo := opN Z1T 0
def ZgE := opN Z1T 1
def Zex := opN Z1T 2
theorem ZMe : XG 116 62 Zg6 Z1T [13, 14] := Z2 (by rfl) (by rfl) _
theorem Zx6 : Z1T.toList = [Zgo, ZgE, Zex] := nf
theorem Zwc : stepA E C B 62 Z1T Zgo (φ, H) = some (fput φ 13 (fget φ 0), H) := nf
theorem Zw4 : stepA E C B 62 Z1T ZgE (φ, H) = stp (some 14) φ H (Z1 E.T (B + 14) .len #[22] [(fget φ 13)]) := nf
theorem Zvu : stepA E C B 62 Z1T Zex (φ, H) = some (fput φ 10 (fget φ 14), H) := nf
def Z7W := kR Z3Y
def Z5K := kL Z7W
def Zgk := kL Z5K
def Z21 := kO Zgk
def ZfS := opN Z21 0
def ZgX := opN Z21 1
def ZgA := opN Z21 2
theorem ZKo : XG 116 62 Zgk Z21 [15, 16] := Z2 (by rfl) (by rfl) _
theorem Zyw : Z21.toList = [ZfS, ZgX, ZgA] := nf
theorem Zus : stepA E C B 62 Z21 ZfS (φ, H) = some (fput φ 15 (fget φ 10), H) := nf
theorem ZwX : stepA E C B 62 Z21 ZgX (φ, H) = stp (some 16) φ H (just (aLoad E.T 3 (fget φ 3))) := nf
theorem Zv2 : stepA E C B 62 Z21 ZgA (φ, H) = stp (some 17) φ H (just (aBin E.T .eql 3 (fget φ 15) (fget φ 16))) := nf
def Z5S := kR Z5K
def Z7C := kT Z5S
def Zfg := kL Z7C
def Z22 := kO Zfg
def ZdY := opN Z22 0
def ZcX := opN Z22 1
def Zci := opN Z22 2
theorem ZOC : XG 116 62 Zfg Z22 [0, 1, 2, 3, 4, 5, 6, 10, 17, 18, 19, 20] := Z2 (by rfl) (by rfl) _
theorem Zua : Z22.toList = [ZdY, ZcX, Zci] := nf
theorem ZvA : stepA E C B 62 Z22 ZdY (φ, H) = stp (some 18) φ H (just (aLoad E.T 65 (fget φ 4))) := nf
theorem Zuz : stepA E C B 62 Z22 ZcX (φ, H) = some (fput φ 19 (fget φ 0), H) := nf
theorem Zvr : stepA E C B 62 Z22 Zci (φ, H) = callV E C (B + 62 * 8) (some 20) (fun j => B + j * 62 + 20) φ H (fget φ 18) [(fget φ 19)] true := nf
def ZtW := kR Z7C
theorem ZOI : execA E C (fg 116) B 62 E0 N ZtW s = some (.ret, s) := Zs (by rfl) s
theorem ZJy : XQ 116 62 Z7C Zfg ZtW := Z0 (by rfl) _
def Zs9 := kE Z5S
theorem ZOE : execA E C (fg 116) B 62 E0 N Zs9 s = some (.normal, s) := Zp (by rfl) s
theorem ZKW : XC 116 62 Z5S 17 Z7C Zs9 := Zn (by rfl) _
theorem ZPL : XQ 116 62 Z5K Zgk Z5S := Z0 (by rfl) _
def Z53 := kR Z7W
def Z8t := kL Z53
def Z03 := kO Z8t
def Zgl := opN Z03 0
def ZeE := opN Z03 1
def Zfa := opN Z03 2
def Zc5 := opN Z03 3
def Ze1 := opN Z03 4
def ZeR := opN Z03 5
def Zdw := opN Z03 6
theorem ZFY : XG 116 62 Z8t Z03 [4, 17, 21, 22, 23, 24, 25, 26] := Z2 (by rfl) (by rfl) _
theorem Zyv : Z03.toList = [Zgl, ZeE, Zfa, Zc5, Ze1, ZeR, Zdw] := nf
theorem Zy7 : stepA E C B 62 Z03 Zgl (φ, H) = stp (some 21) φ H (just (aLoad E.T 22 (fget φ 5))) := nf
theorem Zyr : stepA E C B 62 Z03 ZeE (φ, H) = stp (some 22) φ H (just (aLoad E.T 3 (fget φ 3))) := nf
theorem Zuh : stepA E C B 62 Z03 Zfa (φ, H) = stp (some 23) φ H (just (Z4 E.T 22 (fget φ 21) (fget φ 22))) := nf
theorem ZxV : stepA E C B 62 Z03 Zc5 (φ, H) = stp (some 24) φ H (just (aLoad E.T 3 (fget φ 23))) := nf
theorem Zyu : stepA E C B 62 Z03 Ze1 (φ, H) = some (fput φ 25 (fget φ 1), H) := nf
theorem ZwB : stepA E C B 62 Z03 ZeR (φ, H) = stp (some 26) φ H (just (aBin E.T .sub 3 (fget φ 24) (fget φ 25))) := nf
theorem Zue : stepA E C B 62 Z03 Zdw (φ, H) = some (fput φ 11 (fget φ 26), H) := nf
def Z4S := kR Z53
def Z8C := kL Z4S
def ZI := kO Z8C
def Zee := opN ZI 0
def ZfU := opN ZI 1
def Ze8 := opN ZI 2
def ZeK := opN ZI 3
def Zdk := opN ZI 4
def Zfb := opN ZI 5
def ZdB := opN ZI 6
def Zft := opN ZI 7
def Zcs := opN ZI 8
def Zcz := opN ZI 9
theorem ZAz : XG 116 62 Z8C ZI [2, 5, 27, 28, 29, 30, 31, 32, 33, 34, 35] := Z2 (by rfl) (by rfl) _
theorem Zux : ZI.toList = [Zee, ZfU, Ze8, ZeK, Zdk, Zfb, ZdB, Zft, Zcs, Zcz] := nf
theorem ZwS : stepA E C B 62 ZI Zee (φ, H) = some (fput φ 27 (fget φ 2), H) := nf
theorem Zyl : stepA E C B 62 ZI ZfU (φ, H) = stp (some 28) φ H (just (aLoad E.T 22 (fget φ 5))) := nf
theorem Zxl : stepA E C B 62 ZI Ze8 (φ, H) = some (fput φ 29 (fget φ 10), H) := nf
theorem Zv1 : stepA E C B 62 ZI ZeK (φ, H) = stp (some 30) φ H (just (aBin E.T .add 3 (fget φ 29) (.int .i64 1))) := nf
theorem ZyM : stepA E C B 62 ZI Zdk (φ, H) = stp (some 31) φ H (just (Z4 E.T 22 (fget φ 28) (fget φ 30))) := nf
theorem Zvy : stepA E C B 62 ZI Zfb (φ, H) = stp (some 32) φ H (just (aLoad E.T 3 (fget φ 31))) := nf
theorem ZvE : stepA E C B 62 ZI ZdB (φ, H) = some (fput φ 33 (fget φ 1), H) := nf
theorem Zuc : stepA E C B 62 ZI Zft (φ, H) = stp (some 34) φ H (just (aBin E.T .sub 3 (fget φ 32) (fget φ 33))) := nf
theorem ZxD : stepA E C B 62 ZI Zcs (φ, H) = stp (some 35) φ H (Z1 E.T (B + 35) .min #[3, 3] [(fget φ 27), (fget φ 34)]) := nf
theorem ZvW : stepA E C B 62 ZI Zcz (φ, H) = some (fput φ 12 (fget φ 35), H) := nf
def Z8L := kR Z4S
def Z8I := kB Z8L
def ZY := kB Z8I
def Z4w := kL ZY
def Z8D := kL Z4w
def ZD := kO Z8D
def Zct := opN ZD 0
def Zfd := opN ZD 1
def Zfp := opN ZD 2
def Zco := opN ZD 3
def ZgB := opN ZD 4
def ZcP := opN ZD 5
def ZcR := opN ZD 6
def Z3C := opN ZD 7
def Zh4 := opN ZD 8
def Zh3 := opN ZD 9
def Z99 := opN ZD 10
theorem ZEC : XG 116 62 Z8D ZD [36, 37, 38, 39, 40, 41, 42, 43, 44, 45] := Z2 (by rfl) (by rfl) _
theorem Zuj : ZD.toList = [Zct, Zfd, Zfp, Zco, ZgB, ZcP, ZcR, Z3C, Zh4, Zh3, Z99] := nf
theorem Zwt : stepA E C B 62 ZD Zct (φ, H) = some (fput φ 36 (fget φ 12), H) := nf
theorem Zun : stepA E C B 62 ZD Zfd (φ, H) = stp (some 37) φ H (just (aLoad E.T 3 (fget φ 3))) := nf
theorem ZuT : stepA E C B 62 ZD Zfp (φ, H) = some (fput φ 38 (fget φ 10), H) := nf
theorem Zyc : stepA E C B 62 ZD Zco (φ, H) = stp (some 39) φ H (just (aBin E.T .sub 3 (fget φ 37) (fget φ 38))) := nf
theorem Zu1 : stepA E C B 62 ZD ZgB (φ, H) = stp (some 40) φ H (just (aBin E.T .mul 3 (fget φ 36) (fget φ 39))) := nf
theorem Zy4 : stepA E C B 62 ZD ZcP (φ, H) = some (fput φ 41 (fget φ 11), H) := nf
theorem ZvX : stepA E C B 62 ZD ZcR (φ, H) = stp (some 42) φ H (just (aBin E.T .geq 3 (fget φ 40) (fget φ 41))) := nf
theorem Zv0 : stepA E C B 62 ZD Z3C (φ, H) = some (fput φ 43 (fget φ 42), H) := nf
theorem Zvz : stepA E C B 62 ZD Zh4 (φ, H) = gd φ 43 true (fun φ => some (fput φ 44 (.tup []), H)) (fun φ => some (fput φ 44 (fget φ 12), H)) := s_gd (j := 7) (oj := Z3C) rfl rfl rfl (fun _ => rfl) (fun _ => rfl)
theorem ZwD : stepA E C B 62 ZD Zh3 (φ, H) = gd φ 43 true (fun φ => some (fput φ 45 (.tup []), H)) (fun φ => stp (some 45) φ H (just (aBin E.T .geq 3 (fget φ 44) (.int .i64 0)))) := s_gd (j := 7) (oj := Z3C) rfl rfl rfl (fun _ => rfl) (fun _ => rfl)
theorem ZtG : stepA E C B 62 ZD Z99 (φ, H) = stp (some 46) φ H (opPick (fget φ 43) (fget φ 45) (.bool false)) := nf
def Z4x := kR Z4w
def Zoa := kT Z4x
theorem ZHC : execA E C (fg 116) B 62 E0 N Zoa s = some (.normal, s) := Zp (by rfl) s
def ZlD := kE Z4x
theorem ZBY : execA E C (fg 116) B 62 E0 N ZlD s = some (.exit 0, s) := Z07 (by rfl) s
theorem ZII : XC 116 62 Z4x 46 Zoa ZlD := Zn (by rfl) _
theorem ZDl : XQ 116 62 Z4w Z8D Z4x := Z0 (by rfl) _
def Z4G := kR ZY
def Z8s := kL Z4G
def Z8N := kB Z8s
def Zo := kO Z8N
def Zg8 := opN Zo 0
def ZgW := opN Zo 1
def ZcO := opN Zo 2
def ZeA := opN Zo 3
def ZbN := opN Zo 4
def Zge := opN Zo 5
def ZbV := opN Zo 6
def Zdh := opN Zo 7
def ZfM := opN Zo 8
def Zd7 := opN Zo 9
def Z8Q := opN Zo 10
def Z9l := opN Zo 11
def Z9d := opN Zo 12
theorem ZEB : XD 116 62 Z8N Zo [46, 49, 50, 51, 52, 53, 54, 55, 56, 57, 58, 59, 60, 61] := Z1Z (by rfl) (by rfl) _
theorem ZuC : Zo.toList = [Zg8, ZgW, ZcO, ZeA, ZbN, Zge, ZbV, Zdh, ZfM, Zd7, Z8Q, Z9l, Z9d] := nf
theorem ZsL : statOk Zo = true := by kernel_rfl
theorem Zsq : drawA E C B 62 Zo s = if neat 62 s = true then drX Zo (runT E C B 62 Zo Zo.toList 0 s) else none := Z1h ZsL s
theorem Zs1 (l : List (Nat × Tr)) : dynOk Zo l = (!writing l || Zd [[], [], [], [], [1, 2, 3], [], [5], [1, 2, 3, 4, 5, 6], [], [], [8, 9], [], [0, 1, 2, 3, 4, 5, 6, 7, 8, 9, 10, 11]] (Zb l)) := Z0K (by kernel_rfl) l
theorem ZxP : stepT E C B 62 Zo Zg8 (φ, H) = stpT (some 49) φ H (just (aLoad E.T 94 (fget φ 6))) := Z5 rfl (Zc rfl rfl)
theorem ZxC : stepT E C B 62 Zo ZgW (φ, H) = some ((fput φ 50 (fget φ 0), H), ⟨false, [], []⟩) := Z5 rfl (Ze rfl rfl)
theorem Zug : stepT E C B 62 Zo ZcO (φ, H) = some ((fput φ 51 (fget φ 10), H), ⟨false, [], []⟩) := Z5 rfl (Ze rfl rfl)
theorem Zuy : stepT E C B 62 Zo ZeA (φ, H) = some ((fput φ 52 (fget φ 10), H), ⟨false, [], []⟩) := Z5 rfl (Ze rfl rfl)
theorem Zx0 : stepT E C B 62 Zo ZbN (φ, H) = stpT (some 53) φ H (just (aSlice E.T 22 (fget φ 50) none (some (fget φ 51)) (some (fget φ 52)))) := Z5 rfl (Zc rfl rfl)
theorem ZvQ : stepT E C B 62 Zo Zge (φ, H) = some ((fput φ 54 (fget φ 12), H), ⟨false, [], []⟩) := Z5 rfl (Ze rfl rfl)
theorem ZuQ : stepT E C B 62 Zo ZbV (φ, H) = stpT (some 55) φ H (Z6 E.T (B + 55) 22 1 (evO E φ) [(0, Operand.tmp 54)]) := Z5 rfl (Zc rfl rfl)
theorem Zyj : stepT E C B 62 Zo Zdh (φ, H) = stpT (some 56) φ H (Z1 E.T (B + 56) .append #[22, 22] [(fget φ 53), (fget φ 55)]) := Z5 rfl (Zc rfl rfl)
theorem Zvo : stepT E C B 62 Zo ZfM (φ, H) = some ((fput φ 57 (fget φ 1), H), ⟨false, [], []⟩) := Z5 rfl (Ze rfl rfl)
theorem ZuA : stepT E C B 62 Zo Zd7 (φ, H) = some ((fput φ 58 (fget φ 12), H), ⟨false, [], []⟩) := Z5 rfl (Ze rfl rfl)
theorem ZqO : stepT E C B 62 Zo Z8Q (φ, H) = stpT (some 59) φ H (just (aBin E.T .add 3 (fget φ 57) (fget φ 58))) := Z5 rfl (Zc rfl rfl)
theorem ZsF : stepT E C B 62 Zo Z9l (φ, H) = some ((fput φ 60 (fget φ 12), H), ⟨false, [], []⟩) := Z5 rfl (Ze rfl rfl)
theorem Zsi : stepT E C B 62 Zo Z9d (φ, H) = callVT E C (B + 62 * 8) (some 61) (fun j => B + j * 62 + 61) φ H (fget φ 49) [(fget φ 56), (fget φ 59), (fget φ 60)] true := Z5 rfl (Zoq rfl rfl)
theorem ZDX : execA E C (fg 116) B 62 E0 N Z8s s = blockX 1 (fun s => (forget s.1 [], s.2)) (execA E C (fg 116) B 62 E0 N Z8N s) := Zk (by rfl) (by rfl) s
def Z8o := kR Z4G
def Z1P := kO Z8o
def Ze4 := opN Z1P 0
def ZdA := opN Z1P 1
def Zer := opN Z1P 2
theorem ZGb : XG 116 62 Z8o Z1P [47, 48] := Z2 (by rfl) (by rfl) _
theorem Zub : Z1P.toList = [Ze4, ZdA, Zer] := nf
theorem ZwC : stepA E C B 62 Z1P Ze4 (φ, H) = some (fput φ 47 (fget φ 12), H) := nf
theorem ZyE : stepA E C B 62 Z1P ZdA (φ, H) = stp (some 48) φ H (just (aBin E.T .sub 3 (fget φ 47) (.int .i64 1))) := nf
theorem Zwh : stepA E C B 62 Z1P Zer (φ, H) = some (fput φ 12 (fget φ 48), H) := nf
theorem ZDz : XQ 116 62 Z4G Z8s Z8o := Z0 (by rfl) _
theorem ZJc : XQ 116 62 ZY Z4w Z4G := Z0 (by rfl) _
theorem ZBn : execA E C (fg 116) B 62 E0 N Z8I s = iterA (execA E C (fg 116) B 62 E0 N ZY) (headA E0) N s := Z0a (by rfl) s
theorem ZI4 : execA E C (fg 116) B 62 E0 N Z8L s = blockX 0 (fun s => (forget s.1 [0, 1, 3, 6, 10, 11, 12, 46], s.2)) (execA E C (fg 116) B 62 E0 N Z8I s) := Zk (by rfl) (by rfl) s
theorem ZJf : XQ 116 62 Z4S Z8C Z8L := Z0 (by rfl) _
theorem ZFy : XQ 116 62 Z53 Z8t Z4S := Z0 (by rfl) _
theorem ZPe : XQ 116 62 Z7W Z5K Z53 := Z0 (by rfl) _
theorem ZL6 : XQ 116 62 Z3Y Zg6 Z7W := Z0 (by rfl) _
theorem ZKp : fInfo E 116 = some ⟨62, #[], Z3Y⟩ := nf
theorem ZSD (args : List AV) : bodyA E C fg N 116 args H B = bodyX E [] (execA E C (fg 116) B 62 H N Z3Y (Z3 args 0 [], H)) := Zw ZKp args H
abbrev ZG := And.intro (And.intro (And.intro (And.intro (And.intro (And.intro @ZMe @Zx6) (And.intro @Zwc (And.intro @Zw4 @Zvu))) (And.intro (And.intro @ZKo (And.intro @Zyw @Zus)) (And.intro @ZwX (And.intro @Zv2 @ZOC)))) (And.intro (And.intro (And.intro @Zua @ZvA) (And.intro @Zuz (And.intro @Zvr @ZOI))) (And.intro (And.intro @ZJy (And.intro @ZOE @ZKW)) (And.intro @ZPL (And.intro @ZFY @Zyv))))) (And.intro (And.intro (And.intro (And.intro @Zy7 @Zyr) (And.intro @Zuh (And.intro @ZxV @Zyu))) (And.intro (And.intro @ZwB (And.intro @Zue @ZAz)) (And.intro @Zux (And.intro @ZwS @Zyl)))) (And.intro (And.intro (And.intro @Zxl (And.intro @Zv1 @ZyM)) (And.intro @Zvy (And.intro @ZvE @Zuc))) (And.intro (And.intro @ZxD (And.intro @ZvW @ZEC)) (And.intro @Zuj (And.intro @Zwt @Zun)))))) (And.intro (And.intro (And.intro (And.intro (And.intro @ZuT @Zyc) (And.intro @Zu1 (And.intro @Zy4 @ZvX))) (And.intro (And.intro @Zv0 (And.intro @Zvz @ZwD)) (And.intro @ZtG (And.intro @ZHC @ZBY)))) (And.intro (And.intro (And.intro @ZII @ZDl) (And.intro @ZEB (And.intro @ZuC @Zsq))) (And.intro (And.intro @Zs1 (And.intro @ZxP @ZxC)) (And.intro @Zug (And.intro @Zuy @Zx0))))) (And.intro (And.intro (And.intro (And.intro @ZvQ @ZuQ) (And.intro @Zyj (And.intro @Zvo @ZuA))) (And.intro (And.intro @ZqO (And.intro @ZsF @Zsi)) (And.intro @ZDX (And.intro @ZGb @Zub)))) (And.intro (And.intro (And.intro @ZwC (And.intro @ZyE @Zwh)) (And.intro @ZDz (And.intro @ZJc @ZBn))) (And.intro (And.intro @ZI4 (And.intro @ZJf @ZFy)) (And.intro @ZPe (And.intro @ZL6 @ZSD))))))
def Z6H := kBody Proofs.Try.f37
def Zpw := kL Z6H
def Z50 := kO Zpw
def ZkP := opN Z50 0
def Zmr := opN Z50 1
theorem ZSp : XG 37 15 Zpw Z50 [2, 3] := Z2 (by rfl) (by rfl) _
theorem ZA2 : Z50.toList = [ZkP, Zmr] := nf
theorem ZGv : stepA E C B 15 Z50 ZkP (φ, H) = some (fput φ 2 (.nilsl), H) := nf
theorem ZEU : stepA E C B 15 Z50 Zmr (φ, H) = some (fput φ 3 (.int .i64 0), H) := nf
def Zaj := kR Z6H
def ZaX := kL Zaj
def ZpW := kL ZaX
def Z2L := kO ZpW
def Zoh := opN Z2L 0
def ZiP := opN Z2L 1
def Zj2 := opN Z2L 2
theorem ZQB : XG 37 15 ZpW Z2L [6, 7] := Z2 (by rfl) (by rfl) _
theorem ZJ5 : Z2L.toList = [Zoh, ZiP, Zj2] := nf
theorem ZFT : stepA E C B 15 Z2L Zoh (φ, H) = some (fput φ 6 (fget φ 0), H) := nf
theorem ZFL : stepA E C B 15 Z2L ZiP (φ, H) = stp (some 7) φ H (aCall C (fun j => B + j * 15 + 7) true 25 [(fget φ 6)]) := nf
theorem ZE0 : stepA E C B 15 Z2L Zj2 (φ, H) = some (fput φ 4 (fget φ 7), H) := nf
def Zat := kR ZaX
def ZpV := kL Zat
def Z4Y := kO ZpV
def Zho := opN Z4Y 0
def Zil := opN Z4Y 1
theorem ZTO : XG 37 15 ZpV Z4Y [8] := Z2 (by rfl) (by rfl) _
theorem ZDi : Z4Y.toList = [Zho, Zil] := nf
theorem ZF0 : stepA E C B 15 Z4Y Zho (φ, H) = some (fput φ 8 (fget φ 4), H) := nf
theorem ZCw : stepA E C B 15 Z4Y Zil (φ, H) = stp (some 9) φ H (just (aBin E.T .neq 24 (fget φ 8) (.int .i64 0))) := nf
def Z9F := kR Zat
def Zbx := kT Z9F
def ZoH := kL Zbx
def Z2X := kO ZoH
def ZlB := opN Z2X 0
def Zlk := opN Z2X 1
def Zi0 := opN Z2X 2
theorem ZRC : XG 37 15 ZoH Z2X [0, 4, 9, 10] := Z2 (by rfl) (by rfl) _
theorem Zzw : Z2X.toList = [ZlB, Zlk, Zi0] := nf
theorem ZzL : stepA E C B 15 Z2X ZlB (φ, H) = some (fput φ 10 (fget φ 4), H) := nf
theorem Zzo : stepA E C B 15 Z2X Zlk (φ, H) = some (fput φ 2 (.nilsl), H) := nf
theorem ZBo : stepA E C B 15 Z2X Zi0 (φ, H) = some (fput φ 3 (fget φ 10), H) := nf
def ZtC := kR Zbx
theorem ZOS : execA E C (fg 37) B 15 E0 N ZtC s = some (.ret, s) := Zs (by rfl) s
theorem ZSR : XQ 37 15 Zbx ZoH ZtC := Z0 (by rfl) _
def Zrd := kE Z9F
theorem ZOo : execA E C (fg 37) B 15 E0 N Zrd s = some (.normal, s) := Zp (by rfl) s
theorem ZRT : XC 37 15 Z9F 9 Zbx Zrd := Zn (by rfl) _
theorem ZQQ : XQ 37 15 Zat ZpV Z9F := Z0 (by rfl) _
theorem ZQ5 : XQ 37 15 ZaX ZpW Zat := Z0 (by rfl) _
def Z6e := kR Zaj
def ZcQ := kL Z6e
def Z9X := kO ZcQ
def ZhT := opN Z9X 0
theorem ZKd : XG 37 15 ZcQ Z9X [4, 9] := Z2 (by rfl) (by rfl) _
theorem ZB3 : Z9X.toList = [ZhT] := nf
theorem ZB6 : stepA E C B 15 Z9X ZhT (φ, H) = stp (some 5) φ H (opBox (B + 5) (zeroCells E.T 39)) := nf
def Z6Z := kR Z6e
def Zd8 := kL Z6Z
def Z2V := kO Zd8
def Zkd := opN Z2V 0
def ZkR := opN Z2V 1
def Zj4 := opN Z2V 2
theorem ZNt : XG 37 15 Zd8 Z2V [0, 11, 12, 13] := Z2 (by rfl) (by rfl) _
theorem Zzj : Z2V.toList = [Zkd, ZkR, Zj4] := nf
theorem ZGo : stepA E C B 15 Z2V Zkd (φ, H) = some (fput φ 11 (fget φ 0), H) := nf
theorem ZIR : stepA E C B 15 Z2V ZkR (φ, H) = stp (some 12) φ H (.pure (.clo 93 [(fget φ 5)], [])) := nf
theorem ZDc : stepA E C B 15 Z2V Zj4 (φ, H) = mutX (some 13) φ (C 92 [(fget φ 11), (fget φ 12)] H (B + 15 * 8)) := nf
def Z7i := kR Z6Z
def Zcj := kL Z7i
def Z2Q := kO Zcj
def Zmq := opN Z2Q 0
def Zk9 := opN Z2Q 1
def ZkT := opN Z2Q 2
theorem ZKF : XG 37 15 Zcj Z2Q [5, 14] := Z2 (by rfl) (by rfl) _
theorem ZIO : Z2Q.toList = [Zmq, Zk9, ZkT] := nf
theorem ZDT : stepA E C B 15 Z2Q Zmq (φ, H) = stp (some 14) φ H (just (aLoad E.T 39 (fget φ 5))) := nf
theorem ZC7 : stepA E C B 15 Z2Q Zk9 (φ, H) = some (fput φ 2 (fget φ 14), H) := nf
theorem ZCH : stepA E C B 15 Z2Q ZkT (φ, H) = some (fput φ 3 (.int .i64 0), H) := nf
def ZrP := kR Z7i
theorem ZOp : execA E C (fg 37) B 15 E0 N ZrP s = some (.ret, s) := Zs (by rfl) s
theorem ZP2 : XQ 37 15 Z7i Zcj ZrP := Z0 (by rfl) _
theorem ZP4 : XQ 37 15 Z6Z Zd8 Z7i := Z0 (by rfl) _
theorem ZNp : XQ 37 15 Z6e ZcQ Z6Z := Z0 (by rfl) _
theorem ZTD : XQ 37 15 Zaj ZaX Z6e := Z0 (by rfl) _
theorem ZUw : XQ 37 15 Z6H Zpw Zaj := Z0 (by rfl) _
theorem ZS9 : fInfo E 37 = some ⟨15, #[.tmp 2, .tmp 3], Z6H⟩ := nf
theorem b_37 (args : List AV) : bodyA E C fg N 37 args H B = bodyX E [.tmp 2, .tmp 3] (execA E C (fg 37) B 15 H N Z6H (Z3 args 0 [], H)) := Zw ZS9 args H
abbrev F_37 := And.intro (And.intro (And.intro (And.intro (And.intro @ZSp @ZA2) (And.intro @ZGv (And.intro @ZEU @ZQB))) (And.intro (And.intro @ZJ5 (And.intro @ZFT @ZFL)) (And.intro @ZE0 (And.intro @ZTO @ZDi)))) (And.intro (And.intro (And.intro @ZF0 @ZCw) (And.intro @ZRC (And.intro @Zzw @ZzL))) (And.intro (And.intro @Zzo (And.intro @ZBo @ZOS)) (And.intro @ZSR (And.intro @ZOo @ZRT))))) (And.intro (And.intro (And.intro (And.intro @ZQQ @ZQ5) (And.intro @ZKd (And.intro @ZB3 @ZB6))) (And.intro (And.intro @ZNt (And.intro @Zzj @ZGo)) (And.intro @ZIR (And.intro @ZDc @ZKF)))) (And.intro (And.intro (And.intro @ZIO @ZDT) (And.intro @ZC7 (And.intro @ZCH @ZOp))) (And.intro (And.intro @ZP2 (And.intro @ZP4 @ZNp)) (And.intro @ZTD (And.intro @ZUw @b_37)))))
def Zbr := kBody Proofs.Try.f93
def ZX := kO Zbr
def Zi6 := opN ZX 0
def Zm8 := opN ZX 1
def Zj7 := opN ZX 2
def Znd := opN ZX 3
def ZiQ := opN ZX 4
def ZhM := opN ZX 5
theorem ZPQ : XD 93 8 Zbr ZX [0, 1, 3, 4, 5, 6, 7] := Z1Z (by rfl) (by rfl) _
theorem ZDL : ZX.toList = [Zi6, Zm8, Zj7, Znd, ZiQ, ZhM] := nf
theorem ZxU : statOk ZX = true := by kernel_rfl
theorem ZwQ : drawA E C B 8 ZX s = if neat 8 s = true then drX ZX (runT E C B 8 ZX ZX.toList 0 s) else none := Z1h ZxU s
theorem ZvD (l : List (Nat × Tr)) : dynOk ZX l = (!writing l || Zd [[], [], [1], [1, 2], [0, 1, 2, 3], [0, 1, 2, 3, 4]] (Zb l)) := Z0K (by kernel_rfl) l
theorem ZH4 : stepT E C B 8 ZX Zi6 (φ, H) = stpT (some 3) φ H (just (aLoad E.T 39 (fget φ 1))) := Z5 rfl (Zc rfl rfl)
theorem Zzn : stepT E C B 8 ZX Zm8 (φ, H) = some ((fput φ 4 (fget φ 0), H), ⟨false, [], []⟩) := Z5 rfl (Ze rfl rfl)
theorem Zzz : stepT E C B 8 ZX Zj7 (φ, H) = stpT (some 5) φ H (aCall C (fun j => B + j * 8 + 5) true 66 [(fget φ 4)]) := Z5 rfl (Zc rfl rfl)
theorem ZHd : stepT E C B 8 ZX Znd (φ, H) = stpT (some 6) φ H (Z6 E.T (B + 6) 39 1 (evO E φ) [(0, Operand.tmp 5)]) := Z5 rfl (Zc rfl rfl)
theorem ZBl : stepT E C B 8 ZX ZiQ (φ, H) = stpT (some 7) φ H (Z1 E.T (B + 7) .append #[39, 39] [(fget φ 3), (fget φ 6)]) := Z5 rfl (Zc rfl rfl)
theorem ZFd : stepT E C B 8 ZX ZhM (φ, H) = stpT none φ H (opStore E.T 39 (fget φ 1) (fget φ 7)) := Z5 rfl (Zc rfl rfl)
theorem ZUH : fInfo E 93 = some ⟨8, #[], Zbr⟩ := nf
theorem b_93 (args : List AV) : bodyA E C fg N 93 args H B = bodyX E [] (execA E C (fg 93) B 8 H N Zbr (Z3 args 0 [], H)) := Zw ZUH args H
abbrev F_93 := And.intro (And.intro (And.intro @ZPQ @ZDL) (And.intro @ZwQ (And.intro @ZvD @ZH4))) (And.intro (And.intro @Zzn (And.intro @Zzz @ZHd)) (And.intro @ZBl (And.intro @ZFd @b_93)))
def Z7n := kBody Proofs.Try.f42
def ZoX := kL Z7n
def Z4E := kO ZoX
def Zlb := opN Z4E 0
def Zhj := opN Z4E 1
theorem ZS2 : XG 42 40 ZoX Z4E [2, 3] := Z2 (by rfl) (by rfl) _
theorem ZI2 : Z4E.toList = [Zlb, Zhj] := nf
theorem ZB4 : stepA E C B 40 Z4E Zlb (φ, H) = some (fput φ 2 (.nilsl), H) := nf
theorem ZAd : stepA E C B 40 Z4E Zhj (φ, H) = some (fput φ 3 (.int .i64 0), H) := nf
def Zb8 := kR Z7n
def Za9 := kL Zb8
def ZpJ := kL Za9
def Z2z := kO ZpJ
def Zkm := opN Z2z 0
def ZnO := opN Z2z 1
def ZlP := opN Z2z 2
theorem ZS3 : XG 42 40 ZpJ Z2z [9, 10] := Z2 (by rfl) (by rfl) _
theorem ZH1 : Z2z.toList = [Zkm, ZnO, ZlP] := nf
theorem ZAO : stepA E C B 40 Z2z Zkm (φ, H) = some (fput φ 9 (fget φ 0), H) := nf
theorem ZFM : stepA E C B 40 Z2z ZnO (φ, H) = stp (some 10) φ H (aCall C (fun j => B + j * 40 + 10) true 25 [(fget φ 9)]) := nf
theorem ZCm : stepA E C B 40 Z2z ZlP (φ, H) = some (fput φ 4 (fget φ 10), H) := nf
def Zbm := kR Za9
def Zp6 := kL Zbm
def Z4s := kO Zp6
def Zia := opN Z4s 0
def Zmw := opN Z4s 1
theorem ZQj : XG 42 40 Zp6 Z4s [11] := Z2 (by rfl) (by rfl) _
theorem ZIf : Z4s.toList = [Zia, Zmw] := nf
theorem ZEO : stepA E C B 40 Z4s Zia (φ, H) = some (fput φ 11 (fget φ 4), H) := nf
theorem ZA0 : stepA E C B 40 Z4s Zmw (φ, H) = stp (some 12) φ H (just (aBin E.T .neq 24 (fget φ 11) (.int .i64 0))) := nf
def Zbf := kR Zbm
def ZaV := kT Zbf
def Zpl := kL ZaV
def Z2C := kO Zpl
def Zhw := opN Z2C 0
def ZlQ := opN Z2C 1
def ZkE := opN Z2C 2
theorem ZTU : XG 42 40 Zpl Z2C [0, 4, 12, 13] := Z2 (by rfl) (by rfl) _
theorem ZEY : Z2C.toList = [Zhw, ZlQ, ZkE] := nf
theorem ZAL : stepA E C B 40 Z2C Zhw (φ, H) = some (fput φ 13 (fget φ 4), H) := nf
theorem ZFb : stepA E C B 40 Z2C ZlQ (φ, H) = some (fput φ 2 (.nilsl), H) := nf
theorem ZDB : stepA E C B 40 Z2C ZkE (φ, H) = some (fput φ 3 (fget φ 13), H) := nf
def Zt1 := kR ZaV
theorem ZOt : execA E C (fg 42) B 40 E0 N Zt1 s = some (.ret, s) := Zs (by rfl) s
theorem ZTP : XQ 42 40 ZaV Zpl Zt1 := Z0 (by rfl) _
def Ztg := kE Zbf
theorem ZJD : execA E C (fg 42) B 40 E0 N Ztg s = some (.normal, s) := Zp (by rfl) s
theorem ZT5 : XC 42 40 Zbf 12 ZaV Ztg := Zn (by rfl) _
theorem ZQ7 : XQ 42 40 Zbm Zp6 Zbf := Z0 (by rfl) _
theorem ZQc : XQ 42 40 Za9 ZpJ Zbm := Z0 (by rfl) _
def Z7O := kR Zb8
def ZeW := kL Z7O
def Z0q := kO ZeW
def Zjn := opN Z0q 0
def ZmO := opN Z0q 1
def Znn := opN Z0q 2
def ZhH := opN Z0q 3
def ZkN := opN Z0q 4
def Zjk := opN Z0q 5
def Zjr := opN Z0q 6
theorem ZKH : XG 42 40 ZeW Z0q [4, 12, 14, 15, 16, 17, 18, 19] := Z2 (by rfl) (by rfl) _
theorem ZEL : Z0q.toList = [Zjn, ZmO, Znn, ZhH, ZkN, Zjk, Zjr] := nf
theorem ZJg : stepA E C B 40 Z0q Zjn (φ, H) = some (fput φ 14 (fget φ 0), H) := nf
theorem ZE6 : stepA E C B 40 Z0q ZmO (φ, H) = stp (some 15) φ H (aCall C (fun j => B + j * 40 + 15) true 79 [(fget φ 14)]) := nf
theorem ZCI : stepA E C B 40 Z0q Znn (φ, H) = some (fput φ 16 (fget φ 0), H) := nf
theorem ZB7 : stepA E C B 40 Z0q ZhH (φ, H) = stp (some 17) φ H (Z1 E.T (B + 17) .len #[22] [(fget φ 16)]) := nf
theorem ZAy : stepA E C B 40 Z0q ZkN (φ, H) = stp (some 18) φ H (just (Z4 E.T 22 (fget φ 15) (fget φ 17))) := nf
theorem ZGW : stepA E C B 40 Z0q Zjk (φ, H) = stp (some 19) φ H (just (aLoad E.T 3 (fget φ 18))) := nf
theorem ZGV : stepA E C B 40 Z0q Zjr (φ, H) = some (fput φ 5 (fget φ 19), H) := nf
def Z5U := kR Z7O
def Zf6 := kL Z5U
def Zbv := kO Zf6
def Znl := opN Zbv 0
theorem ZLm : XG 42 40 Zf6 Zbv [] := Z2 (by rfl) (by rfl) _
theorem ZDn : Zbv.toList = [Znl] := nf
theorem ZGr : stepA E C B 40 Zbv Znl (φ, H) = some (fput φ 6 (.nilsl), H) := nf
def Z6W := kR Z5U
def Z5Q := kL Z6W
def Zgd := kL Z5Q
def Z2W := kO Zgd
def ZmL := opN Z2W 0
def Znv := opN Z2W 1
def Zjt := opN Z2W 2
theorem ZL2 : XG 42 40 Zgd Z2W [0, 20, 21] := Z2 (by rfl) (by rfl) _
theorem ZzF : Z2W.toList = [ZmL, Znv, Zjt] := nf
theorem ZDJ : stepA E C B 40 Z2W ZmL (φ, H) = some (fput φ 20 (fget φ 0), H) := nf
theorem ZBZ : stepA E C B 40 Z2W Znv (φ, H) = stp (some 21) φ H (Z1 E.T (B + 21) .len #[22] [(fget φ 20)]) := nf
theorem ZDp : stepA E C B 40 Z2W Zjt (φ, H) = some (fput φ 7 (fget φ 21), H) := nf
def Zcy := kR Z5Q
def ZeV := kB Zcy
def Z3k := kB ZeV
def Z5V := kL Z3k
def ZbU := kL Z5V
def Z4B := kO ZbU
def Zkt := opN Z4B 0
def Zly := opN Z4B 1
theorem ZPB : XG 42 40 ZbU Z4B [22] := Z2 (by rfl) (by rfl) _
theorem ZG7 : Z4B.toList = [Zkt, Zly] := nf
theorem ZGS : stepA E C B 40 Z4B Zkt (φ, H) = some (fput φ 22 (fget φ 7), H) := nf
theorem ZCg : stepA E C B 40 Z4B Zly (φ, H) = stp (some 23) φ H (just (aBin E.T .gtr 3 (fget φ 22) (.int .i64 0))) := nf
def Z86 := kR Z5V
def Zs4 := kT Z86
theorem ZNS : execA E C (fg 42) B 40 E0 N Zs4 s = some (.normal, s) := Zp (by rfl) s
def ZsN := kE Z86
theorem ZOj : execA E C (fg 42) B 40 E0 N ZsN s = some (.exit 0, s) := Z07 (by rfl) s
theorem ZNA : XC 42 40 Z86 23 Zs4 ZsN := Zn (by rfl) _
theorem ZOF : XQ 42 40 Z5V ZbU Z86 := Z0 (by rfl) _
def Z7B := kR Z3k
def Zcp := kL Z7B
def Z6k := kB Zcp
def Ze6 := kL Z6k
def Z0o := kO Ze6
def ZnE := opN Z0o 0
def Zm3 := opN Z0o 1
def Zif := opN Z0o 2
def Zlj := opN Z0o 3
def Zl8 := opN Z0o 4
def ZnJ := opN Z0o 5
def Zlg := opN Z0o 6
theorem ZO1 : XG 42 40 Ze6 Z0o [23, 26, 27, 28, 29, 30, 31] := Z2 (by rfl) (by rfl) _
theorem ZF7 : Z0o.toList = [ZnE, Zm3, Zif, Zlj, Zl8, ZnJ, Zlg] := nf
theorem ZGz : stepA E C B 40 Z0o ZnE (φ, H) = some (fput φ 26 (fget φ 5), H) := nf
theorem ZAg : stepA E C B 40 Z0o Zm3 (φ, H) = some (fput φ 27 (fget φ 7), H) := nf
theorem ZH5 : stepA E C B 40 Z0o Zif (φ, H) = stp (some 28) φ H (just (aBin E.T .add 3 (fget φ 26) (fget φ 27))) := nf
theorem ZBr : stepA E C B 40 Z0o Zlj (φ, H) = stp (some 29) φ H (just (aBin E.T .sub 3 (fget φ 28) (.int .i64 1))) := nf
theorem ZE5 : stepA E C B 40 Z0o Zl8 (φ, H) = some (fput φ 30 (fget φ 7), H) := nf
theorem ZGB : stepA E C B 40 Z0o ZnJ (φ, H) = stp (some 31) φ H (just (aBin E.T .quo 3 (fget φ 29) (fget φ 30))) := nf
theorem ZGO : stepA E C B 40 Z0o Zlg (φ, H) = some (fput φ 8 (fget φ 31), H) := nf
def Z5M := kR Z6k
def ZfC := kL Z5M
def Z0A := kO ZfC
def Zfe := opN Z0A 0
def ZgV := opN Z0A 1
def Zd9 := opN Z0A 2
def Zfj := opN Z0A 3
def Zcf := opN Z0A 4
theorem ZJK : XG 42 40 ZfC Z0A [32, 33, 34, 35] := Z2 (by rfl) (by rfl) _
theorem Zxg : Z0A.toList = [Zfe, ZgV, Zd9, Zfj, Zcf] := nf
theorem Zvj : stepA E C B 40 Z0A Zfe (φ, H) = some (fput φ 32 (fget φ 6), H) := nf
theorem Zv6 : stepA E C B 40 Z0A ZgV (φ, H) = some (fput φ 33 (fget φ 8), H) := nf
theorem Zxn : stepA E C B 40 Z0A Zd9 (φ, H) = stp (some 34) φ H (Z6 E.T (B + 34) 22 1 (evO E φ) [(0, Operand.tmp 33)]) := nf
theorem Zxu : stepA E C B 40 Z0A Zfj (φ, H) = stp (some 35) φ H (Z1 E.T (B + 35) .append #[22, 22] [(fget φ 32), (fget φ 34)]) := nf
theorem Zym : stepA E C B 40 Z0A Zcf (φ, H) = some (fput φ 6 (fget φ 35), H) := nf
def Zfm := kR Z5M
def Z10 := kO Zfm
def Zc3 := opN Z10 0
def ZgR := opN Z10 1
def Zdy := opN Z10 2
def ZcH := opN Z10 3
theorem ZKw : XG 42 40 Zfm Z10 [8, 36, 37, 38] := Z2 (by rfl) (by rfl) _
theorem ZxJ : Z10.toList = [Zc3, ZgR, Zdy, ZcH] := nf
theorem Zxr : stepA E C B 40 Z10 Zc3 (φ, H) = some (fput φ 36 (fget φ 5), H) := nf
theorem Zyz : stepA E C B 40 Z10 ZgR (φ, H) = some (fput φ 37 (fget φ 8), H) := nf
theorem ZxH : stepA E C B 40 Z10 Zdy (φ, H) = stp (some 38) φ H (just (aBin E.T .sub 3 (fget φ 36) (fget φ 37))) := nf
theorem Zyk : stepA E C B 40 Z10 ZcH (φ, H) = some (fput φ 5 (fget φ 38), H) := nf
theorem ZPx : XQ 42 40 Z5M ZfC Zfm := Z0 (by rfl) _
theorem ZLj : XQ 42 40 Z6k Ze6 Z5M := Z0 (by rfl) _
theorem ZMx : execA E C (fg 42) B 40 E0 N Zcp s = blockX 1 (fun s => (forget s.1 [], s.2)) (execA E C (fg 42) B 40 E0 N Z6k s) := Zk (by rfl) (by rfl) s
def ZcM := kR Z7B
def Z2J := kO ZcM
def Zlq := opN Z2J 0
def ZkF := opN Z2J 1
def Zny := opN Z2J 2
theorem ZMf : XG 42 40 ZcM Z2J [24, 25] := Z2 (by rfl) (by rfl) _
theorem ZCG : Z2J.toList = [Zlq, ZkF, Zny] := nf
theorem ZFf : stepA E C B 40 Z2J Zlq (φ, H) = some (fput φ 24 (fget φ 7), H) := nf
theorem ZIe : stepA E C B 40 Z2J ZkF (φ, H) = stp (some 25) φ H (just (aBin E.T .sub 3 (fget φ 24) (.int .i64 1))) := nf
theorem ZDh : stepA E C B 40 Z2J Zny (φ, H) = some (fput φ 7 (fget φ 25), H) := nf
theorem ZMD : XQ 42 40 Z7B Zcp ZcM := Z0 (by rfl) _
theorem ZO4 : XQ 42 40 Z3k Z5V Z7B := Z0 (by rfl) _
theorem ZJG : execA E C (fg 42) B 40 E0 N ZeV s = iterA (execA E C (fg 42) B 40 E0 N Z3k) (headA E0) N s := Z0a (by rfl) s
theorem ZO2 : execA E C (fg 42) B 40 E0 N Zcy s = blockX 0 (fun s => (forget s.1 [5, 7, 23], s.2)) (execA E C (fg 42) B 40 E0 N ZeV s) := Zk (by rfl) (by rfl) s
theorem ZOb : XQ 42 40 Z5Q Zgd Zcy := Z0 (by rfl) _
def Z8i := kR Z6W
def Zei := kL Z8i
def Z20 := kO Zei
def ZbZ := opN Z20 0
def Zg4 := opN Z20 1
def Zeq := opN Z20 2
theorem ZO7 : XG 42 40 Zei Z20 [6, 39] := Z2 (by rfl) (by rfl) _
theorem ZvV : Z20.toList = [ZbZ, Zg4, Zeq] := nf
theorem ZwO : stepA E C B 40 Z20 ZbZ (φ, H) = some (fput φ 39 (fget φ 6), H) := nf
theorem Zx7 : stepA E C B 40 Z20 Zg4 (φ, H) = some (fput φ 2 (fget φ 39), H) := nf
theorem Zvl : stepA E C B 40 Z20 Zeq (φ, H) = some (fput φ 3 (.int .i64 0), H) := nf
def ZrW := kR Z8i
theorem ZK6 : execA E C (fg 42) B 40 E0 N ZrW s = some (.ret, s) := Zs (by rfl) s
theorem ZKQ : XQ 42 40 Z8i Zei ZrW := Z0 (by rfl) _
theorem ZM4 : XQ 42 40 Z6W Z5Q Z8i := Z0 (by rfl) _
theorem ZPy : XQ 42 40 Z5U Zf6 Z6W := Z0 (by rfl) _
theorem ZNs : XQ 42 40 Z7O ZeW Z5U := Z0 (by rfl) _
theorem ZSV : XQ 42 40 Zb8 Za9 Z7O := Z0 (by rfl) _
theorem ZQW : XQ 42 40 Z7n ZoX Zb8 := Z0 (by rfl) _
theorem ZRv : fInfo E 42 = some ⟨40, #[.tmp 2, .tmp 3], Z7n⟩ := nf
theorem b_42 (args : List AV) : bodyA E C fg N 42 args H B = bodyX E [.tmp 2, .tmp 3] (execA E C (fg 42) B 40 H N Z7n (Z3 args 0 [], H)) := Zw ZRv args H
abbrev F_42 := And.intro (And.intro (And.intro (And.intro (And.intro (And.intro @ZS2 (And.intro @ZI2 @ZB4)) (And.intro @ZAd (And.intro @ZS3 @ZH1))) (And.intro (And.intro @ZAO (And.intro @ZFM @ZCm)) (And.intro @ZQj (And.intro @ZIf @ZEO)))) (And.intro (And.intro (And.intro @ZA0 (And.intro @ZTU @ZEY)) (And.intro @ZAL (And.intro @ZFb @ZDB))) (And.intro (And.intro @ZOt (And.intro @ZTP @ZJD)) (And.intro @ZT5 (And.intro @ZQ7 @ZQc))))) (And.intro (And.intro (And.intro (And.intro @ZKH (And.intro @ZEL @ZJg)) (And.intro @ZE6 (And.intro @ZCI @ZB7))) (And.intro (And.intro @ZAy (And.intro @ZGW @ZGV)) (And.intro @ZLm (And.intro @ZDn @ZGr)))) (And.intro (And.intro (And.intro @ZL2 (And.intro @ZzF @ZDJ)) (And.intro @ZBZ (And.intro @ZDp @ZPB))) (And.intro (And.intro @ZG7 (And.intro @ZGS @ZCg)) (And.intro @ZNS (And.intro @ZOj @ZNA)))))) (And.intro (And.intro (And.intro (And.intro (And.intro @ZOF (And.intro @ZO1 @ZF7)) (And.intro @ZGz (And.intro @ZAg @ZH5))) (And.intro (And.intro @ZBr (And.intro @ZE5 @ZGB)) (And.intro @ZGO (And.intro @ZJK @Zxg)))) (And.intro (And.intro (And.intro @Zvj (And.intro @Zv6 @Zxn)) (And.intro @Zxu (And.intro @Zym @ZKw))) (And.intro (And.intro @ZxJ (And.intro @Zxr @Zyz)) (And.intro @ZxH (And.intro @Zyk @ZPx))))) (And.intro (And.intro (And.intro (And.intro @ZLj (And.intro @ZMx @ZMf)) (And.intro @ZCG (And.intro @ZFf @ZIe))) (And.intro (And.intro @ZDh (And.intro @ZMD @ZO4)) (And.intro @ZJG (And.intro @ZO2 @ZOb)))) (And.intro (And.intro (And.intro @ZO7 (And.intro @ZvV @ZwO)) (And.intro @Zx7 (And.intro @Zvl @ZK6))) (And.intro (And.intro @ZKQ (And.intro @ZM4 @ZPy)) (And.intro (And.intro @ZNs @ZSV) (And.intro @ZQW @b_42))))))
def Z6S := kBody Proofs.Try.f50
def Zpi := kL Z6S
def Z4i := kO Zpi
def Zjb := opN Z4i 0
def ZkK := opN Z4i 1
theorem ZSt : XG 50 48 Zpi Z4i [4, 5] := Z2 (by rfl) (by rfl) _
theorem ZDP : Z4i.toList = [Zjb, ZkK] := nf
theorem ZAu : stepA E C B 48 Z4i Zjb (φ, H) = some (fput φ 4 (.int .i64 0), H) := nf
theorem ZCP : stepA E C B 48 Z4i ZkK (φ, H) = some (fput φ 5 (.int .i64 0), H) := nf
def Zby := kR Z6S
def Zbs := kL Zby
def Zoz := kL Zbs
def Zv := kO Zoz
def ZlK := opN Zv 0
def ZiF := opN Zv 1
def Z4Q := opN Zv 2
def Zhg := opN Zv 3
def Zkk := opN Zv 4
def Zhy := opN Zv 5
def Z4n := opN Zv 6
def Zhr := opN Zv 7
def Zl6 := opN Zv 8
def ZjP := opN Zv 9
def Z1r := opN Zv 10
def Zgt := opN Zv 11
def Ze7 := opN Zv 12
def Zcr := opN Zv 13
def ZfJ := opN Zv 14
def ZgQ := opN Zv 15
theorem ZQI : XG 50 48 Zoz Zv [9, 10, 11, 12, 13, 14, 15, 16, 17, 18, 19, 20, 21, 22, 23] := Z2 (by rfl) (by rfl) _
theorem ZJa : Zv.toList = [ZlK, ZiF, Z4Q, Zhg, Zkk, Zhy, Z4n, Zhr, Zl6, ZjP, Z1r, Zgt, Ze7, Zcr, ZfJ, ZgQ] := nf
theorem ZGZ : stepA E C B 48 Zv ZlK (φ, H) = some (fput φ 9 (fget φ 0), H) := nf
theorem ZCe : stepA E C B 48 Zv ZiF (φ, H) = stp (some 10) φ H (just (aBin E.T .lss 3 (fget φ 9) (.int .i64 1))) := nf
theorem Zzk : stepA E C B 48 Zv Z4Q (φ, H) = some (fput φ 11 (fget φ 10), H) := nf
theorem ZG9 : stepA E C B 48 Zv Zhg (φ, H) = gd φ 11 false (fun φ => some (fput φ 12 (.tup []), H)) (fun φ => some (fput φ 12 (fget φ 0), H)) := s_gd (j := 2) (oj := Z4Q) rfl rfl rfl (fun _ => rfl) (fun _ => rfl)
theorem ZEr : stepA E C B 48 Zv Zkk (φ, H) = gd φ 11 false (fun φ => some (fput φ 13 (.tup []), H)) (fun φ => stp (some 13) φ H (just (aBin E.T .gtr 3 (fget φ 12) (.int .i64 6)))) := s_gd (j := 2) (oj := Z4Q) rfl rfl rfl (fun _ => rfl) (fun _ => rfl)
theorem ZD8 : stepA E C B 48 Zv Zhy (φ, H) = stp (some 14) φ H (opPick (fget φ 11) (.bool true) (fget φ 13)) := nf
theorem ZAj : stepA E C B 48 Zv Z4n (φ, H) = some (fput φ 15 (fget φ 14), H) := nf
theorem ZBi : stepA E C B 48 Zv Zhr (φ, H) = gd φ 15 false (fun φ => some (fput φ 16 (.tup []), H)) (fun φ => some (fput φ 16 (fget φ 1), H)) := s_gd (j := 6) (oj := Z4n) rfl rfl rfl (fun _ => rfl) (fun _ => rfl)
theorem ZCM : stepA E C B 48 Zv Zl6 (φ, H) = gd φ 15 false (fun φ => some (fput φ 17 (.tup []), H)) (fun φ => stp (some 17) φ H (just (aBin E.T .lss 3 (fget φ 16) (.int .i64 0)))) := s_gd (j := 6) (oj := Z4n) rfl rfl rfl (fun _ => rfl) (fun _ => rfl)
theorem ZBa : stepA E C B 48 Zv ZjP (φ, H) = stp (some 18) φ H (opPick (fget φ 15) (.bool true) (fget φ 17)) := nf
theorem ZuN : stepA E C B 48 Zv Z1r (φ, H) = some (fput φ 19 (fget φ 18), H) := nf
theorem ZyP : stepA E C B 48 Zv Zgt (φ, H) = gd φ 19 false (fun φ => some (fput φ 20 (.tup []), H)) (fun φ => some (fput φ 20 (fget φ 1), H)) := s_gd (j := 10) (oj := Z1r) rfl rfl rfl (fun _ => rfl) (fun _ => rfl)
theorem Zww : stepA E C B 48 Zv Ze7 (φ, H) = gd φ 19 false (fun φ => some (fput φ 21 (.tup []), H)) (fun φ => some (fput φ 21 (fget φ 0), H)) := s_gd (j := 10) (oj := Z1r) rfl rfl rfl (fun _ => rfl) (fun _ => rfl)
theorem ZwU : stepA E C B 48 Zv Zcr (φ, H) = gd φ 19 false (fun φ => some (fput φ 22 (.tup []), H)) (fun φ => stp (some 22) φ H (just (aBin E.T .mul 3 (fget φ 21) (.int .i64 8)))) := s_gd (j := 10) (oj := Z1r) rfl rfl rfl (fun _ => rfl) (fun _ => rfl)
theorem Zxk : stepA E C B 48 Zv ZfJ (φ, H) = gd φ 19 false (fun φ => some (fput φ 23 (.tup []), H)) (fun φ => stp (some 23) φ H (just (aBin E.T .gtr 3 (fget φ 20) (fget φ 22)))) := s_gd (j := 10) (oj := Z1r) rfl rfl rfl (fun _ => rfl) (fun _ => rfl)
theorem ZyL : stepA E C B 48 Zv ZgQ (φ, H) = stp (some 24) φ H (opPick (fget φ 19) (.bool true) (fget φ 23)) := nf
def Zbc := kR Zbs
def Z9z := kT Zbc
def Zp5 := kL Z9z
def Z4L := kO Zp5
def Znw := opN Z4L 0
def ZjS := opN Z4L 1
theorem ZPY : XG 50 48 Zp5 Z4L [0, 1, 24] := Z2 (by rfl) (by rfl) _
theorem ZHY : Z4L.toList = [Znw, ZjS] := nf
theorem ZDy : stepA E C B 48 Z4L Znw (φ, H) = some (fput φ 4 (.int .i64 0), H) := nf
theorem ZBD : stepA E C B 48 Z4L ZjS (φ, H) = some (fput φ 5 (.int .i64 1), H) := nf
def Zzb := kR Z9z
theorem ZRW : execA E C (fg 50) B 48 E0 N Zzb s = some (.ret, s) := Zs (by rfl) s
theorem ZRh : XQ 50 48 Z9z Zp5 Zzb := Z0 (by rfl) _
def Zz0 := kE Zbc
theorem ZSr : execA E C (fg 50) B 48 E0 N Zz0 s = some (.normal, s) := Zp (by rfl) s
theorem ZS8 : XC 50 48 Zbc 24 Z9z Zz0 := Zn (by rfl) _
theorem ZSO : XQ 50 48 Zbs Zoz Zbc := Z0 (by rfl) _
def Z6s := kR Zby
def Zfw := kL Z6s
def Z2A := kO Zfw
def ZmD := opN Z2A 0
def Zom := opN Z2A 1
def ZiV := opN Z2A 2
theorem ZLR : XG 50 48 Zfw Z2A [0, 24, 25, 26] := Z2 (by rfl) (by rfl) _
theorem ZFl : Z2A.toList = [ZmD, Zom, ZiV] := nf
theorem ZG6 : stepA E C B 48 Z2A ZmD (φ, H) = some (fput φ 25 (fget φ 0), H) := nf
theorem ZGA : stepA E C B 48 Z2A Zom (φ, H) = stp (some 26) φ H (aMake E.T (B + 26) 22 (fget φ 25) (fget φ 25)) := nf
theorem ZzU : stepA E C B 48 Z2A ZiV (φ, H) = some (fput φ 6 (fget φ 26), H) := nf
def Z65 := kR Z6s
def Z7J := kL Z65
def Zfo := kL Z7J
def Z2H := kO Zfo
def Zle := opN Z2H 0
def Zjj := opN Z2H 1
def ZlO := opN Z2H 2
theorem ZNy : XG 50 48 Zfo Z2H [27] := Z2 (by rfl) (by rfl) _
theorem ZHB : Z2H.toList = [Zle, Zjj, ZlO] := nf
theorem ZC9 : stepA E C B 48 Z2H Zle (φ, H) = some (fput φ 27 (fget φ 6), H) := nf
theorem ZCO : stepA E C B 48 Z2H Zjj (φ, H) = stp (some 28) φ H (Z1 E.T (B + 28) .len #[22] [(fget φ 27)]) := nf
theorem ZBj : stepA E C B 48 Z2H ZlO (φ, H) = some (fput φ 29 (.int .i64 0), H) := nf
def ZdS := kR Z7J
def Ze9 := kB ZdS
def Z3j := kB Ze9
def ZeP := kL Z3j
def ZaW := kO ZeP
def Zkb := opN ZaW 0
theorem ZJZ : XG 50 48 ZeP ZaW [] := Z2 (by rfl) (by rfl) _
theorem ZzQ : ZaW.toList = [Zkb] := nf
theorem ZGl : stepA E C B 48 ZaW Zkb (φ, H) = stp (some 30) φ H (just (aBin E.T .lss 3 (fget φ 29) (fget φ 28))) := nf
def Z7H := kR Z3j
def Z7a := kL Z7H
def Zu0 := kT Z7a
theorem ZPc : execA E C (fg 50) B 48 E0 N Zu0 s = some (.normal, s) := Zp (by rfl) s
def ZrX := kE Z7a
theorem ZLn : execA E C (fg 50) B 48 E0 N ZrX s = some (.exit 0, s) := Z07 (by rfl) s
theorem ZPl : XC 50 48 Z7a 30 Zu0 ZrX := Zn (by rfl) _
def Z6g := kR Z7H
def Zdx := kL Z6g
def Z6R := kB Zdx
def Zdi := kL Z6R
def Z4W := kO Zdi
def ZmT := opN Z4W 0
def Zii := opN Z4W 1
theorem ZOk : XG 50 48 Zdi Z4W [30, 31] := Z2 (by rfl) (by rfl) _
theorem ZFw : Z4W.toList = [ZmT, Zii] := nf
theorem ZGH : stepA E C B 48 Z4W ZmT (φ, H) = some (fput φ 31 (fget φ 29), H) := nf
theorem ZDe : stepA E C B 48 Z4W Zii (φ, H) = some (fput φ 7 (fget φ 31), H) := nf
def Z6c := kR Z6R
def Zgi := kL Z6c
def Z0H := kO Zgi
def Zl4 := opN Z0H 0
def Zlu := opN Z0H 1
def ZlR := opN Z0H 2
def Zi2 := opN Z0H 3
def Zkc := opN Z0H 4
def ZnM := opN Z0H 5
theorem ZNl : XG 50 48 Zgi Z0H [32, 33, 34, 35, 36] := Z2 (by rfl) (by rfl) _
theorem ZEq : Z0H.toList = [Zl4, Zlu, ZlR, Zi2, Zkc, ZnM] := nf
theorem ZDd : stepA E C B 48 Z0H Zl4 (φ, H) = some (fput φ 32 (fget φ 6), H) := nf
theorem ZCq : stepA E C B 48 Z0H Zlu (φ, H) = some (fput φ 33 (fget φ 7), H) := nf
theorem ZHH : stepA E C B 48 Z0H ZlR (φ, H) = some (fput φ 34 (fget φ 1), H) := nf
theorem ZAE : stepA E C B 48 Z0H Zi2 (φ, H) = stp (some 35) φ H (Z1 E.T (B + 35) .min #[3, 3] [(fget φ 34), (.int .i64 8)]) := nf
theorem ZI0 : stepA E C B 48 Z0H Zkc (φ, H) = stp (some 36) φ H (just (Z4 E.T 22 (fget φ 32) (fget φ 33))) := nf
theorem ZFq : stepA E C B 48 Z0H ZnM (φ, H) = stp none φ H (opStore E.T 3 (fget φ 36) (fget φ 35)) := nf
def Zd0 := kR Z6c
def Z0l := kO Zd0
def ZhS := opN Z0l 0
def Znx := opN Z0l 1
def Zn0 := opN Z0l 2
def Znt := opN Z0l 3
def ZmG := opN Z0l 4
def Znq := opN Z0l 5
def ZjF := opN Z0l 6
theorem ZLQ : XG 50 48 Zd0 Z0l [7, 37, 38, 39, 40, 41, 42] := Z2 (by rfl) (by rfl) _
theorem ZFC : Z0l.toList = [ZhS, Znx, Zn0, Znt, ZmG, Znq, ZjF] := nf
theorem ZGK : stepA E C B 48 Z0l ZhS (φ, H) = some (fput φ 37 (fget φ 1), H) := nf
theorem ZD6 : stepA E C B 48 Z0l Znx (φ, H) = some (fput φ 38 (fget φ 6), H) := nf
theorem ZDx : stepA E C B 48 Z0l Zn0 (φ, H) = some (fput φ 39 (fget φ 7), H) := nf
theorem ZA7 : stepA E C B 48 Z0l Znt (φ, H) = stp (some 40) φ H (just (Z4 E.T 22 (fget φ 38) (fget φ 39))) := nf
theorem ZHt : stepA E C B 48 Z0l ZmG (φ, H) = stp (some 41) φ H (just (aLoad E.T 3 (fget φ 40))) := nf
theorem ZIa : stepA E C B 48 Z0l Znq (φ, H) = stp (some 42) φ H (just (aBin E.T .sub 3 (fget φ 37) (fget φ 41))) := nf
theorem ZEi : stepA E C B 48 Z0l ZjF (φ, H) = some (fput φ 1 (fget φ 42), H) := nf
theorem ZLk : XQ 50 48 Z6c Zgi Zd0 := Z0 (by rfl) _
theorem ZLe : XQ 50 48 Z6R Zdi Z6c := Z0 (by rfl) _
theorem ZP6 : execA E C (fg 50) B 48 E0 N Zdx s = blockX 1 (fun s => (forget s.1 [], s.2)) (execA E C (fg 50) B 48 E0 N Z6R s) := Zk (by rfl) (by rfl) s
def Zf9 := kR Z6g
def Z4j := kO Zf9
def Zi9 := opN Z4j 0
def ZhL := opN Z4j 1
theorem ZO9 : XG 50 48 Zf9 Z4j [43] := Z2 (by rfl) (by rfl) _
theorem ZHJ : Z4j.toList = [Zi9, ZhL] := nf
theorem ZBS : stepA E C B 48 Z4j Zi9 (φ, H) = stp (some 43) φ H (just (aBin E.T .add 3 (fget φ 29) (.int .i64 1))) := nf
theorem ZEa : stepA E C B 48 Z4j ZhL (φ, H) = some (fput φ 29 (fget φ 43), H) := nf
theorem ZMs : XQ 50 48 Z6g Zdx Zf9 := Z0 (by rfl) _
theorem ZPH : XQ 50 48 Z7H Z7a Z6g := Z0 (by rfl) _
theorem ZOr : XQ 50 48 Z3j ZeP Z7H := Z0 (by rfl) _
theorem ZKD : execA E C (fg 50) B 48 E0 N Ze9 s = iterA (execA E C (fg 50) B 48 E0 N Z3j) (headA E0) N s := Z0a (by rfl) s
theorem ZMl : execA E C (fg 50) B 48 E0 N ZdS s = blockX 0 (fun s => (forget s.1 [1, 28, 29, 30], s.2)) (execA E C (fg 50) B 48 E0 N Ze9 s) := Zk (by rfl) (by rfl) s
theorem ZLF : XQ 50 48 Z7J Zfo ZdS := Z0 (by rfl) _
def Z8f := kR Z65
def Zdp := kL Z8f
def Z3r := kO Zdp
def ZbS := opN Z3r 0
def Zeb := opN Z3r 1
theorem ZNN : XG 50 48 Zdp Z3r [] := Z2 (by rfl) (by rfl) _
theorem ZvR : Z3r.toList = [ZbS, Zeb] := nf
theorem ZwT : stepA E C B 48 Z3r ZbS (φ, H) = stp (some 8) φ H (opBox (B + 8) (zeroCells E.T 3)) := nf
theorem Zxe : stepA E C B 48 Z3r Zeb (φ, H) = stp none φ H (opStore E.T 3 (fget φ 8) (.int .i64 0)) := nf
def Z69 := kR Z8f
def ZeL := kL Z69
def Z1N := kO ZeL
def ZeZ := opN Z1N 0
def Zdd := opN Z1N 1
def ZdZ := opN Z1N 2
theorem ZKT : XG 50 48 ZeL Z1N [6, 44, 45, 46] := Z2 (by rfl) (by rfl) _
theorem Zxv : Z1N.toList = [ZeZ, Zdd, ZdZ] := nf
theorem Zxz : stepA E C B 48 Z1N ZeZ (φ, H) = some (fput φ 44 (fget φ 6), H) := nf
theorem ZvF : stepA E C B 48 Z1N Zdd (φ, H) = stp (some 45) φ H (.pure (.clo 104 [(fget φ 8)], [])) := nf
theorem Zvh : stepA E C B 48 Z1N ZdZ (φ, H) = mutX (some 46) φ (C 92 [(fget φ 44), (fget φ 45)] H (B + 48 * 8)) := nf
def Z72 := kR Z69
def ZfI := kL Z72
def Z23 := kO ZfI
def ZdO := opN Z23 0
def ZdD := opN Z23 1
def Zgc := opN Z23 2
theorem ZO5 : XG 50 48 ZfI Z23 [8, 47] := Z2 (by rfl) (by rfl) _
theorem Zwr : Z23.toList = [ZdO, ZdD, Zgc] := nf
theorem Zxo : stepA E C B 48 Z23 ZdO (φ, H) = stp (some 47) φ H (just (aLoad E.T 3 (fget φ 8))) := nf
theorem Zya : stepA E C B 48 Z23 ZdD (φ, H) = some (fput φ 4 (fget φ 47), H) := nf
theorem ZxF : stepA E C B 48 Z23 Zgc (φ, H) = some (fput φ 5 (.int .i64 0), H) := nf
def Zte := kR Z72
theorem ZNF : execA E C (fg 50) B 48 E0 N Zte s = some (.ret, s) := Zs (by rfl) s
theorem ZKk : XQ 50 48 Z72 ZfI Zte := Z0 (by rfl) _
theorem ZMo : XQ 50 48 Z69 ZeL Z72 := Z0 (by rfl) _
theorem ZJV : XQ 50 48 Z8f Zdp Z69 := Z0 (by rfl) _
theorem ZPi : XQ 50 48 Z65 Z7J Z8f := Z0 (by rfl) _
theorem ZL1 : XQ 50 48 Z6s Zfw Z65 := Z0 (by rfl) _
theorem ZR8 : XQ 50 48 Zby Zbs Z6s := Z0 (by rfl) _
theorem ZPS : XQ 50 48 Z6S Zpi Zby := Z0 (by rfl) _
theorem ZUx : fInfo E 50 = some ⟨48, #[.tmp 4, .tmp 5], Z6S⟩ := nf
theorem b_50 (args : List AV) : bodyA E C fg N 50 args H B = bodyX E [.tmp 4, .tmp 5] (execA E C (fg 50) B 48 H N Z6S (Z3 args 0 [], H)) := Zw ZUx args H
abbrev F_50 := And.intro (And.intro (And.intro (And.intro (And.intro (And.intro @ZSt (And.intro @ZDP @ZAu)) (And.intro @ZCP (And.intro @ZQI @ZJa))) (And.intro (And.intro @ZGZ (And.intro @ZCe @Zzk)) (And.intro (And.intro @ZG9 @ZEr) (And.intro @ZD8 @ZAj)))) (And.intro (And.intro (And.intro @ZBi (And.intro @ZCM @ZBa)) (And.intro @ZuN (And.intro @ZyP @Zww))) (And.intro (And.intro @ZwU (And.intro @Zxk @ZyL)) (And.intro (And.intro @ZPY @ZHY) (And.intro @ZDy @ZBD))))) (And.intro (And.intro (And.intro (And.intro @ZRW (And.intro @ZRh @ZSr)) (And.intro @ZS8 (And.intro @ZSO @ZLR))) (And.intro (And.intro @ZFl (And.intro @ZG6 @ZGA)) (And.intro (And.intro @ZzU @ZNy) (And.intro @ZHB @ZC9)))) (And.intro (And.intro (And.intro @ZCO (And.intro @ZBj @ZJZ)) (And.intro @ZzQ (And.intro @ZGl @ZPc))) (And.intro (And.intro @ZLn (And.intro @ZPl @ZOk)) (And.intro (And.intro @ZFw @ZGH) (And.intro @ZDe @ZNl)))))) (And.intro (And.intro (And.intro (And.intro (And.intro @ZEq (And.intro @ZDd @ZCq)) (And.intro @ZHH (And.intro @ZAE @ZI0))) (And.intro (And.intro @ZFq (And.intro @ZLQ @ZFC)) (And.intro (And.intro @ZGK @ZD6) (And.intro @ZDx @ZA7)))) (And.intro (And.intro (And.intro @ZHt (And.intro @ZIa @ZEi)) (And.intro @ZLk (And.intro @ZLe @ZP6))) (And.intro (And.intro @ZO9 (And.intro @ZHJ @ZBS)) (And.intro (And.intro @ZEa @ZMs) (And.intro @ZPH @ZOr))))) (And.intro (And.intro (And.intro (And.intro @ZKD (And.intro @ZMl @ZLF)) (And.intro @ZNN (And.intro @ZvR @ZwT))) (And.intro (And.intro @Zxe (And.intro @ZKT @Zxv)) (And.intro (And.intro @Zxz @ZvF) (And.intro @Zvh @ZO5)))) (And.intro (And.intro (And.intro @Zwr (And.intro @Zxo @Zya)) (And.intro @ZxF (And.intro @ZNF @ZKk))) (And.intro (And.intro @ZMo (And.intro @ZJV @ZPi)) (And.intro (And.intro @ZL1 @ZR8) (And.intro @ZPS @b_50))))))
def Z7R := kBody Proofs.Try.f104
def Z1Y := kO Z7R
def Zfv := opN Z1Y 0
def ZgY := opN Z1Y 1
def ZdH := opN Z1Y 2
theorem ZPJ : XG 104 5 Z7R Z1Y [0, 1, 3, 4] := Z2 (by rfl) (by rfl) _
theorem ZwK : Z1Y.toList = [Zfv, ZgY, ZdH] := nf
theorem ZuU : stepA E C B 5 Z1Y Zfv (φ, H) = stp (some 3) φ H (just (aLoad E.T 3 (fget φ 1))) := nf
theorem Zv7 : stepA E C B 5 Z1Y ZgY (φ, H) = stp (some 4) φ H (just (aBin E.T .add 3 (fget φ 3) (.int .i64 1))) := nf
theorem Zu2 : stepA E C B 5 Z1Y ZdH (φ, H) = stp none φ H (opStore E.T 3 (fget φ 1) (fget φ 4)) := nf
theorem ZPz : fInfo E 104 = some ⟨5, #[], Z7R⟩ := nf
theorem ZTF (args : List AV) : bodyA E C fg N 104 args H B = bodyX E [] (execA E C (fg 104) B 5 H N Z7R (Z3 args 0 [], H)) := Zw ZPz args H
abbrev ZRg := And.intro (And.intro @ZPJ (And.intro @ZwK @ZuU)) (And.intro @Zv7 (And.intro @Zu2 @ZTF))
def Z7l := kBody Proofs.Try.f54
def ZoG := kL Z7l
def Z4z := kO ZoG
def Zlp := opN Z4z 0
def Zmj := opN Z4z 1
theorem ZTj : XG 54 44 ZoG Z4z [4, 5] := Z2 (by rfl) (by rfl) _
theorem ZHE : Z4z.toList = [Zlp, Zmj] := nf
theorem ZEX : stepA E C B 44 Z4z Zlp (φ, H) = some (fput φ 4 (.int .i64 0), H) := nf
theorem ZzH : stepA E C B 44 Z4z Zmj (φ, H) = some (fput φ 5 (.int .i64 0), H) := nf
def Zbw := kR Z7l
def ZpR := kL Zbw
def Z2O := kO ZpR
def Zkj := opN Z2O 0
def Zol := opN Z2O 1
def Zjm := opN Z2O 2
theorem ZQm : XG 54 44 ZpR Z2O [11, 12] := Z2 (by rfl) (by rfl) _
theorem ZHM : Z2O.toList = [Zkj, Zol, Zjm] := nf
theorem ZDF : stepA E C B 44 Z2O Zkj (φ, H) = some (fput φ 11 (fget φ 0), H) := nf
theorem ZDa : stepA E C B 44 Z2O Zol (φ, H) = stp (some 12) φ H (aCall C (fun j => B + j * 44 + 12) true 25 [(fget φ 11)]) := nf
theorem ZEJ : stepA E C B 44 Z2O Zjm (φ, H) = some (fput φ 6 (fget φ 12), H) := nf
def Zax := kR Zbw
def Zor := kL Zax
def ZaE := kB Zor
def ZoY := kL ZaE
def Z2B := kO ZoY
def Zli := opN Z2B 0
def Zhf := opN Z2B 1
def ZiN := opN Z2B 2
theorem ZUz : XG 54 44 ZoY Z2B [14, 15] := Z2 (by rfl) (by rfl) _
theorem ZGf : Z2B.toList = [Zli, Zhf, ZiN] := nf
theorem ZzI : stepA E C B 44 Z2B Zli (φ, H) = some (fput φ 14 (fget φ 6), H) := nf
theorem ZDS : stepA E C B 44 Z2B Zhf (φ, H) = stp (some 15) φ H (just (aBin E.T .neq 24 (fget φ 14) (.int .i64 0))) := nf
theorem ZEu : stepA E C B 44 Z2B ZiN (φ, H) = some (fput φ 13 (fget φ 15), H) := nf
def Zae := kR ZaE
def ZaR := kT Zae
def ZdU := kL ZaR
def Z31 := kO ZdU
def ZjM := opN Z31 0
def ZjE := opN Z31 1
def ZlY := opN Z31 2
theorem ZLv : XG 54 44 ZdU Z31 [0, 1, 6, 13, 16] := Z2 (by rfl) (by rfl) _
theorem ZFV : Z31.toList = [ZjM, ZjE, ZlY] := nf
theorem ZF5 : stepA E C B 44 Z31 ZjM (φ, H) = some (fput φ 16 (fget φ 6), H) := nf
theorem ZIt : stepA E C B 44 Z31 ZjE (φ, H) = some (fput φ 4 (.int .i64 0), H) := nf
theorem ZIJ : stepA E C B 44 Z31 ZlY (φ, H) = some (fput φ 5 (fget φ 16), H) := nf
def ZrA := kR ZaR
theorem ZM3 : execA E C (fg 54) B 44 E0 N ZrA s = some (.ret, s) := Zs (by rfl) s
theorem ZTS : XQ 54 44 ZaR ZdU ZrA := Z0 (by rfl) _
def Z6N := kE Zae
def ZgC := kL Z6N
def Z0n := kO ZgC
def ZjU := opN Z0n 0
def Ziq := opN Z0n 1
def Z57 := opN Z0n 2
def Zip := opN Z0n 3
def ZlA := opN Z0n 4
def ZmV := opN Z0n 5
def Zmv := opN Z0n 6
theorem ZKL : XG 54 44 ZgC Z0n [6, 13, 18, 19, 20, 21, 22, 23] := Z2 (by rfl) (by rfl) _
theorem ZI1 : Z0n.toList = [ZjU, Ziq, Z57, Zip, ZlA, ZmV, Zmv] := nf
theorem ZIH : stepA E C B 44 Z0n ZjU (φ, H) = some (fput φ 18 (fget φ 1), H) := nf
theorem ZBp : stepA E C B 44 Z0n Ziq (φ, H) = stp (some 19) φ H (just (aBin E.T .lss 3 (fget φ 18) (.int .i64 1))) := nf
theorem ZzK : stepA E C B 44 Z0n Z57 (φ, H) = some (fput φ 20 (fget φ 19), H) := nf
theorem Zzm : stepA E C B 44 Z0n Zip (φ, H) = gd φ 20 false (fun φ => some (fput φ 21 (.tup []), H)) (fun φ => some (fput φ 21 (fget φ 1), H)) := s_gd (j := 2) (oj := Z57) rfl rfl rfl (fun _ => rfl) (fun _ => rfl)
theorem ZA8 : stepA E C B 44 Z0n ZlA (φ, H) = gd φ 20 false (fun φ => some (fput φ 22 (.tup []), H)) (fun φ => stp (some 22) φ H (just (aBin E.T .gtr 3 (fget φ 21) (.int .i64 4)))) := s_gd (j := 2) (oj := Z57) rfl rfl rfl (fun _ => rfl) (fun _ => rfl)
theorem ZIy : stepA E C B 44 Z0n ZmV (φ, H) = stp (some 23) φ H (opPick (fget φ 20) (.bool true) (fget φ 22)) := nf
theorem ZF9 : stepA E C B 44 Z0n Zmv (φ, H) = some (fput φ 17 (fget φ 23), H) := nf
def Z6j := kR Z6N
def Z7V := kT Z6j
def ZdV := kL Z7V
def Z4k := kO ZdV
def ZiW := opN Z4k 0
def Zjo := opN Z4k 1
theorem ZM9 : XG 54 44 ZdV Z4k [0, 1, 17] := Z2 (by rfl) (by rfl) _
theorem ZIp : Z4k.toList = [ZiW, Zjo] := nf
theorem ZFx : stepA E C B 44 Z4k ZiW (φ, H) = some (fput φ 4 (.int .i64 0), H) := nf
theorem ZzC : stepA E C B 44 Z4k Zjo (φ, H) = some (fput φ 5 (.int .i64 1), H) := nf
def ZtK := kR Z7V
theorem ZN8 : execA E C (fg 54) B 44 E0 N ZtK s = some (.ret, s) := Zs (by rfl) s
theorem ZNZ : XQ 54 44 Z7V ZdV ZtK := Z0 (by rfl) _
def Zrv := kE Z6j
theorem ZN2 : execA E C (fg 54) B 44 E0 N Zrv s = some (.normal, s) := Zp (by rfl) s
theorem ZK0 : XC 54 44 Z6j 17 Z7V Zrv := Zn (by rfl) _
theorem ZLz : XQ 54 44 Z6N ZgC Z6j := Z0 (by rfl) _
theorem ZQk : XC 54 44 Zae 13 ZaR Z6N := Zn (by rfl) _
theorem ZQP : XQ 54 44 ZaE ZoY Zae := Z0 (by rfl) _
theorem ZSE : execA E C (fg 54) B 44 E0 N Zor s = blockX 0 (fun s => (forget s.1 [17], s.2)) (execA E C (fg 54) B 44 E0 N ZaE s) := Zk (by rfl) (by rfl) s
def Z6P := kR Zax
def Zcq := kL Z6P
def ZaF := kO Zcq
def ZlC := opN ZaF 0
theorem ZOD : XG 54 44 Zcq ZaF [] := Z2 (by rfl) (by rfl) _
theorem ZG0 : ZaF.toList = [ZlC] := nf
theorem ZCb : stepA E C B 44 ZaF ZlC (φ, H) = some (fput φ 7 (.int .i64 0), H) := nf
def Z70 := kR Z6P
def Z7j := kL Z70
def Zd3 := kL Z7j
def Z2K := kO Zd3
def Zn3 := opN Z2K 0
def ZlJ := opN Z2K 1
def Zln := opN Z2K 2
theorem ZKg : XG 54 44 Zd3 Z2K [0] := Z2 (by rfl) (by rfl) _
theorem ZIP : Z2K.toList = [Zn3, ZlJ, Zln] := nf
theorem ZIW : stepA E C B 44 Z2K Zn3 (φ, H) = some (fput φ 24 (fget φ 0), H) := nf
theorem ZFj : stepA E C B 44 Z2K ZlJ (φ, H) = stp (some 25) φ H (Z1 E.T (B + 25) .len #[22] [(fget φ 24)]) := nf
theorem ZEH : stepA E C B 44 Z2K Zln (φ, H) = some (fput φ 26 (.int .i64 0), H) := nf
def ZbX := kR Z7j
def ZbP := kB ZbX
def Z3h := kB ZbP
def Zcx := kL Z3h
def ZaM := kO Zcx
def Zl9 := opN ZaM 0
theorem ZPE : XG 54 44 Zcx ZaM [] := Z2 (by rfl) (by rfl) _
theorem ZB5 : ZaM.toList = [Zl9] := nf
theorem ZCa : stepA E C B 44 ZaM Zl9 (φ, H) = stp (some 27) φ H (just (aBin E.T .lss 3 (fget φ 26) (fget φ 25))) := nf
def Z80 := kR Z3h
def Z7q := kL Z80
def Zst := kT Z7q
theorem ZM6 : execA E C (fg 54) B 44 E0 N Zst s = some (.normal, s) := Zp (by rfl) s
def Zsh := kE Z7q
theorem ZOT : execA E C (fg 54) B 44 E0 N Zsh s = some (.exit 1, s) := Z07 (by rfl) s
theorem ZNu : XC 54 44 Z7q 27 Zst Zsh := Zn (by rfl) _
def Z5Y := kR Z80
def ZeH := kL Z5Y
def Z68 := kB ZeH
def ZcB := kL Z68
def Z2P := kO ZcB
def Zll := opN Z2P 0
def Zla := opN Z2P 1
def Zj3 := opN Z2P 2
theorem ZOi : XG 54 44 ZcB Z2P [27, 28, 29] := Z2 (by rfl) (by rfl) _
theorem ZBQ : Z2P.toList = [Zll, Zla, Zj3] := nf
theorem ZDj : stepA E C B 44 Z2P Zll (φ, H) = stp (some 28) φ H (just (Z4 E.T 22 (fget φ 24) (fget φ 26))) := nf
theorem ZBG : stepA E C B 44 Z2P Zla (φ, H) = stp (some 29) φ H (just (aLoad E.T 3 (fget φ 28))) := nf
theorem ZHG : stepA E C B 44 Z2P Zj3 (φ, H) = some (fput φ 9 (fget φ 29), H) := nf
def Z6w := kR Z68
def ZfQ := kL Z6w
def Z37 := kO ZfQ
def Zg5 := opN Z37 0
def ZfK := opN Z37 1
theorem ZLb : XG 54 44 ZfQ Z37 [30] := Z2 (by rfl) (by rfl) _
theorem Zwo : Z37.toList = [Zg5, ZfK] := nf
theorem ZuV : stepA E C B 44 Z37 Zg5 (φ, H) = some (fput φ 30 (fget φ 9), H) := nf
theorem Zx3 : stepA E C B 44 Z37 ZfK (φ, H) = some (fput φ 10 (fget φ 30), H) := nf
def Z63 := kR Z6w
def Z7d := kL Z63
def Zfr := kL Z7d
def Z1S := kO Zfr
def ZeQ := opN Z1S 0
def ZdT := opN Z1S 1
def ZdR := opN Z1S 2
theorem ZLf : XG 54 44 Zfr Z1S [31] := Z2 (by rfl) (by rfl) _
theorem Zu9 : Z1S.toList = [ZeQ, ZdT, ZdR] := nf
theorem Zxf : stepA E C B 44 Z1S ZeQ (φ, H) = some (fput φ 31 (fget φ 1), H) := nf
theorem Zvd : stepA E C B 44 Z1S ZdT (φ, H) = stp (some 32) φ H (just (aBin E.T .sub 3 (fget φ 31) (.int .i64 1))) := nf
theorem ZxE : stepA E C B 44 Z1S ZdR (φ, H) = some (fput φ 33 (.int .i64 0), H) := nf
def Zec := kR Z7d
def ZdC := kB Zec
def Z4c := kB ZdC
def Zds := kL Z4c
def Z7t := kO Zds
def ZdL := opN Z7t 0
theorem ZM7 : XG 54 44 Zds Z7t [] := Z2 (by rfl) (by rfl) _
theorem Zu5 : Z7t.toList = [ZdL] := nf
theorem ZuD : stepA E C B 44 Z7t ZdL (φ, H) = stp (some 34) φ H (just (aBin E.T .lss 3 (fget φ 33) (fget φ 32))) := nf
def Z7K := kR Z4c
def Z7I := kL Z7K
def Zt7 := kT Z7I
theorem ZOH : execA E C (fg 54) B 44 E0 N Zt7 s = some (.normal, s) := Zp (by rfl) s
def ZrN := kE Z7I
theorem ZMW : execA E C (fg 54) B 44 E0 N ZrN s = some (.exit 3, s) := Z07 (by rfl) s
theorem ZLt : XC 54 44 Z7I 34 Zt7 ZrN := Zn (by rfl) _
def Z7U := kR Z7K
def Zgu := kL Z7U
def Zc6 := kB Zgu
def Z11 := kO Zc6
def Zdu := opN Z11 0
def ZfR := opN Z11 1
def ZeJ := opN Z11 2
def Zdb := opN Z11 3
theorem ZNI : XG 54 44 Zc6 Z11 [34, 35, 36, 37] := Z2 (by rfl) (by rfl) _
theorem ZxY : Z11.toList = [Zdu, ZfR, ZeJ, Zdb] := nf
theorem ZuR : stepA E C B 44 Z11 Zdu (φ, H) = some (fput φ 35 (fget φ 10), H) := nf
theorem Zve : stepA E C B 44 Z11 ZfR (φ, H) = some (fput φ 36 (fget φ 9), H) := nf
theorem Zvn : stepA E C B 44 Z11 ZeJ (φ, H) = stp (some 37) φ H (just (aBin E.T .mul 3 (fget φ 35) (fget φ 36))) := nf
theorem ZuS : stepA E C B 44 Z11 Zdb (φ, H) = some (fput φ 10 (fget φ 37), H) := nf
theorem ZJq : execA E C (fg 54) B 44 E0 N Zgu s = blockX 4 (fun s => (forget s.1 [], s.2)) (execA E C (fg 54) B 44 E0 N Zc6 s) := Zk (by rfl) (by rfl) s
def Ze5 := kR Z7U
def Z3i := kO Ze5
def ZeS := opN Z3i 0
def Zew := opN Z3i 1
theorem ZJA : XG 54 44 Ze5 Z3i [38] := Z2 (by rfl) (by rfl) _
theorem ZwL : Z3i.toList = [ZeS, Zew] := nf
theorem ZuX : stepA E C B 44 Z3i ZeS (φ, H) = stp (some 38) φ H (just (aBin E.T .add 3 (fget φ 33) (.int .i64 1))) := nf
theorem Zwp : stepA E C B 44 Z3i Zew (φ, H) = some (fput φ 33 (fget φ 38), H) := nf
theorem ZLT : XQ 54 44 Z7U Zgu Ze5 := Z0 (by rfl) _
theorem ZJC : XQ 54 44 Z7K Z7I Z7U := Z0 (by rfl) _
theorem ZM2 : XQ 54 44 Z4c Zds Z7K := Z0 (by rfl) _
theorem ZO0 : execA E C (fg 54) B 44 E0 N ZdC s = iterA (execA E C (fg 54) B 44 E0 N Z4c) (headA E0) N s := Z0a (by rfl) s
theorem ZPn : execA E C (fg 54) B 44 E0 N Zec s = blockX 3 (fun s => (forget s.1 [9, 32, 33, 34], s.2)) (execA E C (fg 54) B 44 E0 N ZdC s) := Zk (by rfl) (by rfl) s
theorem ZNe : XQ 54 44 Z7d Zfr Zec := Z0 (by rfl) _
def ZeD := kR Z63
def Z0V := kO ZeD
def ZgF := opN Z0V 0
def ZdW := opN Z0V 1
def Zh1 := opN Z0V 2
def ZcE := opN Z0V 3
theorem ZNd : XG 54 44 ZeD Z0V [10, 39, 40, 41] := Z2 (by rfl) (by rfl) _
theorem ZvI : Z0V.toList = [ZgF, ZdW, Zh1, ZcE] := nf
theorem Zyg : stepA E C B 44 Z0V ZgF (φ, H) = some (fput φ 39 (fget φ 7), H) := nf
theorem ZxR : stepA E C B 44 Z0V ZdW (φ, H) = some (fput φ 40 (fget φ 10), H) := nf
theorem Zyd : stepA E C B 44 Z0V Zh1 (φ, H) = stp (some 41) φ H (just (aBin E.T .add 3 (fget φ 39) (fget φ 40))) := nf
theorem Zyo : stepA E C B 44 Z0V ZcE (φ, H) = some (fput φ 7 (fget φ 41), H) := nf
theorem ZNK : XQ 54 44 Z63 Z7d ZeD := Z0 (by rfl) _
theorem ZPq : XQ 54 44 Z6w ZfQ Z63 := Z0 (by rfl) _
theorem ZNf : XQ 54 44 Z68 ZcB Z6w := Z0 (by rfl) _
theorem ZJz : execA E C (fg 54) B 44 E0 N ZeH s = blockX 2 (fun s => (forget s.1 [], s.2)) (execA E C (fg 54) B 44 E0 N Z68 s) := Zk (by rfl) (by rfl) s
def ZcF := kR Z5Y
def Z3s := kO ZcF
def Zdm := opN Z3s 0
def Zfq := opN Z3s 1
theorem ZMF : XG 54 44 ZcF Z3s [42] := Z2 (by rfl) (by rfl) _
theorem Zyi : Z3s.toList = [Zdm, Zfq] := nf
theorem ZxK : stepA E C B 44 Z3s Zdm (φ, H) = stp (some 42) φ H (just (aBin E.T .add 3 (fget φ 26) (.int .i64 1))) := nf
theorem Zye : stepA E C B 44 Z3s Zfq (φ, H) = some (fput φ 26 (fget φ 42), H) := nf
theorem ZOu : XQ 54 44 Z5Y ZeH ZcF := Z0 (by rfl) _
theorem ZL9 : XQ 54 44 Z80 Z7q Z5Y := Z0 (by rfl) _
theorem ZKe : XQ 54 44 Z3h Zcx Z80 := Z0 (by rfl) _
theorem ZMK : execA E C (fg 54) B 44 E0 N ZbP s = iterA (execA E C (fg 54) B 44 E0 N Z3h) (headA E0) N s := Z0a (by rfl) s
theorem ZKZ : execA E C (fg 54) B 44 E0 N ZbX s = blockX 1 (fun s => (forget s.1 [1, 24, 25, 26, 27], s.2)) (execA E C (fg 54) B 44 E0 N ZbP s) := Zk (by rfl) (by rfl) s
theorem ZKz : XQ 54 44 Z7j Zd3 ZbX := Z0 (by rfl) _
def Z60 := kR Z70
def Ze0 := kL Z60
def Z1R := kO Ze0
def Zep := opN Z1R 0
def ZgT := opN Z1R 1
def Zeu := opN Z1R 2
theorem ZOJ : XG 54 44 Ze0 Z1R [7, 43] := Z2 (by rfl) (by rfl) _
theorem Zup : Z1R.toList = [Zep, ZgT, Zeu] := nf
theorem ZvC : stepA E C B 44 Z1R Zep (φ, H) = some (fput φ 43 (fget φ 7), H) := nf
theorem Zyh : stepA E C B 44 Z1R ZgT (φ, H) = some (fput φ 4 (fget φ 43), H) := nf
theorem Zv8 : stepA E C B 44 Z1R Zeu (φ, H) = some (fput φ 5 (.int .i64 0), H) := nf
def Zrk := kR Z60
theorem ZJH : execA E C (fg 54) B 44 E0 N Zrk s = some (.ret, s) := Zs (by rfl) s
theorem ZJp : XQ 54 44 Z60 Ze0 Zrk := Z0 (by rfl) _
theorem ZP3 : XQ 54 44 Z70 Z7j Z60 := Z0 (by rfl) _
theorem ZOq : XQ 54 44 Z6P Zcq Z70 := Z0 (by rfl) _
theorem ZTw : XQ 54 44 Zax Zor Z6P := Z0 (by rfl) _
theorem ZTg : XQ 54 44 Zbw ZpR Zax := Z0 (by rfl) _
theorem ZQM : XQ 54 44 Z7l ZoG Zbw := Z0 (by rfl) _
theorem ZSM : fInfo E 54 = some ⟨44, #[.tmp 4, .tmp 5], Z7l⟩ := nf
theorem b_54 (args : List AV) : bodyA E C fg N 54 args H B = bodyX E [.tmp 4, .tmp 5] (execA E C (fg 54) B 44 H N Z7l (Z3 args 0 [], H)) := Zw ZSM args H
abbrev F_54 := And.intro (And.intro (And.intro (And.intro (And.intro (And.intro @ZTj (And.intro @ZHE @ZEX)) (And.intro (And.intro @ZzH @ZQm) (And.intro @ZHM @ZDF))) (And.intro (And.intro (And.intro @ZDa @ZEJ) (And.intro @ZUz @ZGf)) (And.intro (And.intro @ZzI @ZDS) (And.intro @ZEu @ZLv)))) (And.intro (And.intro (And.intro (And.intro @ZFV @ZF5) (And.intro @ZIt @ZIJ)) (And.intro (And.intro @ZM3 @ZTS) (And.intro @ZKL @ZI1))) (And.intro (And.intro (And.intro @ZIH @ZBp) (And.intro @ZzK @Zzm)) (And.intro (And.intro @ZA8 @ZIy) (And.intro @ZF9 @ZM9))))) (And.intro (And.intro (And.intro (And.intro (And.intro @ZIp @ZFx) (And.intro @ZzC @ZN8)) (And.intro (And.intro @ZNZ @ZN2) (And.intro @ZK0 @ZLz))) (And.intro (And.intro (And.intro @ZQk @ZQP) (And.intro @ZSE @ZOD)) (And.intro (And.intro @ZG0 @ZCb) (And.intro @ZKg @ZIP)))) (And.intro (And.intro (And.intro (And.intro @ZIW @ZFj) (And.intro @ZEH @ZPE)) (And.intro (And.intro @ZB5 @ZCa) (And.intro @ZM6 @ZOT))) (And.intro (And.intro (And.intro @ZNu @ZOi) (And.intro @ZBQ @ZDj)) (And.intro (And.intro @ZBG @ZHG) (And.intro @ZLb @Zwo)))))) (And.intro (And.intro (And.intro (And.intro (And.intro @ZuV (And.intro @Zx3 @ZLf)) (And.intro (And.intro @Zu9 @Zxf) (And.intro @Zvd @ZxE))) (And.intro (And.intro (And.intro @ZM7 @Zu5) (And.intro @ZuD @ZOH)) (And.intro (And.intro @ZMW @ZLt) (And.intro @ZNI @ZxY)))) (And.intro (And.intro (And.intro (And.intro @ZuR @Zve) (And.intro @Zvn @ZuS)) (And.intro (And.intro @ZJq @ZJA) (And.intro @ZwL @ZuX))) (And.intro (And.intro (And.intro @Zwp @ZLT) (And.intro @ZJC @ZM2)) (And.intro (And.intro @ZO0 @ZPn) (And.intro @ZNe @ZNd))))) (And.intro (And.intro (And.intro (And.intro (And.intro @ZvI @Zyg) (And.intro @ZxR @Zyd)) (And.intro (And.intro @Zyo @ZNK) (And.intro @ZPq @ZNf))) (And.intro (And.intro (And.intro @ZJz @ZMF) (And.intro @Zyi @ZxK)) (And.intro (And.intro @Zye @ZOu) (And.intro @ZL9 @ZKe)))) (And.intro (And.intro (And.intro (And.intro @ZMK @ZKZ) (And.intro @ZKz @ZOJ)) (And.intro (And.intro @Zup @ZvC) (And.intro @Zyh @Zv8))) (And.intro (And.intro (And.intro @ZJH @ZJp) (And.intro @ZP3 @ZOq)) (And.intro (And.intro @ZTw @ZTg) (And.intro @ZQM @b_54))))))
end Go.AM.Ytfmnoohhhokicaa
end
noncomputable section
namespace Go.AM.Ytfmnoohhhokicaa
open Go Go.AM
variable {C : Callee} {B N : Nat} {E0 : AHeap} (φ : AFr) (H : AHeap) (s : St)
def Z66 := kBody Proofs.Try.f66
def ZpD := kL Z66
def Zbd := kO ZpD
def Zod := opN Zbd 0
theorem ZUp : XG 66 8 ZpD Zbd [2] := Z2 (by rfl) (by rfl) _
theorem ZzM : Zbd.toList = [Zod] := nf
theorem ZJj : stepA E C B 8 Zbd Zod (φ, H) = some (fput φ 2 (.nilsl), H) := nf
def Zau := kR Z66
def Za8 := kL Zau
def Zqc := kL Za8
def Z4A := kO Zqc
def ZnL := opN Z4A 0
def ZmB := opN Z4A 1
theorem ZRj : XG 66 8 Zqc Z4A [3] := Z2 (by rfl) (by rfl) _
theorem ZFD : Z4A.toList = [ZnL, ZmB] := nf
theorem ZA3 : stepA E C B 8 Z4A ZnL (φ, H) = some (fput φ 3 (fget φ 0), H) := nf
theorem ZAb : stepA E C B 8 Z4A ZmB (φ, H) = stp (some 4) φ H (just (aBin E.T .eql 22 (fget φ 3) (.nilsl))) := nf
def ZaT := kR Za8
def Z9P := kT ZaT
def Zpz := kL Z9P
def Z9E := kO Zpz
def ZhK := opN Z9E 0
theorem ZUq : XG 66 8 Zpz Z9E [0, 4] := Z2 (by rfl) (by rfl) _
theorem ZB0 : Z9E.toList = [ZhK] := nf
theorem ZIF : stepA E C B 8 Z9E ZhK (φ, H) = some (fput φ 2 (.nilsl), H) := nf
def Zz2 := kR Z9P
theorem ZPT : execA E C (fg 66) B 8 E0 N Zz2 s = some (.ret, s) := Zs (by rfl) s
theorem ZRY : XQ 66 8 Z9P Zpz Zz2 := Z0 (by rfl) _
def Zz3 := kE ZaT
theorem ZQ0 : execA E C (fg 66) B 8 E0 N Zz3 s = some (.normal, s) := Zp (by rfl) s
theorem ZSm : XC 66 8 ZaT 4 Z9P Zz3 := Zn (by rfl) _
theorem ZSQ : XQ 66 8 Za8 Zqc ZaT := Z0 (by rfl) _
def Z5E := kR Zau
def ZfD := kL Z5E
def Z1E := kO ZfD
def ZmW := opN Z1E 0
def Znr := opN Z1E 1
def Zhi := opN Z1E 2
def Zhp := opN Z1E 3
theorem ZME : XG 66 8 ZfD Z1E [0, 4, 5, 6, 7] := Z2 (by rfl) (by rfl) _
theorem ZFZ : Z1E.toList = [ZmW, Znr, Zhi, Zhp] := nf
theorem ZEf : stepA E C B 8 Z1E ZmW (φ, H) = stp (some 5) φ H (Z6 E.T (B + 5) 22 0 (evO E φ) []) := nf
theorem ZA1 : stepA E C B 8 Z1E Znr (φ, H) = some (fput φ 6 (fget φ 0), H) := nf
theorem ZFR : stepA E C B 8 Z1E Zhi (φ, H) = stp (some 7) φ H (Z1 E.T (B + 7) .append #[22, 22] [(fget φ 5), (fget φ 6)]) := nf
theorem ZCk : stepA E C B 8 Z1E Zhp (φ, H) = some (fput φ 2 (fget φ 7), H) := nf
def Zqw := kR Z5E
theorem ZLK : execA E C (fg 66) B 8 E0 N Zqw s = some (.ret, s) := Zs (by rfl) s
theorem ZPh : XQ 66 8 Z5E ZfD Zqw := Z0 (by rfl) _
theorem ZR7 : XQ 66 8 Zau Za8 Z5E := Z0 (by rfl) _
theorem ZPZ : XQ 66 8 Z66 ZpD Zau := Z0 (by rfl) _
theorem ZTT : fInfo E 66 = some ⟨8, #[.tmp 2], Z66⟩ := nf
theorem b_66 (args : List AV) : bodyA E C fg N 66 args H B = bodyX E [.tmp 2] (execA E C (fg 66) B 8 H N Z66 (Z3 args 0 [], H)) := Zw ZTT args H
abbrev F_66 := And.intro (And.intro (And.intro (And.intro @ZUp (And.intro @ZzM @ZJj)) (And.intro @ZRj (And.intro @ZFD @ZA3))) (And.intro (And.intro @ZAb (And.intro @ZUq @ZB0)) (And.intro (And.intro @ZIF @ZPT) (And.intro @ZRY @ZQ0)))) (And.intro (And.intro (And.intro @ZSm (And.intro @ZSQ @ZME)) (And.intro @ZFZ (And.intro @ZEf @ZA1))) (And.intro (And.intro @ZFR (And.intro @ZCk @ZLK)) (And.intro (And.intro @ZPh @ZR7) (And.intro @ZPZ @b_66))))
def Z7X := kBody Proofs.Try.f60
def Zqi := kL Z7X
def Zab := kO Zqi
def Ziv := opN Zab 0
theorem ZRr : XG 60 25 Zqi Zab [4] := Z2 (by rfl) (by rfl) _
theorem ZIh : Zab.toList = [Ziv] := nf
theorem ZCx : stepA E C B 25 Zab Ziv (φ, H) = some (fput φ 4 (.bool false), H) := nf
def Zaz := kR Z7X
def Zbl := kL Zaz
def ZoB := kL Zbl
def Z1F := kO ZoB
def Zhu := opN Z1F 0
def Zme := opN Z1F 1
def Zm4 := opN Z1F 2
def Zih := opN Z1F 3
theorem ZRe : XG 60 25 ZoB Z1F [6, 7, 8] := Z2 (by rfl) (by rfl) _
theorem ZBb : Z1F.toList = [Zhu, Zme, Zm4, Zih] := nf
theorem ZBJ : stepA E C B 25 Z1F Zhu (φ, H) = some (fput φ 6 (fget φ 0), H) := nf
theorem ZJi : stepA E C B 25 Z1F Zme (φ, H) = stp (some 7) φ H (Z1 E.T (B + 7) .len #[22] [(fget φ 6)]) := nf
theorem ZJ9 : stepA E C B 25 Z1F Zm4 (φ, H) = stp (some 8) φ H (just (aBin E.T .sub 3 (fget φ 7) (.int .i64 1))) := nf
theorem ZHf : stepA E C B 25 Z1F Zih (φ, H) = some (fput φ 5 (fget φ 8), H) := nf
def Zpn := kR Zbl
def ZoZ := kB Zpn
def Z76 := kB ZoZ
def Zbb := kL Z76
def Zpv := kL Zbb
def Z4l := kO Zpv
def Zkz := opN Z4l 0
def Zlr := opN Z4l 1
theorem ZUr : XG 60 25 Zpv Z4l [9] := Z2 (by rfl) (by rfl) _
theorem ZGy : Z4l.toList = [Zkz, Zlr] := nf
theorem ZIG : stepA E C B 25 Z4l Zkz (φ, H) = some (fput φ 9 (fget φ 5), H) := nf
theorem ZEl : stepA E C B 25 Z4l Zlr (φ, H) = stp (some 10) φ H (just (aBin E.T .gtr 3 (fget φ 9) (.int .i64 0))) := nf
def Z6E := kR Zbb
def ZtM := kT Z6E
theorem ZNY : execA E C (fg 60) B 25 E0 N ZtM s = some (.normal, s) := Zp (by rfl) s
def ZqD := kE Z6E
theorem ZLV : execA E C (fg 60) B 25 E0 N ZqD s = some (.exit 0, s) := Z07 (by rfl) s
theorem ZOR : XC 60 25 Z6E 10 ZtM ZqD := Zn (by rfl) _
theorem ZTi : XQ 60 25 Zbb Zpv Z6E := Z0 (by rfl) _
def Z7o := kR Z76
def ZeB := kL Z7o
def Z8h := kB ZeB
def ZgM := kL Z8h
def Zy := kO ZgM
def Zi1 := opN Zy 0
def ZiS := opN Zy 1
def Zhl := opN Zy 2
def Zi8 := opN Zy 3
def ZhE := opN Zy 4
def Zk6 := opN Zy 5
def ZjN := opN Zy 6
def ZjA := opN Zy 7
def Zk8 := opN Zy 8
def Zno := opN Zy 9
def Zfz := opN Zy 10
def Zgq := opN Zy 11
theorem ZLW : XD 60 25 ZgM Zy [10, 13, 14, 15, 16, 17, 18, 19, 20, 21, 22, 23] := Z1Z (by rfl) (by rfl) _
theorem ZAm : Zy.toList = [Zi1, ZiS, Zhl, Zi8, ZhE, Zk6, ZjN, ZjA, Zk8, Zno, Zfz, Zgq] := nf
theorem ZvB : statOk Zy = true := by kernel_rfl
theorem Zud : drawA E C B 25 Zy s = if neat 25 s = true then drX Zy (runT E C B 25 Zy Zy.toList 0 s) else none := Z1h ZvB s
theorem ZvH (l : List (Nat × Tr)) : dynOk Zy l = (!writing l || Zd [[], [], [], [1, 2], [1, 2, 3], [], [], [6], [5, 6, 7], [5, 6, 7, 8], [0, 1, 2, 3, 4, 5, 6, 7, 8, 9], [0, 1, 2, 3, 4, 5, 6, 7, 8, 9, 10]] (Zb l)) := Z0K (by kernel_rfl) l
theorem ZGe : stepT E C B 25 Zy Zi1 (φ, H) = some ((fput φ 13 (fget φ 1), H), ⟨false, [], []⟩) := Z5 rfl (Ze rfl rfl)
theorem ZHD : stepT E C B 25 Zy ZiS (φ, H) = some ((fput φ 14 (fget φ 0), H), ⟨false, [], []⟩) := Z5 rfl (Ze rfl rfl)
theorem ZGg : stepT E C B 25 Zy Zhl (φ, H) = some ((fput φ 15 (fget φ 5), H), ⟨false, [], []⟩) := Z5 rfl (Ze rfl rfl)
theorem ZHh : stepT E C B 25 Zy Zi8 (φ, H) = stpT (some 16) φ H (just (Z4 E.T 22 (fget φ 14) (fget φ 15))) := Z5 rfl (Zc rfl rfl)
theorem ZDO : stepT E C B 25 Zy ZhE (φ, H) = stpT (some 17) φ H (just (aLoad E.T 3 (fget φ 16))) := Z5 rfl (Zc rfl rfl)
theorem ZFk : stepT E C B 25 Zy Zk6 (φ, H) = some ((fput φ 18 (fget φ 0), H), ⟨false, [], []⟩) := Z5 rfl (Ze rfl rfl)
theorem ZFe : stepT E C B 25 Zy ZjN (φ, H) = some ((fput φ 19 (fget φ 5), H), ⟨false, [], []⟩) := Z5 rfl (Ze rfl rfl)
theorem ZDt : stepT E C B 25 Zy ZjA (φ, H) = stpT (some 20) φ H (just (aBin E.T .sub 3 (fget φ 19) (.int .i64 1))) := Z5 rfl (Zc rfl rfl)
theorem ZFU : stepT E C B 25 Zy Zk8 (φ, H) = stpT (some 21) φ H (just (Z4 E.T 22 (fget φ 18) (fget φ 20))) := Z5 rfl (Zc rfl rfl)
theorem ZGc : stepT E C B 25 Zy Zno (φ, H) = stpT (some 22) φ H (just (aLoad E.T 3 (fget φ 21))) := Z5 rfl (Zc rfl rfl)
theorem Zvw : stepT E C B 25 Zy Zfz (φ, H) = callVT E C (B + 25 * 8) (some 23) (fun j => B + j * 25 + 23) φ H (fget φ 13) [(fget φ 17), (fget φ 22)] true := Z5 rfl (Zoq rfl rfl)
theorem Zut : stepT E C B 25 Zy Zgq (φ, H) = stpT (some 24) φ H (just (aBin E.T .lss 3 (fget φ 23) (.int .i64 0))) := Z5 rfl (Zc rfl rfl)
def Z7p := kR Z8h
def Z6L := kT Z7p
def Zdg := kL Z6L
def Z9J := kO Zdg
def ZmJ := opN Z9J 0
theorem ZKu : XG 60 25 Zdg Z9J [0, 1, 5, 24] := Z2 (by rfl) (by rfl) _
theorem ZAQ : Z9J.toList = [ZmJ] := nf
theorem ZIL : stepA E C B 25 Z9J ZmJ (φ, H) = some (fput φ 4 (.bool false), H) := nf
def ZqV := kR Z6L
theorem ZMj : execA E C (fg 60) B 25 E0 N ZqV s = some (.ret, s) := Zs (by rfl) s
theorem ZNn : XQ 60 25 Z6L Zdg ZqV := Z0 (by rfl) _
def ZsU := kE Z7p
theorem ZN3 : execA E C (fg 60) B 25 E0 N ZsU s = some (.normal, s) := Zp (by rfl) s
theorem ZN7 : XC 60 25 Z7p 24 Z6L ZsU := Zn (by rfl) _
theorem ZLy : XQ 60 25 Z8h ZgM Z7p := Z0 (by rfl) _
theorem ZJP : execA E C (fg 60) B 25 E0 N ZeB s = blockX 1 (fun s => (forget s.1 [24], s.2)) (execA E C (fg 60) B 25 E0 N Z8h s) := Zk (by rfl) (by rfl) s
def ZdM := kR Z7o
def Z2M := kO ZdM
def Znu := opN Z2M 0
def Zn6 := opN Z2M 1
def Zmu := opN Z2M 2
theorem ZLi : XG 60 25 ZdM Z2M [11, 12] := Z2 (by rfl) (by rfl) _
theorem ZBh : Z2M.toList = [Znu, Zn6, Zmu] := nf
theorem ZzG : stepA E C B 25 Z2M Znu (φ, H) = some (fput φ 11 (fget φ 5), H) := nf
theorem ZFh : stepA E C B 25 Z2M Zn6 (φ, H) = stp (some 12) φ H (just (aBin E.T .sub 3 (fget φ 11) (.int .i64 1))) := nf
theorem ZIQ : stepA E C B 25 Z2M Zmu (φ, H) = some (fput φ 5 (fget φ 12), H) := nf
theorem ZKO : XQ 60 25 Z7o ZeB ZdM := Z0 (by rfl) _
theorem ZTf : XQ 60 25 Z76 Zbb Z7o := Z0 (by rfl) _
theorem ZQN : execA E C (fg 60) B 25 E0 N ZoZ s = iterA (execA E C (fg 60) B 25 E0 N Z76) (headA E0) N s := Z0a (by rfl) s
theorem ZSS : execA E C (fg 60) B 25 E0 N Zpn s = blockX 0 (fun s => (forget s.1 [0, 1, 5, 10], s.2)) (execA E C (fg 60) B 25 E0 N ZoZ s) := Zk (by rfl) (by rfl) s
theorem ZU4 : XQ 60 25 Zbl ZoB Zpn := Z0 (by rfl) _
def Z7h := kR Zaz
def ZcJ := kL Z7h
def ZaS := kO ZcJ
def Zjd := opN ZaS 0
theorem ZNc : XG 60 25 ZcJ ZaS [] := Z2 (by rfl) (by rfl) _
theorem ZFp : ZaS.toList = [Zjd] := nf
theorem ZAn : stepA E C B 25 ZaS Zjd (φ, H) = some (fput φ 4 (.bool true), H) := nf
def ZqS := kR Z7h
theorem ZJF : execA E C (fg 60) B 25 E0 N ZqS s = some (.ret, s) := Zs (by rfl) s
theorem ZJJ : XQ 60 25 Z7h ZcJ ZqS := Z0 (by rfl) _
theorem ZRz : XQ 60 25 Zaz Zbl Z7h := Z0 (by rfl) _
theorem ZRQ : XQ 60 25 Z7X Zqi Zaz := Z0 (by rfl) _
theorem ZUa : fInfo E 60 = some ⟨25, #[.tmp 4], Z7X⟩ := nf
theorem b_60 (args : List AV) : bodyA E C fg N 60 args H B = bodyX E [.tmp 4] (execA E C (fg 60) B 25 H N Z7X (Z3 args 0 [], H)) := Zw ZUa args H
abbrev F_60 := And.intro (And.intro (And.intro (And.intro (And.intro @ZRr (And.intro @ZIh @ZCx)) (And.intro (And.intro @ZRe @ZBb) (And.intro @ZBJ @ZJi))) (And.intro (And.intro (And.intro @ZJ9 @ZHf) (And.intro @ZUr @ZGy)) (And.intro (And.intro @ZIG @ZEl) (And.intro @ZNY @ZLV)))) (And.intro (And.intro (And.intro @ZOR (And.intro @ZTi @ZLW)) (And.intro (And.intro @ZAm @Zud) (And.intro @ZvH @ZGe))) (And.intro (And.intro (And.intro @ZHD @ZGg) (And.intro @ZHh @ZDO)) (And.intro (And.intro @ZFk @ZFe) (And.intro @ZDt @ZFU))))) (And.intro (And.intro (And.intro (And.intro @ZGc (And.intro @Zvw @Zut)) (And.intro (And.intro @ZKu @ZAQ) (And.intro @ZIL @ZMj))) (And.intro (And.intro (And.intro @ZNn @ZN3) (And.intro @ZN7 @ZLy)) (And.intro (And.intro @ZJP @ZLi) (And.intro @ZBh @ZzG)))) (And.intro (And.intro (And.intro @ZFh (And.intro @ZIQ @ZKO)) (And.intro (And.intro @ZTf @ZQN) (And.intro @ZSS @ZU4))) (And.intro (And.intro (And.intro @ZNc @ZFp) (And.intro @ZAn @ZJF)) (And.intro (And.intro @ZJJ @ZRz) (And.intro @ZRQ @b_60)))))
end Go.AM.Ytfmnoohhhokicaa
end
noncomputable section
namespace Go.AM.Ytfmnoohhhokicaa
open Go Go.AM
variable {C : Callee} {B N : Nat} {E0 : AHeap} (φ : AFr) (H : AHeap) (s : St)
def Z5F := kBody Proofs.Try.f61
def ZpC := kL Z5F
def ZaU := kO ZpC
def ZhJ := opN ZaU 0
theorem ZT8 : XG 61 8 ZpC ZaU [4] := Z2 (by rfl) (by rfl) _
theorem ZGD : ZaU.toList = [ZhJ] := nf
theorem ZCs : stepA E C B 8 ZaU ZhJ (φ, H) = some (fput φ 4 (.int .i64 0), H) := nf
def Zba := kR Z5F
def Zpe := kL Zba
def Z1L := kO Zpe
def Zo2 := opN Z1L 0
def ZhI := opN Z1L 1
def Zo8 := opN Z1L 2
def Zjc := opN Z1L 3
theorem ZSa : XG 61 8 Zpe Z1L [0, 1, 5, 6, 7] := Z2 (by rfl) (by rfl) _
theorem ZFB : Z1L.toList = [Zo2, ZhI, Zo8, Zjc] := nf
theorem ZJn : stepA E C B 8 Z1L Zo2 (φ, H) = some (fput φ 5 (fget φ 1), H) := nf
theorem ZEn : stepA E C B 8 Z1L ZhI (φ, H) = some (fput φ 6 (fget φ 0), H) := nf
theorem ZIc : stepA E C B 8 Z1L Zo8 (φ, H) = stp (some 7) φ H (just (aBin E.T .sub 3 (fget φ 5) (fget φ 6))) := nf
theorem ZFK : stepA E C B 8 Z1L Zjc (φ, H) = some (fput φ 4 (fget φ 7), H) := nf
def Zz7 := kR Zba
theorem ZQl : execA E C (fg 61) B 8 E0 N Zz7 s = some (.ret, s) := Zs (by rfl) s
theorem ZUh : XQ 61 8 Zba Zpe Zz7 := Z0 (by rfl) _
theorem ZU1 : XQ 61 8 Z5F ZpC Zba := Z0 (by rfl) _
theorem ZyS : fInfo E 61 = some ⟨8, #[.tmp 4], Z5F⟩ := nf
theorem b_61 (args : List AV) : bodyA E C fg N 61 args H B = bodyX E [.tmp 4] (execA E C (fg 61) B 8 H N Z5F (Z3 args 0 [], H)) := Zw ZyS args H
abbrev F_61 := And.intro (And.intro (And.intro @ZT8 (And.intro @ZGD @ZCs)) (And.intro @ZSa (And.intro @ZFB @ZJn))) (And.intro (And.intro @ZEn (And.intro @ZIc @ZFK)) (And.intro (And.intro @ZQl @ZUh) (And.intro @ZU1 @b_61)))
end Go.AM.Ytfmnoohhhokicaa
end
noncomputable section
namespace Go.AM.Ytfmnoohhhokicaa
open Go Go.AM Go.AM.Rub
abbrev flS (k : Nat) (n : Int) (i : Nat) : St := ([(7, .int .i64 ((k - i : Nat) : Int)), (6, oV 35 1 i), (5, .int .i64 (flM k n i))], oH 35 (ics (flL k n i)))
theorem ZUm {C : Callee} {k : Nat} {n : Int} (h6 : k ≤ 6) (i : Nat) (hi : i < k) (hb : 0 ≤ flM k n i ∧ flM k n i ≤ 100) :
   ∃ s', (execA E C (fg 42) 0 40 [] 1000000 Z3k) (flS k n i) = some (.normal, s') ∧ headA [] s' = flS k n (i + 1) := by
 have e1 : flM k n (i + 1) = flM k n i - flT k n i := rfl
 have e2 := Zxx k n i
 have g1 : ((k - i : Nat) : Int) > 0 := by omega
 have g2 : ¬ ((k - i : Nat) : Int) = 0 := by omega
 have w1 : wrp .i64 (flM k n i + ((k - i : Nat) : Int)) = flM k n i + ((k - i : Nat) : Int) := Z9 (by omega)
 have w2 : wrp .i64 (flM k n i + ((k - i : Nat) : Int) - 1) = flM k n i + ((k - i : Nat) : Int) - 1 := Z9 (by omega)
 have hq : 0 ≤ flT k n i ∧ flT k n i ≤ 200 := by
   unfold flT
   have h1 := Int.tdiv_nonneg (a := flM k n i + ((k - i : Nat) : Int) - 1) (b := ((k - i : Nat) : Int)) (by omega) (by omega)
   have h2 : (flM k n i + ((k - i : Nat) : Int) - 1).tdiv ((k - i : Nat) : Int) ≤ flM k n i + ((k - i : Nat) : Int) - 1 := by
     rw [Int.tdiv_eq_ediv_of_nonneg (by omega)]
     exact Int.ediv_le_self _ (by omega)
   omega
 have w3 : wrp .i64 ((flM k n i + ((k - i : Nat) : Int) - 1).tdiv ((k - i : Nat) : Int)) = flT k n i := Z9 (by unfold flT at hq; omega)
 have w4 : wrp .i64 (flM k n i - flT k n i) = flM k n i - flT k n i := Z9 (by omega)
 have w5 : wrp .i64 (((k - i : Nat) : Int) - 1) = ((k - (i + 1) : Nat) : Int) := by rw [Z9 (by omega)]; omega
 have hsn := Z1b (flL k n i) (flT k n i)
 have hl : (ics (flL k n i)).length = i := by rw [Z7, Z1z]
 have htk : List.take i (ics (flL k n i)) = ics (flL k n i) := List.take_of_length_le (by omega)
 have hno : ¬ i + 1 ≤ i := by omega
 have o1 : oV 35 1 (i + 1) = .ref 35 0 (i + 1) (i + 1) (i + 1) 1 false := ZR (by omega)
 have o2 : oH 35 (ics (flL k n (i + 1))) = [(35, ⟨.row, ics (flL k n (i + 1))⟩)] := Z8y (by rw [Z1z]; omega)
 simp only [flS]
 rw [o1, o2, e1, e2, ← hsn]
 generalize flT k n i = q at *
 generalize flM k n i = M at *
 by_cases h0 : i = 0
 · subst h0
   have z1 : oV 35 1 0 = .nilsl := rfl
   have z2 : oH 35 (ics (flL k n 0)) = [] := rfl
   have z3 : ics (flL k n 0) = [] := rfl
   rw [z1, z2, z3]
   simp only [List.nil_append, Nat.zero_add, Nat.sub_zero] at *
   simp (disch := omega) only [ZF, stp, just, Rd.bind, Rd.run, Rd.opt, upds, acells, zeroCells, tsz, elemT, fresh, Z1, aBin, aInt, putC, evO, Nat.reduceAdd, Nat.reduceLT, Nat.reduceBEq, Nat.reduceEqDiff, Nat.reduceLeDiff, ↓reduceIte, reduceCtorEq, Z6, Zg, partsOf, fillA, repC, Zh, aAppend, srcOf, window, snaps, ZT, F_42, g1, g2, w1, w2, w3, w4, w5, Z01 (show 1 ≤ 1000000 by omega)]
   exact ⟨_, rfl, rfl⟩
 · have o3 : oV 35 1 i = .ref 35 0 i i i 1 false := ZR (by omega)
   have o4 : oH 35 (ics (flL k n i)) = [(35, ⟨.row, ics (flL k n i)⟩)] := Z8y (by rw [Z1z]; omega)
   rw [o3, o4]
   generalize ics (flL k n i) = A at *
   simp (disch := omega) only [ZF, stp, just, Rd.bind, Rd.run, Rd.opt, upds, acells, zeroCells, tsz, elemT, fresh, Z1, aBin, aInt, putC, evO, Nat.reduceAdd, Nat.reduceLT, Nat.reduceBEq, Nat.reduceEqDiff, Nat.reduceLeDiff, ↓reduceIte, reduceCtorEq, Z6, Zg, partsOf, fillA, repC, Zh, aAppend, srcOf, window, snaps, ZT, F_42, hl, htk, hno, g1, g2, w1, w2, w3, w4, w5, Z01 (show i + 1 ≤ 1000000 by omega)]
   exact ⟨_, rfl, rfl⟩
def flatL (l : List Int) : List Int := flL l.length (ps (rowF l) l.length) l.length
theorem Zw1 {d : Nat} {l : List Int} {a : AV} (ha : IV l a) (hl : l.length ≤ 1000) :
   (chkR l ≠ 0 ∧ ∃ H, bodyA E (kF (d + 2)) fg 1000000 42 [a] [] 0 = some (.tup [.nilsl, .int .i64 (chkR l)], H)) ∨
   (chkR l = 0 ∧ ∃ H, bodyA E (kF (d + 2)) fg 1000000 42 [a] [] 0 = some (.tup [.ref 35 0 l.length l.length l.length 1 false, .int .i64 0], H) ∧ hget H 35 = some ⟨.row, ics (flatL l)⟩) := by
 have hc := fun (site : Nat → Nat) seen => Z3t (d := d + 1) (site := site) (seen := seen) ha hl
 have sn := Z8v ha
 by_cases h0 : chkR l = 0
 · obtain ⟨hp, h6, hr⟩ := Z1Q.1 h0
   refine .inr ⟨h0, ?_⟩
   obtain ⟨ex, rfl⟩ := Z67 ha hp
   have hri := fun (site : Nat → Nat) seen x => Z3E (d := d + 1) (site := site) (seen := seen) (Z3V l x) hr (by omega)
   have hb := ps_b hr l.length (Nat.le_refl _)
   have t1 : (ics (riL l))[l.length]? = some (.int .i64 (ps (rowF l) l.length)) := Z3U (Z6I (Nat.le_refl _))
   have lr := Zri l
   rw [h0] at hc
   unfold flatL
   have hll := Z7 l
   generalize hS : ps (rowF l) l.length = S at *
   generalize hkk : l.length = k at *
   obtain ⟨N, rfl⟩ : ∃ N : Nat, S = N := ⟨S.toNat, by omega⟩
   obtain ⟨f1, _, _, _⟩ := ZnY (k := k) (n := N) hp h6 (by omega)
   have hloop := loopMS (f := execA E (kF (d + 2)) (fg 42) 0 40 [] 1000000 Z3k) (E0 := []) (s0 := ([(7, .int .i64 k), (6, .nilsl), (5, .int .i64 N)], [(15, ⟨.row, ics (riL l)⟩)])) (flS k N) k (fun i hi => ZUm h6 i hi (f1 i hi)) rfl (by omega)
     (e := .exit 0) (se := ([(23, .bool false), (7, .int .i64 0), (6, .ref 35 0 k k k 1 false), (5, .int .i64 (flM k N k))], [(35, ⟨.row, ics (flL k N k)⟩)]))
     (by
       have o3 : oV 35 1 k = .ref 35 0 k k k 1 false := ZR (by omega)
       have o4 : oH 35 (ics (flL k N k)) = [(35, ⟨.row, ics (flL k N k)⟩)] := Z8y (by rw [Z1z]; omega)
       simp only [flS, o3, o4, Nat.sub_self, cl0]
       generalize kF (d + 2) = C at *
       simp (disch := omega) only [ZF, stp, just, Rd.bind, Rd.run, Rd.opt, upds, aBin, aInt, Nat.reduceBEq, Nat.reduceEqDiff, Nat.reduceLeDiff, ↓reduceIte, F_42]) (by simp)
   have g4 : (k : Int) < ((k + 1 : Nat) : Int) := by omega
   generalize kF (d + 2) = C at *
   simp (disch := omega) only [ZF, Z3, stp, just, Rd.bind, Rd.run, Rd.opt, upds, tsz, rdCells, aLoad, resA, resL, Z4, aNum, aLen, Z1, aBin, aInt, Nat.reduceLT, Nat.reduceBEq, Nat.reduceEqDiff, Nat.reduceLeDiff, ↓reduceIte, reduceCtorEq, aCall, snaps, ZT, F_42, hc, hri, t1, lr, g4, hloop]
   exact ⟨_, rfl, rfl⟩
 · refine .inl ⟨h0, ?_⟩
   generalize kF (d + 2) = C at *
   generalize chkR l = z at *
   have h0' : (z == 0) = false := by rw [beq_eq_false_iff_ne]; exact h0
   simp (disch := omega) only [ZF, Z3, stp, just, Rd.bind, Rd.run, Rd.opt, upds, resA, resL, aBin, aInt, Nat.reduceBEq, Nat.reduceEqDiff, Nat.reduceLeDiff, ↓reduceIte, reduceCtorEq, aCall, snaps, F_42, hc, h0, sn 198]
   exact ⟨_, rfl⟩
theorem ZsK (l : List Int) : (flatL l).length = l.length := Z1z _ _ _
theorem ZH6 {d : Nat} {l : List Int} {a : AV} (ha : IV l a) (hl : l.length ≤ 1000) : RL (kF (d + 3)) 42 [a] (chkR l) (flatL l) := by
 refine ZSy (n := l.length) ?_ (ZsK l)
 rcases Zw1 (d := d) ha hl with ⟨h, H, h1⟩ | ⟨h, H, h1, h2⟩
 · exact .inl ⟨h, H, by rw [Z15 rfl]; exact h1⟩
 · exact .inr ⟨h, 35, H, by rw [Z15 rfl]; exact h1, h2⟩
theorem ZOV (caps args : List AV) : mutV E (.clo 61 caps) args = none := rfl
theorem ZH0 {d : Nat} {site : Nat → Nat} {seen : List Nat} {u v : Int} (h : -1000 ≤ u ∧ u ≤ 1000 ∧ -1000 ≤ v ∧ v ≤ 1000) : aBack site true seen (thaw (kF (d + 1)) 61 [.int .i64 u, .int .i64 v] [] 0) = .pure (.int .i64 (v - u), []) := by
 refine Z44 (Z2F rfl ?_)
 have w : wrp .i64 (v - u) = v - u := Z9 (by omega)
 generalize kF d = C at *
 simp (disch := omega) only [ZF, Z3, stp, just, Rd.bind, Rd.run, Rd.opt, upds, resA, resL, aBin, aInt, Nat.reduceBEq, Nat.reduceEqDiff, Nat.reduceLeDiff, ↓reduceIte, reduceCtorEq, F_61, w]
abbrev soS (l : List Int) (n : Nat) (x : Bool) (i : Nat) : St := ([(5, .int .i64 ((n - 1 - i : Nat) : Int)), (1, .clo 61 []), (0, .imm (ics l) n x)], [])
theorem Zf7 {d : Nat} {l : List Int} {n : Nat} {x : Bool} (h : Rw n l) (h0 : 0 < n) (h6 : n ≤ 8) : rsOf (bodyA E (kF (d + 1)) fg 1000000 60 [.imm (ics l) n x, .clo 61 []] [] 0) = some (.bool true) := by
 have hlen : (ics l).length = n := by rw [Z7, h.len]
 have hloop := loopM (f := execA E (kF (d + 1)) (fg 60) 0 25 [] 1000000 Z76) (E0 := []) (soS l n x) (n - 1) (fun i hi => by
     obtain ⟨j, hj⟩ : ∃ j, n - 1 - i = j + 1 := ⟨n - 1 - i - 1, by omega⟩
     have hj2 : n - 1 - (i + 1) = j := by omega
     have a1 := Z02 (l := l) (k := j + 1) (by rw [h.len]; omega)
     have a2 := Z02 (l := l) (k := j) (by rw [h.len]; omega)
     have b1 := rw_b h (k := j + 1) (by omega)
     have b2 := rw_b h (k := j) (by omega)
     have hd := Z0v h.row j (by rw [h.len]; omega)
     have hcl := fun (site : Nat → Nat) seen => ZH0 (d := d) (site := site) (seen := seen) (u := rowF l (j + 1)) (v := rowF l j) (by omega)
     simp only [soS, hj, hj2]
     have w : wrp .i64 (((j + 1 : Nat) : Int) - 1) = (j : Int) := by rw [Z9 (by omega)]; omega
     have g1 : ((j + 1 : Nat) : Int) > 0 := by omega
     have g2 : ((j + 1 : Nat) : Int) < n := by omega
     have g3 : (j : Int) < n := by omega
     generalize rowF l (j + 1) = u at *
     generalize rowF l j = v at *
     have g4 : ¬ v - u < 0 := by omega
     generalize kF (d + 1) = C at *
     simp (disch := omega) only [ZF, stp, just, Rd.bind, Rd.run, Rd.opt, upds, tsz, rdCells, aLoad, Z4, aNum, aBin, aInt, Nat.reduceAdd, Nat.reduceMul, Nat.reduceLT, Nat.reduceBEq, Nat.reduceEqDiff, Nat.reduceLeDiff, ↓reduceIte, reduceCtorEq, stpT, Rd.foot, writing, Zb, Tr.empty, Zd, aCall, snaps, opCallV, ZT, F_60, hlen, Zqt (ZOV _ _), ZyS, a1, a2, hcl, w, g1, g2, g3, g4]
     exact ⟨_, rfl, rfl⟩) rfl (by omega)
   (e := .exit 0) (se := ([(10, .bool false), (5, .int .i64 0), (1, .clo 61 []), (0, .imm (ics l) n x)], []))
   (by
     simp only [soS, Nat.sub_self, cl0]
     generalize kF (d + 1) = C at *
     simp (disch := omega) only [ZF, stp, just, Rd.bind, Rd.run, Rd.opt, upds, aBin, aInt, Nat.reduceBEq, Nat.reduceEqDiff, Nat.reduceLeDiff, ↓reduceIte, F_60]) (by simp)
 have w : wrp .i64 ((n : Int) - 1) = ((n - 1 : Nat) : Int) := by rw [Z9 (by omega)]; omega
 simp only [soS, Nat.sub_zero] at hloop
 generalize kF (d + 1) = C at *
 simp (disch := omega) only [ZF, Z3, stp, just, Rd.bind, Rd.run, Rd.opt, upds, resA, resL, aLen, Z1, aBin, aInt, Nat.reduceBEq, Nat.reduceEqDiff, Nat.reduceLeDiff, ↓reduceIte, reduceCtorEq, ZT, F_60, w, hloop]
theorem Z9w {d : Nat} {site : Nat → Nat} {seen : List Nat} {l : List Int} {n : Nat} {x : Bool} (h : Rw n l) (h0 : 0 < n) (h6 : n ≤ 8) : aBack site true seen (thaw (kF (d + 2)) 60 [.imm (ics l) n x, .clo 61 []] [] 0) = .pure (.bool true, []) :=
 Z1p (Z2F rfl (Zf7 h h0 h6))
end Go.AM.Ytfmnoohhhokicaa
end
noncomputable section
namespace Go.AM.Ytfmnoohhhokicaa
open Go Go.AM
variable {C : Callee} {B N : Nat} {E0 : AHeap} (φ : AFr) (H : AHeap) (s : St)
def Z6G := kBody Proofs.Try.f24
def Zps := kL Z6G
def Zaa := kO Zps
def Zn7 := opN Zaa 0
theorem ZSA : XG 24 26 Zps Zaa [4] := Z2 (by rfl) (by rfl) _
theorem ZDk : Zaa.toList = [Zn7] := nf
theorem ZGi : stepA E C B 26 Zaa Zn7 (φ, H) = some (fput φ 4 (.bool false), H) := nf
def Z9C := kR Z6G
def Zbj := kL Z9C
def Zpq := kL Zbj
def Z14 := kO Zpq
def Zn9 := opN Z14 0
def ZiI := opN Z14 1
def Zlo := opN Z14 2
def Zix := opN Z14 3
def Zmd := opN Z14 4
theorem ZSK : XG 24 26 Zpq Z14 [6, 7, 8, 9] := Z2 (by rfl) (by rfl) _
theorem ZBz : Z14.toList = [Zn9, ZiI, Zlo, Zix, Zmd] := nf
theorem ZCX : stepA E C B 26 Z14 Zn9 (φ, H) = some (fput φ 6 (fget φ 0), H) := nf
theorem ZHU : stepA E C B 26 Z14 ZiI (φ, H) = stp (some 7) φ H (Z1 E.T (B + 7) .len #[22] [(fget φ 6)]) := nf
theorem ZBP : stepA E C B 26 Z14 Zlo (φ, H) = some (fput φ 8 (fget φ 1), H) := nf
theorem ZIi : stepA E C B 26 Z14 Zix (φ, H) = stp (some 9) φ H (Z1 E.T (B + 9) .len #[22] [(fget φ 8)]) := nf
theorem ZFz : stepA E C B 26 Z14 Zmd (φ, H) = stp (some 10) φ H (just (aBin E.T .neq 3 (fget φ 7) (fget φ 9))) := nf
def Z9G := kR Zbj
def Zbt := kT Z9G
def Zq7 := kL Zbt
def ZaQ := kO Zq7
def Zhn := opN ZaQ 0
theorem ZTk : XG 24 26 Zq7 ZaQ [0, 1, 10] := Z2 (by rfl) (by rfl) _
theorem ZFs : ZaQ.toList = [Zhn] := nf
theorem ZHu : stepA E C B 26 ZaQ Zhn (φ, H) = some (fput φ 4 (.bool false), H) := nf
def Zzg := kR Zbt
theorem ZU2 : execA E C (fg 24) B 26 E0 N Zzg s = some (.ret, s) := Zs (by rfl) s
theorem ZQK : XQ 24 26 Zbt Zq7 Zzg := Z0 (by rfl) _
def ZyY := kE Z9G
theorem ZSL : execA E C (fg 24) B 26 E0 N ZyY s = some (.normal, s) := Zp (by rfl) s
theorem ZRm : XC 24 26 Z9G 10 Zbt ZyY := Zn (by rfl) _
theorem ZRi : XQ 24 26 Zbj Zpq Z9G := Z0 (by rfl) _
def Z7T := kR Z9C
def Z6T := kL Z7T
def Zfs := kL Z6T
def Z9W := kO Zfs
def ZkM := opN Z9W 0
theorem ZLG : XG 24 26 Zfs Z9W [10] := Z2 (by rfl) (by rfl) _
theorem ZHo : Z9W.toList = [ZkM] := nf
theorem ZA6 : stepA E C B 26 Z9W ZkM (φ, H) = some (fput φ 5 (.int .i64 0), H) := nf
def ZdQ := kR Z6T
def Zgy := kB ZdQ
def Z3o := kB Zgy
def Z79 := kL Z3o
def ZfP := kL Z79
def Z1D := kO ZfP
def Zkn := opN Z1D 0
def ZnN := opN Z1D 1
def Zm0 := opN Z1D 2
def Zm9 := opN Z1D 3
theorem ZJr : XG 24 26 ZfP Z1D [11, 12, 13] := Z2 (by rfl) (by rfl) _
theorem ZCy : Z1D.toList = [Zkn, ZnN, Zm0, Zm9] := nf
theorem ZAw : stepA E C B 26 Z1D Zkn (φ, H) = some (fput φ 11 (fget φ 5), H) := nf
theorem ZAH : stepA E C B 26 Z1D ZnN (φ, H) = some (fput φ 12 (fget φ 0), H) := nf
theorem ZG4 : stepA E C B 26 Z1D Zm0 (φ, H) = stp (some 13) φ H (Z1 E.T (B + 13) .len #[22] [(fget φ 12)]) := nf
theorem ZBs : stepA E C B 26 Z1D Zm9 (φ, H) = stp (some 14) φ H (just (aBin E.T .lss 3 (fget φ 11) (fget φ 13))) := nf
def Z77 := kR Z79
def Zt0 := kT Z77
theorem ZMU : execA E C (fg 24) B 26 E0 N Zt0 s = some (.normal, s) := Zp (by rfl) s
def Ztm := kE Z77
theorem ZMn : execA E C (fg 24) B 26 E0 N Ztm s = some (.exit 0, s) := Z07 (by rfl) s
theorem ZMA : XC 24 26 Z77 14 Zt0 Ztm := Zn (by rfl) _
theorem ZJR : XQ 24 26 Z79 ZfP Z77 := Z0 (by rfl) _
def Z74 := kR Z3o
def ZdE := kL Z74
def Z5O := kB ZdE
def ZdX := kL Z5O
def ZJ := kO ZdX
def ZlT := opN ZJ 0
def ZjW := opN ZJ 1
def ZhU := opN ZJ 2
def ZnU := opN ZJ 3
def ZnZ := opN ZJ 4
def ZiJ := opN ZJ 5
def Zks := opN ZJ 6
def ZjL := opN ZJ 7
def ZlN := opN ZJ 8
theorem ZL8 : XD 24 26 ZdX ZJ [14, 17, 18, 19, 20, 21, 22, 23, 24] := Z1Z (by rfl) (by rfl) _
theorem ZCS : ZJ.toList = [ZlT, ZjW, ZhU, ZnU, ZnZ, ZiJ, Zks, ZjL, ZlN] := nf
theorem Zwd : statOk ZJ = true := by kernel_rfl
theorem Zvx : drawA E C B 26 ZJ s = if neat 26 s = true then drX ZJ (runT E C B 26 ZJ ZJ.toList 0 s) else none := Z1h Zwd s
theorem Zy0 (l : List (Nat × Tr)) : dynOk ZJ l = (!writing l || Zd [[], [], [0, 1], [0, 1, 2], [], [], [4, 5], [4, 5, 6], [0, 1, 2, 3, 4, 5, 6, 7]] (Zb l)) := Z0K (by kernel_rfl) l
theorem ZGC : stepT E C B 26 ZJ ZlT (φ, H) = some ((fput φ 17 (fget φ 0), H), ⟨false, [], []⟩) := Z5 rfl (Ze rfl rfl)
theorem ZDo : stepT E C B 26 ZJ ZjW (φ, H) = some ((fput φ 18 (fget φ 5), H), ⟨false, [], []⟩) := Z5 rfl (Ze rfl rfl)
theorem ZCi : stepT E C B 26 ZJ ZhU (φ, H) = stpT (some 19) φ H (just (Z4 E.T 22 (fget φ 17) (fget φ 18))) := Z5 rfl (Zc rfl rfl)
theorem ZAe : stepT E C B 26 ZJ ZnU (φ, H) = stpT (some 20) φ H (just (aLoad E.T 3 (fget φ 19))) := Z5 rfl (Zc rfl rfl)
theorem ZIM : stepT E C B 26 ZJ ZnZ (φ, H) = some ((fput φ 21 (fget φ 1), H), ⟨false, [], []⟩) := Z5 rfl (Ze rfl rfl)
theorem ZGp : stepT E C B 26 ZJ ZiJ (φ, H) = some ((fput φ 22 (fget φ 5), H), ⟨false, [], []⟩) := Z5 rfl (Ze rfl rfl)
theorem ZB1 : stepT E C B 26 ZJ Zks (φ, H) = stpT (some 23) φ H (just (Z4 E.T 22 (fget φ 21) (fget φ 22))) := Z5 rfl (Zc rfl rfl)
theorem ZIb : stepT E C B 26 ZJ ZjL (φ, H) = stpT (some 24) φ H (just (aLoad E.T 3 (fget φ 23))) := Z5 rfl (Zc rfl rfl)
theorem ZzJ : stepT E C B 26 ZJ ZlN (φ, H) = stpT (some 25) φ H (just (aBin E.T .neq 3 (fget φ 20) (fget φ 24))) := Z5 rfl (Zc rfl rfl)
def Z8b := kR Z5O
def Z6D := kT Z8b
def Zed := kL Z6D
def Zbz := kO Zed
def Zne := opN Zbz 0
theorem ZNg : XG 24 26 Zed Zbz [0, 1, 5, 25] := Z2 (by rfl) (by rfl) _
theorem ZAP : Zbz.toList = [Zne] := nf
theorem ZCn : stepA E C B 26 Zbz Zne (φ, H) = some (fput φ 4 (.bool false), H) := nf
def ZtD := kR Z6D
theorem ZMP : execA E C (fg 24) B 26 E0 N ZtD s = some (.ret, s) := Zs (by rfl) s
theorem ZPa : XQ 24 26 Z6D Zed ZtD := Z0 (by rfl) _
def Zth := kE Z8b
theorem ZL3 : execA E C (fg 24) B 26 E0 N Zth s = some (.normal, s) := Zp (by rfl) s
theorem ZNj : XC 24 26 Z8b 25 Z6D Zth := Zn (by rfl) _
theorem ZJL : XQ 24 26 Z5O ZdX Z8b := Z0 (by rfl) _
theorem ZLM : execA E C (fg 24) B 26 E0 N ZdE s = blockX 1 (fun s => (forget s.1 [25], s.2)) (execA E C (fg 24) B 26 E0 N Z5O s) := Zk (by rfl) (by rfl) s
def Zej := kR Z74
def Z2Z := kO Zej
def ZnV := opN Z2Z 0
def ZhV := opN Z2Z 1
def Znh := opN Z2Z 2
theorem ZPp : XG 24 26 Zej Z2Z [15, 16] := Z2 (by rfl) (by rfl) _
theorem ZHV : Z2Z.toList = [ZnV, ZhV, Znh] := nf
theorem ZIk : stepA E C B 26 Z2Z ZnV (φ, H) = some (fput φ 15 (fget φ 5), H) := nf
theorem ZAa : stepA E C B 26 Z2Z ZhV (φ, H) = stp (some 16) φ H (just (aBin E.T .add 3 (fget φ 15) (.int .i64 1))) := nf
theorem ZAl : stepA E C B 26 Z2Z Znh (φ, H) = some (fput φ 5 (fget φ 16), H) := nf
theorem ZPd : XQ 24 26 Z74 ZdE Zej := Z0 (by rfl) _
theorem ZMX : XQ 24 26 Z3o Z79 Z74 := Z0 (by rfl) _
theorem ZKY : execA E C (fg 24) B 26 E0 N Zgy s = iterA (execA E C (fg 24) B 26 E0 N Z3o) (headA E0) N s := Z0a (by rfl) s
theorem ZPv : execA E C (fg 24) B 26 E0 N ZdQ s = blockX 0 (fun s => (forget s.1 [0, 1, 5, 14], s.2)) (execA E C (fg 24) B 26 E0 N Zgy s) := Zk (by rfl) (by rfl) s
theorem ZKS : XQ 24 26 Z6T Zfs ZdQ := Z0 (by rfl) _
def Z8l := kR Z7T
def Zel := kL Z8l
def Zb7 := kO Zel
def Zj1 := opN Zb7 0
theorem ZLY : XG 24 26 Zel Zb7 [] := Z2 (by rfl) (by rfl) _
theorem ZEF : Zb7.toList = [Zj1] := nf
theorem ZBB : stepA E C B 26 Zb7 Zj1 (φ, H) = some (fput φ 4 (.bool true), H) := nf
def Ztn := kR Z8l
theorem ZJM : execA E C (fg 24) B 26 E0 N Ztn s = some (.ret, s) := Zs (by rfl) s
theorem ZLE : XQ 24 26 Z8l Zel Ztn := Z0 (by rfl) _
theorem ZLs : XQ 24 26 Z7T Z6T Z8l := Z0 (by rfl) _
theorem ZTb : XQ 24 26 Z9C Zbj Z7T := Z0 (by rfl) _
theorem ZQa : XQ 24 26 Z6G Zps Z9C := Z0 (by rfl) _
theorem ZTH : fInfo E 24 = some ⟨26, #[.tmp 4], Z6G⟩ := nf
theorem b_24 (args : List AV) : bodyA E C fg N 24 args H B = bodyX E [.tmp 4] (execA E C (fg 24) B 26 H N Z6G (Z3 args 0 [], H)) := Zw ZTH args H
abbrev F_24 := And.intro (And.intro (And.intro (And.intro (And.intro (And.intro @ZSA @ZDk) (And.intro @ZGi @ZSK)) (And.intro (And.intro @ZBz @ZCX) (And.intro @ZHU (And.intro @ZBP @ZIi)))) (And.intro (And.intro (And.intro @ZFz @ZTk) (And.intro @ZFs @ZHu)) (And.intro (And.intro @ZU2 @ZQK) (And.intro @ZSL (And.intro @ZRm @ZRi))))) (And.intro (And.intro (And.intro (And.intro @ZLG @ZHo) (And.intro @ZA6 @ZJr)) (And.intro (And.intro @ZCy @ZAw) (And.intro @ZAH (And.intro @ZG4 @ZBs)))) (And.intro (And.intro (And.intro @ZMU @ZMn) (And.intro @ZMA @ZJR)) (And.intro (And.intro @ZL8 @ZCS) (And.intro @Zvx (And.intro @Zy0 @ZGC)))))) (And.intro (And.intro (And.intro (And.intro (And.intro @ZDo @ZCi) (And.intro @ZAe @ZIM)) (And.intro (And.intro @ZGp @ZB1) (And.intro @ZIb (And.intro @ZzJ @ZNg)))) (And.intro (And.intro (And.intro @ZAP @ZCn) (And.intro @ZMP @ZPa)) (And.intro (And.intro @ZL3 @ZNj) (And.intro @ZJL (And.intro @ZLM @ZPp))))) (And.intro (And.intro (And.intro (And.intro @ZHV @ZIk) (And.intro @ZAa @ZAl)) (And.intro (And.intro @ZPd @ZMX) (And.intro @ZKY (And.intro @ZPv @ZKS)))) (And.intro (And.intro (And.intro @ZLY @ZEF) (And.intro @ZBB @ZJM)) (And.intro (And.intro @ZLE @ZLs) (And.intro @ZTb (And.intro @ZQa @b_24))))))
def Z8e := kBody Proofs.Try.f41
def ZpA := kL Z8e
def Zb1 := kO ZpA
def Zkx := opN Zb1 0
theorem ZSb : XG 41 27 ZpA Zb1 [4] := Z2 (by rfl) (by rfl) _
theorem ZCR : Zb1.toList = [Zkx] := nf
theorem ZCv : stepA E C B 27 Zb1 Zkx (φ, H) = some (fput φ 4 (.bool false), H) := nf
def ZaZ := kR Z8e
def Zbi := kL ZaZ
def ZpX := kL Zbi
def Z16 := kO ZpX
def Znk := opN Z16 0
def ZkS := opN Z16 1
def ZnX := opN Z16 2
def Zk4 := opN Z16 3
def ZhD := opN Z16 4
theorem ZQh : XG 41 27 ZpX Z16 [6, 7, 8, 9] := Z2 (by rfl) (by rfl) _
theorem ZzR : Z16.toList = [Znk, ZkS, ZnX, Zk4, ZhD] := nf
theorem ZDV : stepA E C B 27 Z16 Znk (φ, H) = some (fput φ 6 (fget φ 0), H) := nf
theorem ZzO : stepA E C B 27 Z16 ZkS (φ, H) = stp (some 7) φ H (Z1 E.T (B + 7) .len #[39] [(fget φ 6)]) := nf
theorem ZEe : stepA E C B 27 Z16 ZnX (φ, H) = some (fput φ 8 (fget φ 1), H) := nf
theorem ZGP : stepA E C B 27 Z16 Zk4 (φ, H) = stp (some 9) φ H (Z1 E.T (B + 9) .len #[39] [(fget φ 8)]) := nf
theorem ZzS : stepA E C B 27 Z16 ZhD (φ, H) = stp (some 10) φ H (just (aBin E.T .neq 3 (fget φ 7) (fget φ 9))) := nf
def ZaI := kR Zbi
def ZaD := kT ZaI
def Zpa := kL ZaD
def Z9y := kO Zpa
def Zlv := opN Z9y 0
theorem ZTd : XG 41 27 Zpa Z9y [0, 1, 10] := Z2 (by rfl) (by rfl) _
theorem ZDR : Z9y.toList = [Zlv] := nf
theorem ZIn : stepA E C B 27 Z9y Zlv (φ, H) = some (fput φ 4 (.bool false), H) := nf
def Zzc := kR ZaD
theorem ZQ6 : execA E C (fg 41) B 27 E0 N Zzc s = some (.ret, s) := Zs (by rfl) s
theorem ZQS : XQ 41 27 ZaD Zpa Zzc := Z0 (by rfl) _
def Zz5 := kE ZaI
theorem ZTZ : execA E C (fg 41) B 27 E0 N Zz5 s = some (.normal, s) := Zp (by rfl) s
theorem ZS5 : XC 41 27 ZaI 10 ZaD Zz5 := Zn (by rfl) _
theorem ZRB : XQ 41 27 Zbi ZpX ZaI := Z0 (by rfl) _
def Z6y := kR ZaZ
def Z6a := kL Z6y
def Zgm := kL Z6a
def Zam := kO Zgm
def ZjY := opN Zam 0
theorem ZOl : XG 41 27 Zgm Zam [10] := Z2 (by rfl) (by rfl) _
theorem ZIV : Zam.toList = [ZjY] := nf
theorem ZIT : stepA E C B 27 Zam ZjY (φ, H) = some (fput φ 5 (.int .i64 0), H) := nf
def Zh2 := kR Z6a
def Zf0 := kB Zh2
def Z3d := kB Zf0
def Z62 := kL Z3d
def ZeX := kL Z62
def Z1C := kO ZeX
def Zkh := opN Z1C 0
def Zld := opN Z1C 1
def Zjl := opN Z1C 2
def ZhC := opN Z1C 3
theorem ZN1 : XG 41 27 ZeX Z1C [11, 12, 13] := Z2 (by rfl) (by rfl) _
theorem ZEP : Z1C.toList = [Zkh, Zld, Zjl, ZhC] := nf
theorem ZJ6 : stepA E C B 27 Z1C Zkh (φ, H) = some (fput φ 11 (fget φ 5), H) := nf
theorem ZCh : stepA E C B 27 Z1C Zld (φ, H) = some (fput φ 12 (fget φ 0), H) := nf
theorem ZJ1 : stepA E C B 27 Z1C Zjl (φ, H) = stp (some 13) φ H (Z1 E.T (B + 13) .len #[39] [(fget φ 12)]) := nf
theorem ZF8 : stepA E C B 27 Z1C ZhC (φ, H) = stp (some 14) φ H (just (aBin E.T .lss 3 (fget φ 11) (fget φ 13))) := nf
def Z5Z := kR Z62
def Zs7 := kT Z5Z
theorem ZOB : execA E C (fg 41) B 27 E0 N Zs7 s = some (.normal, s) := Zp (by rfl) s
def ZtN := kE Z5Z
theorem ZNB : execA E C (fg 41) B 27 E0 N ZtN s = some (.exit 0, s) := Z07 (by rfl) s
theorem ZOc : XC 41 27 Z5Z 14 Zs7 ZtN := Zn (by rfl) _
theorem ZNo : XQ 41 27 Z62 ZeX Z5Z := Z0 (by rfl) _
def Z71 := kR Z3d
def Zey := kL Z71
def Z6v := kB Zey
def Zde := kL Z6v
def ZE := kO Zde
def ZnK := opN ZE 0
def ZkW := opN ZE 1
def Zkl := opN ZE 2
def ZiC := opN ZE 3
def Zmg := opN ZE 4
def ZkC := opN ZE 5
def ZjG := opN ZE 6
def ZmF := opN ZE 7
def Zje := opN ZE 8
def Zm1 := opN ZE 9
theorem ZMc : XD 41 27 Zde ZE [14, 17, 18, 19, 20, 21, 22, 23, 24, 25] := Z1Z (by rfl) (by rfl) _
theorem ZE9 : ZE.toList = [ZnK, ZkW, Zkl, ZiC, Zmg, ZkC, ZjG, ZmF, Zje, Zm1] := nf
theorem ZxG : statOk ZE = true := by kernel_rfl
theorem Zwi : drawA E C B 27 ZE s = if neat 27 s = true then drX ZE (runT E C B 27 ZE ZE.toList 0 s) else none := Z1h ZxG s
theorem ZuF (l : List (Nat × Tr)) : dynOk ZE l = (!writing l || Zd [[], [], [0, 1], [0, 1, 2], [], [], [4, 5], [4, 5, 6], [0, 1, 2, 3, 4, 5, 6, 7], [0, 1, 2, 3, 4, 5, 6, 7, 8]] (Zb l)) := Z0K (by kernel_rfl) l
theorem ZFA : stepT E C B 27 ZE ZnK (φ, H) = some ((fput φ 17 (fget φ 0), H), ⟨false, [], []⟩) := Z5 rfl (Ze rfl rfl)
theorem ZEw : stepT E C B 27 ZE ZkW (φ, H) = some ((fput φ 18 (fget φ 5), H), ⟨false, [], []⟩) := Z5 rfl (Ze rfl rfl)
theorem ZJ3 : stepT E C B 27 ZE Zkl (φ, H) = stpT (some 19) φ H (just (Z4 E.T 39 (fget φ 17) (fget φ 18))) := Z5 rfl (Zc rfl rfl)
theorem ZB9 : stepT E C B 27 ZE ZiC (φ, H) = stpT (some 20) φ H (just (aLoad E.T 22 (fget φ 19))) := Z5 rfl (Zc rfl rfl)
theorem ZAN : stepT E C B 27 ZE Zmg (φ, H) = some ((fput φ 21 (fget φ 1), H), ⟨false, [], []⟩) := Z5 rfl (Ze rfl rfl)
theorem ZD0 : stepT E C B 27 ZE ZkC (φ, H) = some ((fput φ 22 (fget φ 5), H), ⟨false, [], []⟩) := Z5 rfl (Ze rfl rfl)
theorem ZAv : stepT E C B 27 ZE ZjG (φ, H) = stpT (some 23) φ H (just (Z4 E.T 39 (fget φ 21) (fget φ 22))) := Z5 rfl (Zc rfl rfl)
theorem ZHq : stepT E C B 27 ZE ZmF (φ, H) = stpT (some 24) φ H (just (aLoad E.T 22 (fget φ 23))) := Z5 rfl (Zc rfl rfl)
theorem ZHQ : stepT E C B 27 ZE Zje (φ, H) = stpT (some 25) φ H (aCall C (fun j => B + j * 27 + 25) true 24 [(fget φ 20), (fget φ 24)]) := Z5 rfl (Zc rfl rfl)
theorem ZzV : stepT E C B 27 ZE Zm1 (φ, H) = stpT (some 26) φ H (justO (aUn .not (fget φ 25))) := Z5 rfl (Zc rfl rfl)
def Z5G := kR Z6v
def Z7b := kT Z5G
def ZfV := kL Z7b
def ZaP := kO ZfV
def Zns := opN ZaP 0
theorem ZOM : XG 41 27 ZfV ZaP [0, 1, 5, 26] := Z2 (by rfl) (by rfl) _
theorem ZIB : ZaP.toList = [Zns] := nf
theorem ZAM : stepA E C B 27 ZaP Zns (φ, H) = some (fput φ 4 (.bool false), H) := nf
def ZrT := kR Z7b
theorem ZNi : execA E C (fg 41) B 27 E0 N ZrT s = some (.ret, s) := Zs (by rfl) s
theorem ZKK : XQ 41 27 Z7b ZfV ZrT := Z0 (by rfl) _
def Ztk := kE Z5G
theorem ZKt : execA E C (fg 41) B 27 E0 N Ztk s = some (.normal, s) := Zp (by rfl) s
theorem ZOm : XC 41 27 Z5G 26 Z7b Ztk := Zn (by rfl) _
theorem ZMd : XQ 41 27 Z6v Zde Z5G := Z0 (by rfl) _
theorem ZKs : execA E C (fg 41) B 27 E0 N Zey s = blockX 1 (fun s => (forget s.1 [26], s.2)) (execA E C (fg 41) B 27 E0 N Z6v s) := Zk (by rfl) (by rfl) s
def Zff := kR Z71
def Z2T := kO Zff
def ZlG := opN Z2T 0
def Zo7 := opN Z2T 1
def Zhc := opN Z2T 2
theorem ZLd : XG 41 27 Zff Z2T [15, 16] := Z2 (by rfl) (by rfl) _
theorem ZE1 : Z2T.toList = [ZlG, Zo7, Zhc] := nf
theorem ZCC : stepA E C B 27 Z2T ZlG (φ, H) = some (fput φ 15 (fget φ 5), H) := nf
theorem ZG3 : stepA E C B 27 Z2T Zo7 (φ, H) = stp (some 16) φ H (just (aBin E.T .add 3 (fget φ 15) (.int .i64 1))) := nf
theorem ZIz : stepA E C B 27 Z2T Zhc (φ, H) = some (fput φ 5 (fget φ 16), H) := nf
theorem ZKq : XQ 41 27 Z71 Zey Zff := Z0 (by rfl) _
theorem ZMG : XQ 41 27 Z3d Z62 Z71 := Z0 (by rfl) _
theorem ZN0 : execA E C (fg 41) B 27 E0 N Zf0 s = iterA (execA E C (fg 41) B 27 E0 N Z3d) (headA E0) N s := Z0a (by rfl) s
theorem ZLx : execA E C (fg 41) B 27 E0 N Zh2 s = blockX 0 (fun s => (forget s.1 [0, 1, 5, 14], s.2)) (execA E C (fg 41) B 27 E0 N Zf0 s) := Zk (by rfl) (by rfl) s
theorem ZPo : XQ 41 27 Z6a Zgm Zh2 := Z0 (by rfl) _
def Z6h := kR Z6y
def Zcn := kL Z6h
def Zay := kO Zcn
def Zoi := opN Zay 0
theorem ZK2 : XG 41 27 Zcn Zay [] := Z2 (by rfl) (by rfl) _
theorem ZHr : Zay.toList = [Zoi] := nf
theorem ZIq : stepA E C B 27 Zay Zoi (φ, H) = some (fput φ 4 (.bool true), H) := nf
def ZsJ := kR Z6h
theorem ZNG : execA E C (fg 41) B 27 E0 N ZsJ s = some (.ret, s) := Zs (by rfl) s
theorem ZJN : XQ 41 27 Z6h Zcn ZsJ := Z0 (by rfl) _
theorem ZNC : XQ 41 27 Z6y Z6a Z6h := Z0 (by rfl) _
theorem ZR6 : XQ 41 27 ZaZ Zbi Z6y := Z0 (by rfl) _
theorem ZT3 : XQ 41 27 Z8e ZpA ZaZ := Z0 (by rfl) _
theorem ZPP : fInfo E 41 = some ⟨27, #[.tmp 4], Z8e⟩ := nf
theorem b_41 (args : List AV) : bodyA E C fg N 41 args H B = bodyX E [.tmp 4] (execA E C (fg 41) B 27 H N Z8e (Z3 args 0 [], H)) := Zw ZPP args H
abbrev F_41 := And.intro (And.intro (And.intro (And.intro (And.intro (And.intro @ZSb @ZCR) (And.intro @ZCv @ZQh)) (And.intro (And.intro @ZzR @ZDV) (And.intro @ZzO (And.intro @ZEe @ZGP)))) (And.intro (And.intro (And.intro @ZzS @ZTd) (And.intro @ZDR @ZIn)) (And.intro (And.intro @ZQ6 @ZQS) (And.intro @ZTZ (And.intro @ZS5 @ZRB))))) (And.intro (And.intro (And.intro (And.intro @ZOl @ZIV) (And.intro @ZIT @ZN1)) (And.intro (And.intro @ZEP @ZJ6) (And.intro @ZCh (And.intro @ZJ1 @ZF8)))) (And.intro (And.intro (And.intro @ZOB @ZNB) (And.intro @ZOc @ZNo)) (And.intro (And.intro @ZMc @ZE9) (And.intro @Zwi (And.intro @ZuF @ZFA)))))) (And.intro (And.intro (And.intro (And.intro (And.intro @ZEw @ZJ3) (And.intro @ZB9 @ZAN)) (And.intro (And.intro @ZD0 @ZAv) (And.intro @ZHq (And.intro @ZHQ @ZzV)))) (And.intro (And.intro (And.intro @ZOM @ZIB) (And.intro @ZAM @ZNi)) (And.intro (And.intro @ZKK @ZKt) (And.intro @ZOm (And.intro @ZMd @ZKs))))) (And.intro (And.intro (And.intro (And.intro @ZLd @ZE1) (And.intro @ZCC @ZG3)) (And.intro (And.intro @ZIz @ZKq) (And.intro @ZMG (And.intro @ZN0 @ZLx)))) (And.intro (And.intro (And.intro @ZPo @ZK2) (And.intro @ZHr (And.intro @ZIq @ZNG))) (And.intro (And.intro @ZJN @ZNC) (And.intro @ZR6 (And.intro @ZT3 @b_41))))))
def Z78 := kBody Proofs.Try.f58
def ZpS := kL Z78
def Zbu := kO ZpS
def ZiZ := opN Zbu 0
theorem ZQr : XG 58 17 ZpS Zbu [2] := Z2 (by rfl) (by rfl) _
theorem ZBF : Zbu.toList = [ZiZ] := nf
theorem ZAh : stepA E C B 17 Zbu ZiZ (φ, H) = some (fput φ 2 (.int .i64 0), H) := nf
def Za2 := kR Z78
def Zqe := kL Za2
def Z9U := kO Zqe
def Zk3 := opN Z9U 0
theorem ZQL : XG 58 17 Zqe Z9U [] := Z2 (by rfl) (by rfl) _
theorem ZG2 : Z9U.toList = [Zk3] := nf
theorem ZI9 : stepA E C B 17 Z9U Zk3 (φ, H) = some (fput φ 3 (.int .i64 0), H) := nf
def Z9Z := kR Za2
def Za5 := kL Z9Z
def Zpg := kL Za5
def Z2x := kO Zpg
def Zja := opN Z2x 0
def ZlF := opN Z2x 1
def Zkv := opN Z2x 2
theorem ZTm : XG 58 17 Zpg Z2x [0] := Z2 (by rfl) (by rfl) _
theorem ZEz : Z2x.toList = [Zja, ZlF, Zkv] := nf
theorem ZFo : stepA E C B 17 Z2x Zja (φ, H) = some (fput φ 6 (fget φ 0), H) := nf
theorem ZIs : stepA E C B 17 Z2x ZlF (φ, H) = stp (some 7) φ H (Z1 E.T (B + 7) .len #[22] [(fget φ 6)]) := nf
theorem ZAY : stepA E C B 17 Z2x Zkv (φ, H) = some (fput φ 8 (.int .i64 0), H) := nf
def Zqb := kR Za5
def Zp8 := kB Zqb
def Z4q := kB Zp8
def Zfi := kL Z4q
def ZaB := kO Zfi
def Zky := opN ZaB 0
theorem ZLu : XG 58 17 Zfi ZaB [] := Z2 (by rfl) (by rfl) _
theorem ZAr : ZaB.toList = [Zky] := nf
theorem ZBA : stepA E C B 17 ZaB Zky (φ, H) = stp (some 9) φ H (just (aBin E.T .lss 3 (fget φ 8) (fget φ 7))) := nf
def Z6A := kR Z4q
def Z61 := kL Z6A
def Zrg := kT Z61
theorem ZM0 : execA E C (fg 58) B 17 E0 N Zrg s = some (.normal, s) := Zp (by rfl) s
def Zsg := kE Z61
theorem ZPK : execA E C (fg 58) B 17 E0 N Zsg s = some (.exit 0, s) := Z07 (by rfl) s
theorem ZMu : XC 58 17 Z61 9 Zrg Zsg := Zn (by rfl) _
def Z6U := kR Z6A
def ZgS := kL Z6U
def Z6J := kB ZgS
def ZfY := kL Z6J
def Z2E := kO ZfY
def Zlt := opN Z2E 0
def ZhZ := opN Z2E 1
def ZhX := opN Z2E 2
theorem ZKj : XG 58 17 ZfY Z2E [9, 10, 11] := Z2 (by rfl) (by rfl) _
theorem ZAi : Z2E.toList = [Zlt, ZhZ, ZhX] := nf
theorem ZFr : stepA E C B 17 Z2E Zlt (φ, H) = stp (some 10) φ H (just (Z4 E.T 22 (fget φ 6) (fget φ 8))) := nf
theorem ZHK : stepA E C B 17 Z2E ZhZ (φ, H) = stp (some 11) φ H (just (aLoad E.T 3 (fget φ 10))) := nf
theorem ZJ4 : stepA E C B 17 Z2E ZhX (φ, H) = some (fput φ 5 (fget φ 11), H) := nf
def ZcN := kR Z6J
def Z1I := kO ZcN
def ZiX := opN Z1I 0
def Zj6 := opN Z1I 1
def Zml := opN Z1I 2
def ZiB := opN Z1I 3
theorem ZOy : XG 58 17 ZcN Z1I [5, 12, 13, 14] := Z2 (by rfl) (by rfl) _
theorem ZHe : Z1I.toList = [ZiX, Zj6, Zml, ZiB] := nf
theorem ZCB : stepA E C B 17 Z1I ZiX (φ, H) = some (fput φ 12 (fget φ 3), H) := nf
theorem ZDu : stepA E C B 17 Z1I Zj6 (φ, H) = some (fput φ 13 (fget φ 5), H) := nf
theorem ZG1 : stepA E C B 17 Z1I Zml (φ, H) = stp (some 14) φ H (just (aBin E.T .add 3 (fget φ 12) (fget φ 13))) := nf
theorem ZB8 : stepA E C B 17 Z1I ZiB (φ, H) = some (fput φ 3 (fget φ 14), H) := nf
theorem ZP5 : XQ 58 17 Z6J ZfY ZcN := Z0 (by rfl) _
theorem ZON : execA E C (fg 58) B 17 E0 N ZgS s = blockX 1 (fun s => (forget s.1 [], s.2)) (execA E C (fg 58) B 17 E0 N Z6J s) := Zk (by rfl) (by rfl) s
def Zeg := kR Z6U
def Z4F := kO Zeg
def Zke := opN Z4F 0
def ZmK := opN Z4F 1
theorem ZMq : XG 58 17 Zeg Z4F [15] := Z2 (by rfl) (by rfl) _
theorem ZEG : Z4F.toList = [Zke, ZmK] := nf
theorem ZzZ : stepA E C B 17 Z4F Zke (φ, H) = stp (some 15) φ H (just (aBin E.T .add 3 (fget φ 8) (.int .i64 1))) := nf
theorem ZHn : stepA E C B 17 Z4F ZmK (φ, H) = some (fput φ 8 (fget φ 15), H) := nf
theorem ZKB : XQ 58 17 Z6U ZgS Zeg := Z0 (by rfl) _
theorem ZL7 : XQ 58 17 Z6A Z61 Z6U := Z0 (by rfl) _
theorem ZQC : XQ 58 17 Z4q Zfi Z6A := Z0 (by rfl) _
theorem ZTs : execA E C (fg 58) B 17 E0 N Zp8 s = iterA (execA E C (fg 58) B 17 E0 N Z4q) (headA E0) N s := Z0a (by rfl) s
theorem ZRx : execA E C (fg 58) B 17 E0 N Zqb s = blockX 0 (fun s => (forget s.1 [6, 7, 8, 9], s.2)) (execA E C (fg 58) B 17 E0 N Zp8 s) := Zk (by rfl) (by rfl) s
theorem ZSh : XQ 58 17 Za5 Zpg Zqb := Z0 (by rfl) _
def Z7Q := kR Z9Z
def ZbO := kL Z7Q
def Z4U := kO ZbO
def Zm7 := opN Z4U 0
def Zmm := opN Z4U 1
theorem ZOn : XG 58 17 ZbO Z4U [3, 16] := Z2 (by rfl) (by rfl) _
theorem ZED : Z4U.toList = [Zm7, Zmm] := nf
theorem ZEo : stepA E C B 17 Z4U Zm7 (φ, H) = some (fput φ 16 (fget φ 3), H) := nf
theorem ZGQ : stepA E C B 17 Z4U Zmm (φ, H) = some (fput φ 2 (fget φ 16), H) := nf
def Zro := kR Z7Q
theorem ZOQ : execA E C (fg 58) B 17 E0 N Zro s = some (.ret, s) := Zs (by rfl) s
theorem ZKr : XQ 58 17 Z7Q ZbO Zro := Z0 (by rfl) _
theorem ZTe : XQ 58 17 Z9Z Za5 Z7Q := Z0 (by rfl) _
theorem ZRO : XQ 58 17 Za2 Zqe Z9Z := Z0 (by rfl) _
theorem ZR0 : XQ 58 17 Z78 ZpS Za2 := Z0 (by rfl) _
theorem ZUl : fInfo E 58 = some ⟨17, #[.tmp 2], Z78⟩ := nf
theorem b_58 (args : List AV) : bodyA E C fg N 58 args H B = bodyX E [.tmp 2] (execA E C (fg 58) B 17 H N Z78 (Z3 args 0 [], H)) := Zw ZUl args H
abbrev F_58 := And.intro (And.intro (And.intro (And.intro (And.intro @ZQr (And.intro @ZBF @ZAh)) (And.intro @ZQL (And.intro @ZG2 @ZI9))) (And.intro (And.intro @ZTm (And.intro @ZEz @ZFo)) (And.intro @ZIs (And.intro @ZAY @ZLu)))) (And.intro (And.intro (And.intro @ZAr (And.intro @ZBA @ZM0)) (And.intro @ZPK (And.intro @ZMu @ZKj))) (And.intro (And.intro @ZAi (And.intro @ZFr @ZHK)) (And.intro (And.intro @ZJ4 @ZOy) (And.intro @ZHe @ZCB))))) (And.intro (And.intro (And.intro (And.intro @ZDu (And.intro @ZG1 @ZB8)) (And.intro @ZP5 (And.intro @ZON @ZMq))) (And.intro (And.intro @ZEG (And.intro @ZzZ @ZHn)) (And.intro @ZKB (And.intro @ZL7 @ZQC)))) (And.intro (And.intro (And.intro @ZTs (And.intro @ZRx @ZSh)) (And.intro @ZOn (And.intro @ZED @ZEo))) (And.intro (And.intro @ZGQ (And.intro @ZOQ @ZKr)) (And.intro (And.intro @ZTe @ZRO) (And.intro @ZR0 @b_58)))))
def Z7F := kBody Proofs.Try.f62
def Zqh := kL Z7F
def ZaG := kO Zqh
def ZjI := opN ZaG 0
theorem ZQe : XG 62 23 Zqh ZaG [4] := Z2 (by rfl) (by rfl) _
theorem ZDv : ZaG.toList = [ZjI] := nf
theorem ZHl : stepA E C B 23 ZaG ZjI (φ, H) = some (fput φ 4 (.bool false), H) := nf
def ZbD := kR Z7F
def ZaN := kL ZbD
def ZpB := kL ZaN
def Z30 := kO ZpB
def Zma := opN Z30 0
def ZkG := opN Z30 1
def ZjH := opN Z30 2
theorem ZSF : XG 62 23 ZpB Z30 [6] := Z2 (by rfl) (by rfl) _
theorem ZAG : Z30.toList = [Zma, ZkG, ZjH] := nf
theorem ZCE : stepA E C B 23 Z30 Zma (φ, H) = some (fput φ 6 (fget φ 0), H) := nf
theorem ZCN : stepA E C B 23 Z30 ZkG (φ, H) = stp (some 7) φ H (Z1 E.T (B + 7) .len #[22] [(fget φ 6)]) := nf
theorem ZDW : stepA E C B 23 Z30 ZjH (φ, H) = some (fput φ 8 (.int .i64 0), H) := nf
def Zq0 := kR ZaN
def Zqa := kB Zq0
def Z5R := kB Zqa
def Zpf := kL Z5R
def Za3 := kO Zpf
def ZnH := opN Za3 0
theorem ZQ9 : XG 62 23 Zpf Za3 [] := Z2 (by rfl) (by rfl) _
theorem ZCt : Za3.toList = [ZnH] := nf
theorem ZFP : stepA E C B 23 Za3 ZnH (φ, H) = stp (some 9) φ H (just (aBin E.T .lss 3 (fget φ 8) (fget φ 7))) := nf
def Zap := kR Z5R
def Z6i := kL Zap
def ZtE := kT Z6i
theorem ZKm : execA E C (fg 62) B 23 E0 N ZtE s = some (.normal, s) := Zp (by rfl) s
def Zt3 := kE Z6i
theorem ZND : execA E C (fg 62) B 23 E0 N Zt3 s = some (.exit 0, s) := Z07 (by rfl) s
theorem ZLA : XC 62 23 Z6i 9 ZtE Zt3 := Zn (by rfl) _
def Z85 := kR Zap
def Zeo := kL Z85
def Z6Y := kB Zeo
def ZeT := kL Z6Y
def Z4v := kO ZeT
def ZhY := opN Z4v 0
def Zlx := opN Z4v 1
theorem ZKh : XG 62 23 ZeT Z4v [9, 10] := Z2 (by rfl) (by rfl) _
theorem ZDN : Z4v.toList = [ZhY, Zlx] := nf
theorem ZBU : stepA E C B 23 Z4v ZhY (φ, H) = some (fput φ 10 (fget φ 8), H) := nf
theorem Zzx : stepA E C B 23 Z4v Zlx (φ, H) = some (fput φ 5 (fget φ 10), H) := nf
def Z83 := kR Z6Y
def Zdn := kL Z83
def ZB := kO Zdn
def ZiR := opN ZB 0
def Zhx := opN ZB 1
def Zhe := opN ZB 2
def ZiU := opN ZB 3
def ZnB := opN ZB 4
def Zoe := opN ZB 5
def Ziu := opN ZB 6
def ZlM := opN ZB 7
def Zmt := opN ZB 8
def Zkq := opN ZB 9
def Zdj := opN ZB 10
theorem ZOh : XD 62 23 Zdn ZB [5, 11, 12, 13, 14, 15, 16, 17, 18, 19, 20] := Z1Z (by rfl) (by rfl) _
theorem ZER : ZB.toList = [ZiR, Zhx, Zhe, ZiU, ZnB, Zoe, Ziu, ZlM, Zmt, Zkq, Zdj] := nf
theorem Zwe : statOk ZB = true := by kernel_rfl
theorem ZxL : drawA E C B 23 ZB s = if neat 23 s = true then drX ZB (runT E C B 23 ZB ZB.toList 0 s) else none := Z1h Zwe s
theorem ZyB (l : List (Nat × Tr)) : dynOk ZB l = (!writing l || Zd [[], [], [1], [0, 1, 2], [0, 1, 2, 3], [], [], [6], [5, 6, 7], [0, 1, 2, 3, 4, 5, 6, 7, 8], [0, 1, 2, 3, 4, 5, 6, 7, 8, 9]] (Zb l)) := Z0K (by kernel_rfl) l
theorem Zzi : stepT E C B 23 ZB ZiR (φ, H) = some ((fput φ 11 (fget φ 0), H), ⟨false, [], []⟩) := Z5 rfl (Ze rfl rfl)
theorem ZCZ : stepT E C B 23 ZB Zhx (φ, H) = some ((fput φ 12 (fget φ 5), H), ⟨false, [], []⟩) := Z5 rfl (Ze rfl rfl)
theorem ZH8 : stepT E C B 23 ZB Zhe (φ, H) = stpT (some 13) φ H (just (aBin E.T .add 3 (fget φ 12) (.int .i64 1))) := Z5 rfl (Zc rfl rfl)
theorem ZF3 : stepT E C B 23 ZB ZiU (φ, H) = stpT (some 14) φ H (just (aSlice E.T 22 (fget φ 11) none (some (fget φ 13)) none)) := Z5 rfl (Zc rfl rfl)
theorem ZIE : stepT E C B 23 ZB ZnB (φ, H) = stpT (some 15) φ H (aCall C (fun j => B + j * 23 + 15) true 58 [(fget φ 14)]) := Z5 rfl (Zc rfl rfl)
theorem ZBO : stepT E C B 23 ZB Zoe (φ, H) = some ((fput φ 16 (fget φ 1), H), ⟨false, [], []⟩) := Z5 rfl (Ze rfl rfl)
theorem ZE8 : stepT E C B 23 ZB Ziu (φ, H) = some ((fput φ 17 (fget φ 5), H), ⟨false, [], []⟩) := Z5 rfl (Ze rfl rfl)
theorem ZFa : stepT E C B 23 ZB ZlM (φ, H) = stpT (some 18) φ H (just (aBin E.T .add 3 (fget φ 17) (.int .i64 1))) := Z5 rfl (Zc rfl rfl)
theorem ZHZ : stepT E C B 23 ZB Zmt (φ, H) = stpT (some 19) φ H (just (aSlice E.T 22 (fget φ 16) none (some (fget φ 18)) none)) := Z5 rfl (Zc rfl rfl)
theorem ZHy : stepT E C B 23 ZB Zkq (φ, H) = stpT (some 20) φ H (aCall C (fun j => B + j * 23 + 20) true 58 [(fget φ 19)]) := Z5 rfl (Zc rfl rfl)
theorem Zvc : stepT E C B 23 ZB Zdj (φ, H) = stpT (some 21) φ H (just (aBin E.T .lss 3 (fget φ 15) (fget φ 20))) := Z5 rfl (Zc rfl rfl)
def Z5P := kR Z83
def Z87 := kT Z5P
def ZcG := kL Z87
def Zaw := kO ZcG
def Zmn := opN Zaw 0
theorem ZKC : XG 62 23 ZcG Zaw [0, 1, 7, 8, 21] := Z2 (by rfl) (by rfl) _
theorem ZFg : Zaw.toList = [Zmn] := nf
theorem ZAK : stepA E C B 23 Zaw Zmn (φ, H) = some (fput φ 4 (.bool false), H) := nf
def ZsB := kR Z87
theorem ZLa : execA E C (fg 62) B 23 E0 N ZsB s = some (.ret, s) := Zs (by rfl) s
theorem ZNQ : XQ 62 23 Z87 ZcG ZsB := Z0 (by rfl) _
def Zql := kE Z5P
theorem ZN6 : execA E C (fg 62) B 23 E0 N Zql s = some (.normal, s) := Zp (by rfl) s
theorem ZK4 : XC 62 23 Z5P 21 Z87 Zql := Zn (by rfl) _
theorem ZNJ : XQ 62 23 Z83 Zdn Z5P := Z0 (by rfl) _
theorem ZOx : XQ 62 23 Z6Y ZeT Z83 := Z0 (by rfl) _
theorem ZMI : execA E C (fg 62) B 23 E0 N Zeo s = blockX 1 (fun s => (forget s.1 [21], s.2)) (execA E C (fg 62) B 23 E0 N Z6Y s) := Zk (by rfl) (by rfl) s
def ZcZ := kR Z85
def Z4u := kO ZcZ
def ZkQ := opN Z4u 0
def Zmi := opN Z4u 1
theorem ZNW : XG 62 23 ZcZ Z4u [22] := Z2 (by rfl) (by rfl) _
theorem ZC5 : Z4u.toList = [ZkQ, Zmi] := nf
theorem ZDD : stepA E C B 23 Z4u ZkQ (φ, H) = stp (some 22) φ H (just (aBin E.T .add 3 (fget φ 8) (.int .i64 1))) := nf
theorem ZAo : stepA E C B 23 Z4u Zmi (φ, H) = some (fput φ 8 (fget φ 22), H) := nf
theorem ZPf : XQ 62 23 Z85 Zeo ZcZ := Z0 (by rfl) _
theorem ZRK : XQ 62 23 Zap Z6i Z85 := Z0 (by rfl) _
theorem ZQT : XQ 62 23 Z5R Zpf Zap := Z0 (by rfl) _
theorem ZSj : execA E C (fg 62) B 23 E0 N Zqa s = iterA (execA E C (fg 62) B 23 E0 N Z5R) (headA E0) N s := Z0a (by rfl) s
theorem ZTG : execA E C (fg 62) B 23 E0 N Zq0 s = blockX 0 (fun s => (forget s.1 [0, 1, 7, 8, 9], s.2)) (execA E C (fg 62) B 23 E0 N Zqa s) := Zk (by rfl) (by rfl) s
theorem ZSB : XQ 62 23 ZaN ZpB Zq0 := Z0 (by rfl) _
def Z7c := kR ZbD
def ZcT := kL Z7c
def Zbp := kO ZcT
def Zji := opN Zbp 0
theorem ZPj : XG 62 23 ZcT Zbp [] := Z2 (by rfl) (by rfl) _
theorem ZDg : Zbp.toList = [Zji] := nf
theorem ZJk : stepA E C B 23 Zbp Zji (φ, H) = some (fput φ 4 (.bool true), H) := nf
def Zr3 := kR Z7c
theorem ZOL : execA E C (fg 62) B 23 E0 N Zr3 s = some (.ret, s) := Zs (by rfl) s
theorem ZMY : XQ 62 23 Z7c ZcT Zr3 := Z0 (by rfl) _
theorem ZTV : XQ 62 23 ZbD ZaN Z7c := Z0 (by rfl) _
theorem ZTt : XQ 62 23 Z7F Zqh ZbD := Z0 (by rfl) _
theorem ZQy : fInfo E 62 = some ⟨23, #[.tmp 4], Z7F⟩ := nf
theorem b_62 (args : List AV) : bodyA E C fg N 62 args H B = bodyX E [.tmp 4] (execA E C (fg 62) B 23 H N Z7F (Z3 args 0 [], H)) := Zw ZQy args H
abbrev F_62 := And.intro (And.intro (And.intro (And.intro (And.intro @ZQe (And.intro @ZDv @ZHl)) (And.intro (And.intro @ZSF @ZAG) (And.intro @ZCE @ZCN))) (And.intro (And.intro (And.intro @ZDW @ZQ9) (And.intro @ZCt @ZFP)) (And.intro (And.intro @ZKm @ZND) (And.intro @ZLA @ZKh)))) (And.intro (And.intro (And.intro @ZDN (And.intro @ZBU @Zzx)) (And.intro (And.intro @ZOh @ZER) (And.intro @ZxL @ZyB))) (And.intro (And.intro (And.intro @Zzi @ZCZ) (And.intro @ZH8 @ZF3)) (And.intro (And.intro @ZIE @ZBO) (And.intro @ZE8 @ZFa))))) (And.intro (And.intro (And.intro (And.intro @ZHZ (And.intro @ZHy @Zvc)) (And.intro (And.intro @ZKC @ZFg) (And.intro @ZAK @ZLa))) (And.intro (And.intro (And.intro @ZNQ @ZN6) (And.intro @ZK4 @ZNJ)) (And.intro (And.intro @ZOx @ZMI) (And.intro @ZNW @ZC5)))) (And.intro (And.intro (And.intro (And.intro @ZDD @ZAo) (And.intro @ZPf @ZRK)) (And.intro (And.intro @ZQT @ZSj) (And.intro @ZTG @ZSB))) (And.intro (And.intro (And.intro @ZPj @ZDg) (And.intro @ZJk @ZOL)) (And.intro (And.intro @ZMY @ZTV) (And.intro @ZTt @b_62)))))
def Z89 := kBody Proofs.Try.f59
def Zop := kL Z89
def Z4h := kO Zop
def Zhz := opN Z4h 0
def Zkw := opN Z4h 1
theorem ZSi : XG 59 12 Zop Z4h [0, 4] := Z2 (by rfl) (by rfl) _
theorem ZzX : Z4h.toList = [Zhz, Zkw] := nf
theorem ZGx : stepA E C B 12 Z4h Zhz (φ, H) = stp (some 2) φ H (opBox (B + 2) (acells (fget φ 0))) := nf
theorem ZBy : stepA E C B 12 Z4h Zkw (φ, H) = some (fput φ 4 (.nilsl), H) := nf
def ZaL := kR Z89
def Zou := kL ZaL
def Zad := kO Zou
def Zkf := opN Zad 0
theorem ZQq : XG 59 12 Zou Zad [] := Z2 (by rfl) (by rfl) _
theorem ZAJ : Zad.toList = [Zkf] := nf
theorem ZGE : stepA E C B 12 Zad Zkf (φ, H) = stp (some 5) φ H (opBox (B + 5) (zeroCells E.T 39)) := nf
def Z9B := kR ZaL
def ZoR := kL Z9B
def Zan := kO ZoR
def Zna := opN Zan 0
theorem ZSz : XG 59 12 ZoR Zan [] := Z2 (by rfl) (by rfl) _
theorem ZDM : Zan.toList = [Zna] := nf
theorem ZIX : stepA E C B 12 Zan Zna (φ, H) = stp (some 6) φ H (opBox (B + 6) (zeroCells E.T 94)) := nf
def Z9A := kR Z9B
def Zpy := kL Z9A
def Z52 := kO Zpy
def Zhd := opN Z52 0
def Zo5 := opN Z52 1
theorem ZRk : XG 59 12 Zpy Z52 [2, 7] := Z2 (by rfl) (by rfl) _
theorem ZCW : Z52.toList = [Zhd, Zo5] := nf
theorem ZEK : stepA E C B 12 Z52 Zhd (φ, H) = stp (some 7) φ H (.pure (.clo 105 [(fget φ 2), (fget φ 5), (fget φ 6)], [])) := nf
theorem ZEc : stepA E C B 12 Z52 Zo5 (φ, H) = stp none φ H (opStore E.T 94 (fget φ 6) (fget φ 7)) := nf
def ZbF := kR Z9A
def ZpU := kL ZbF
def Z2U := kO ZpU
def ZkJ := opN Z2U 0
def Zn4 := opN Z2U 1
def Zmh := opN Z2U 2
theorem ZSd : XG 59 12 ZpU Z2U [1, 6, 8, 9, 10] := Z2 (by rfl) (by rfl) _
theorem ZI6 : Z2U.toList = [ZkJ, Zn4, Zmh] := nf
theorem ZHR : stepA E C B 12 Z2U ZkJ (φ, H) = stp (some 8) φ H (just (aLoad E.T 94 (fget φ 6))) := nf
theorem ZGk : stepA E C B 12 Z2U Zn4 (φ, H) = some (fput φ 9 (fget φ 1), H) := nf
theorem ZCL : stepA E C B 12 Z2U Zmh (φ, H) = callV E C (B + 12 * 8) (some 10) (fun j => B + j * 12 + 10) φ H (fget φ 8) [(.nilsl), (fget φ 9), (.int .i64 8)] true := nf
def Z7G := kR ZbF
def ZfB := kL Z7G
def Z4f := kO ZfB
def Zku := opN Z4f 0
def ZhA := opN Z4f 1
theorem ZLO : XG 59 12 ZfB Z4f [5, 11] := Z2 (by rfl) (by rfl) _
theorem ZCj : Z4f.toList = [Zku, ZhA] := nf
theorem ZID : stepA E C B 12 Z4f Zku (φ, H) = stp (some 11) φ H (just (aLoad E.T 39 (fget φ 5))) := nf
theorem ZDb : stepA E C B 12 Z4f ZhA (φ, H) = some (fput φ 4 (fget φ 11), H) := nf
def Zsj := kR Z7G
theorem ZKi : execA E C (fg 59) B 12 E0 N Zsj s = some (.ret, s) := Zs (by rfl) s
theorem ZMh : XQ 59 12 Z7G ZfB Zsj := Z0 (by rfl) _
theorem ZSq : XQ 59 12 ZbF ZpU Z7G := Z0 (by rfl) _
theorem ZUt : XQ 59 12 Z9A Zpy ZbF := Z0 (by rfl) _
theorem ZRl : XQ 59 12 Z9B ZoR Z9A := Z0 (by rfl) _
theorem ZRq : XQ 59 12 ZaL Zou Z9B := Z0 (by rfl) _
theorem ZS6 : XQ 59 12 Z89 Zop ZaL := Z0 (by rfl) _
theorem ZT4 : fInfo E 59 = some ⟨12, #[.tmp 4], Z89⟩ := nf
theorem b_59 (args : List AV) : bodyA E C fg N 59 args H B = bodyX E [.tmp 4] (execA E C (fg 59) B 12 H N Z89 (Z3 args 0 [], H)) := Zw ZT4 args H
abbrev F_59 := And.intro (And.intro (And.intro (And.intro @ZSi (And.intro @ZzX @ZGx)) (And.intro (And.intro @ZBy @ZQq) (And.intro @ZAJ @ZGE))) (And.intro (And.intro (And.intro @ZSz @ZDM) (And.intro @ZIX @ZRk)) (And.intro (And.intro @ZCW @ZEK) (And.intro @ZEc @ZSd)))) (And.intro (And.intro (And.intro (And.intro @ZI6 @ZHR) (And.intro @ZGk @ZCL)) (And.intro (And.intro @ZLO @ZCj) (And.intro @ZID @ZDb))) (And.intro (And.intro (And.intro @ZKi @ZMh) (And.intro @ZSq @ZUt)) (And.intro (And.intro @ZRl @ZRq) (And.intro @ZS6 @b_59))))
def Z49 := kBody Proofs.Try.f105
def Z6C := kL Z49
def Zez := kL Z6C
def Z0Y := kO Zez
def Zf3 := opN Z0Y 0
def ZbY := opN Z0Y 1
def ZgK := opN Z0Y 2
def Zg7 := opN Z0Y 3
theorem ZMi : XG 105 42 Zez Z0Y [3, 10, 11, 12] := Z2 (by rfl) (by rfl) _
theorem Zv9 : Z0Y.toList = [Zf3, ZbY, ZgK, Zg7] := nf
theorem ZuE : stepA E C B 42 Z0Y Zf3 (φ, H) = some (fput φ 10 (fget φ 0), H) := nf
theorem ZvO : stepA E C B 42 Z0Y ZbY (φ, H) = stp (some 11) φ H (Z1 E.T (B + 11) .len #[22] [(fget φ 10)]) := nf
theorem Zwy : stepA E C B 42 Z0Y ZgK (φ, H) = stp (some 12) φ H (just (aLoad E.T 3 (fget φ 3))) := nf
theorem Zvp : stepA E C B 42 Z0Y Zg7 (φ, H) = stp (some 13) φ H (just (aBin E.T .eql 3 (fget φ 11) (fget φ 12))) := nf
def Z7E := kR Z6C
def Z7M := kT Z7E
def Z7w := kL Z7M
def ZcU := kL Z7w
def Z3n := kO ZcU
def Zfk := opN Z3n 0
def Zc7 := opN Z3n 1
theorem ZJB : XG 105 42 ZcU Z3n [1, 2, 5, 13, 14] := Z2 (by rfl) (by rfl) _
theorem ZuP : Z3n.toList = [Zfk, Zc7] := nf
theorem Zuw : stepA E C B 42 Z3n Zfk (φ, H) = some (fput φ 14 (fget φ 1), H) := nf
theorem Zwg : stepA E C B 42 Z3n Zc7 (φ, H) = stp (some 15) φ H (just (aBin E.T .eql 3 (fget φ 14) (.int .i64 0))) := nf
def Z7s := kR Z7w
def ZdJ := kT Z7s
def Z0B := kO ZdJ
def ZcD := opN Z0B 0
def Zes := opN Z0B 1
def Zgw := opN Z0B 2
def Zfl := opN Z0B 3
def Zg1 := opN Z0B 4
theorem ZKf : XG 105 42 ZdJ Z0B [0, 4, 15, 16, 17, 18, 19] := Z2 (by rfl) (by rfl) _
theorem Zuf : Z0B.toList = [ZcD, Zes, Zgw, Zfl, Zg1] := nf
theorem Zxh : stepA E C B 42 Z0B ZcD (φ, H) = stp (some 16) φ H (just (aLoad E.T 39 (fget φ 4))) := nf
theorem ZwH : stepA E C B 42 Z0B Zes (φ, H) = some (fput φ 17 (fget φ 0), H) := nf
theorem ZwG : stepA E C B 42 Z0B Zgw (φ, H) = stp (some 18) φ H (Z6 E.T (B + 18) 39 1 (evO E φ) [(0, Operand.tmp 17)]) := nf
theorem ZxM : stepA E C B 42 Z0B Zfl (φ, H) = stp (some 19) φ H (Z1 E.T (B + 19) .append #[39, 39] [(fget φ 16), (fget φ 18)]) := nf
theorem Zxb : stepA E C B 42 Z0B Zg1 (φ, H) = stp none φ H (opStore E.T 39 (fget φ 4) (fget φ 19)) := nf
def ZsC := kE Z7s
theorem ZKA : execA E C (fg 105) B 42 E0 N ZsC s = some (.normal, s) := Zp (by rfl) s
theorem ZMJ : XC 105 42 Z7s 15 ZdJ ZsC := Zn (by rfl) _
theorem ZJT : XQ 105 42 Z7w ZcU Z7s := Z0 (by rfl) _
def ZmQ := kR Z7M
theorem ZAV : execA E C (fg 105) B 42 E0 N ZmQ s = some (.ret, s) := Zs (by rfl) s
theorem ZOW : XQ 105 42 Z7M Z7w ZmQ := Z0 (by rfl) _
def Zm2 := kE Z7E
theorem ZIZ : execA E C (fg 105) B 42 E0 N Zm2 s = some (.normal, s) := Zp (by rfl) s
theorem ZLq : XC 105 42 Z7E 13 Z7M Zm2 := Zn (by rfl) _
theorem ZPt : XQ 105 42 Z6C Zez Z7E := Z0 (by rfl) _
def Z4R := kR Z49
def Z8E := kL Z4R
def Z0Z := kO Z8E
def Zgr := opN Z0Z 0
def Zd6 := opN Z0Z 1
def ZfG := opN Z0Z 2
def ZfT := opN Z0Z 3
theorem ZHb : XG 105 42 Z8E Z0Z [2, 4, 13, 20, 21, 22] := Z2 (by rfl) (by rfl) _
theorem Zul : Z0Z.toList = [Zgr, Zd6, ZfG, ZfT] := nf
theorem ZwN : stepA E C B 42 Z0Z Zgr (φ, H) = some (fput φ 20 (fget φ 2), H) := nf
theorem Zu4 : stepA E C B 42 Z0Z Zd6 (φ, H) = some (fput φ 21 (fget φ 1), H) := nf
theorem Zxj : stepA E C B 42 Z0Z ZfG (φ, H) = stp (some 22) φ H (Z1 E.T (B + 22) .min #[3, 3] [(fget φ 20), (fget φ 21)]) := nf
theorem ZyN : stepA E C B 42 Z0Z ZfT (φ, H) = some (fput φ 9 (fget φ 22), H) := nf
def Z8P := kR Z4R
def Z8K := kB Z8P
def Z0F := kB Z8K
def Z4T := kL Z0F
def Z8r := kL Z4T
def Z36 := kO Z8r
def ZeM := opN Z36 0
def Zgb := opN Z36 1
theorem ZzT : XG 105 42 Z8r Z36 [23] := Z2 (by rfl) (by rfl) _
theorem Zxa : Z36.toList = [ZeM, Zgb] := nf
theorem Zw8 : stepA E C B 42 Z36 ZeM (φ, H) = some (fput φ 23 (fget φ 9), H) := nf
theorem Zw5 : stepA E C B 42 Z36 Zgb (φ, H) = stp (some 24) φ H (just (aBin E.T .geq 3 (fget φ 23) (.int .i64 0))) := nf
def Z4t := kR Z4T
def Zlw := kT Z4t
theorem ZDq : execA E C (fg 105) B 42 E0 N Zlw s = some (.normal, s) := Zp (by rfl) s
def ZnI := kE Z4t
theorem ZId : execA E C (fg 105) B 42 E0 N ZnI s = some (.exit 0, s) := Z07 (by rfl) s
theorem ZJ7 : XC 105 42 Z4t 24 Zlw ZnI := Zn (by rfl) _
theorem ZGM : XQ 105 42 Z4T Z8r Z4t := Z0 (by rfl) _
def Z55 := kR Z0F
def Z8B := kL Z55
def Z8m := kB Z8B
def Zm := kO Z8m
def Ze2 := opN Zm 0
def Zgn := opN Zm 1
def ZgH := opN Zm 2
def ZgP := opN Zm 3
def ZcV := opN Zm 4
def ZfN := opN Zm 5
def Zf4 := opN Zm 6
def Zgz := opN Zm 7
def Zen := opN Zm 8
def Zfc := opN Zm 9
def Z92 := opN Zm 10
def Z9o := opN Zm 11
def Z8W := opN Zm 12
def Z8R := opN Zm 13
def Z9j := opN Zm 14
theorem ZBx : XD 105 42 Z8m Zm [24, 27, 28, 29, 30, 31, 32, 33, 34, 35, 36, 37, 38, 39, 40, 41] := Z1Z (by rfl) (by rfl) _
theorem Zxd : Zm.toList = [Ze2, Zgn, ZgH, ZgP, ZcV, ZfN, Zf4, Zgz, Zen, Zfc, Z92, Z9o, Z8W, Z8R, Z9j] := nf
theorem ZrK : statOk Zm = true := by kernel_rfl
theorem Zsu : drawA E C B 42 Zm s = if neat 42 s = true then drX Zm (runT E C B 42 Zm Zm.toList 0 s) else none := Z1h ZrK s
theorem Zsd (l : List (Nat × Tr)) : dynOk Zm l = (!writing l || Zd [[], [], [], [2], [], [4], [1, 2, 3, 4, 5], [], [7], [1, 2, 3, 4, 5, 6, 7, 8], [], [], [10, 11], [], [0, 1, 2, 3, 4, 5, 6, 7, 8, 9, 10, 11, 12, 13]] (Zb l)) := Z0K (by kernel_rfl) l
theorem Zum : stepT E C B 42 Zm Ze2 (φ, H) = stpT (some 27) φ H (just (aLoad E.T 94 (fget φ 5))) := Z5 rfl (Zc rfl rfl)
theorem Zu3 : stepT E C B 42 Zm Zgn (φ, H) = some ((fput φ 28 (fget φ 0), H), ⟨false, [], []⟩) := Z5 rfl (Ze rfl rfl)
theorem ZuW : stepT E C B 42 Zm ZgH (φ, H) = some ((fput φ 29 (fget φ 0), H), ⟨false, [], []⟩) := Z5 rfl (Ze rfl rfl)
theorem Zwn : stepT E C B 42 Zm ZgP (φ, H) = stpT (some 30) φ H (Z1 E.T (B + 30) .len #[22] [(fget φ 29)]) := Z5 rfl (Zc rfl rfl)
theorem ZwA : stepT E C B 42 Zm ZcV (φ, H) = some ((fput φ 31 (fget φ 0), H), ⟨false, [], []⟩) := Z5 rfl (Ze rfl rfl)
theorem Zwx : stepT E C B 42 Zm ZfN (φ, H) = stpT (some 32) φ H (Z1 E.T (B + 32) .len #[22] [(fget φ 31)]) := Z5 rfl (Zc rfl rfl)
theorem ZwV : stepT E C B 42 Zm Zf4 (φ, H) = stpT (some 33) φ H (just (aSlice E.T 22 (fget φ 28) none (some (fget φ 30)) (some (fget φ 32)))) := Z5 rfl (Zc rfl rfl)
theorem Zy5 : stepT E C B 42 Zm Zgz (φ, H) = some ((fput φ 34 (fget φ 9), H), ⟨false, [], []⟩) := Z5 rfl (Ze rfl rfl)
theorem ZyC : stepT E C B 42 Zm Zen (φ, H) = stpT (some 35) φ H (Z6 E.T (B + 35) 22 1 (evO E φ) [(0, Operand.tmp 34)]) := Z5 rfl (Zc rfl rfl)
theorem ZvZ : stepT E C B 42 Zm Zfc (φ, H) = stpT (some 36) φ H (Z1 E.T (B + 36) .append #[22, 22] [(fget φ 33), (fget φ 35)]) := Z5 rfl (Zc rfl rfl)
theorem ZtO : stepT E C B 42 Zm Z92 (φ, H) = some ((fput φ 37 (fget φ 1), H), ⟨false, [], []⟩) := Z5 rfl (Ze rfl rfl)
theorem ZrH : stepT E C B 42 Zm Z9o (φ, H) = some ((fput φ 38 (fget φ 9), H), ⟨false, [], []⟩) := Z5 rfl (Ze rfl rfl)
theorem ZrQ : stepT E C B 42 Zm Z8W (φ, H) = stpT (some 39) φ H (just (aBin E.T .sub 3 (fget φ 37) (fget φ 38))) := Z5 rfl (Zc rfl rfl)
theorem ZtR : stepT E C B 42 Zm Z8R (φ, H) = some ((fput φ 40 (fget φ 9), H), ⟨false, [], []⟩) := Z5 rfl (Ze rfl rfl)
theorem Zr4 : stepT E C B 42 Zm Z9j (φ, H) = callVT E C (B + 42 * 8) (some 41) (fun j => B + j * 42 + 41) φ H (fget φ 27) [(fget φ 36), (fget φ 39), (fget φ 40)] true := Z5 rfl (Zoq rfl rfl)
theorem ZAq : execA E C (fg 105) B 42 E0 N Z8B s = blockX 1 (fun s => (forget s.1 [], s.2)) (execA E C (fg 105) B 42 E0 N Z8m s) := Zk (by rfl) (by rfl) s
def Z8z := kR Z55
def Z1V := kO Z8z
def Zc1 := opN Z1V 0
def Zh0 := opN Z1V 1
def Zdc := opN Z1V 2
theorem ZHw : XG 105 42 Z8z Z1V [25, 26] := Z2 (by rfl) (by rfl) _
theorem ZxN : Z1V.toList = [Zc1, Zh0, Zdc] := nf
theorem ZuB : stepA E C B 42 Z1V Zc1 (φ, H) = some (fput φ 25 (fget φ 9), H) := nf
theorem Zvm : stepA E C B 42 Z1V Zh0 (φ, H) = stp (some 26) φ H (just (aBin E.T .sub 3 (fget φ 25) (.int .i64 1))) := nf
theorem Zws : stepA E C B 42 Z1V Zdc (φ, H) = some (fput φ 9 (fget φ 26), H) := nf
theorem ZFi : XQ 105 42 Z55 Z8B Z8z := Z0 (by rfl) _
theorem ZF2 : XQ 105 42 Z0F Z4T Z55 := Z0 (by rfl) _
theorem ZAU : execA E C (fg 105) B 42 E0 N Z8K s = iterA (execA E C (fg 105) B 42 E0 N Z0F) (headA E0) N s := Z0a (by rfl) s
theorem ZCo : execA E C (fg 105) B 42 E0 N Z8P s = blockX 0 (fun s => (forget s.1 [0, 1, 5, 9, 24], s.2)) (execA E C (fg 105) B 42 E0 N Z8K s) := Zk (by rfl) (by rfl) s
theorem Zzl : XQ 105 42 Z4R Z8E Z8P := Z0 (by rfl) _
theorem ZLD : XQ 105 42 Z49 Z6C Z4R := Z0 (by rfl) _
theorem ZOv : fInfo E 105 = some ⟨42, #[], Z49⟩ := nf
theorem ZUE (args : List AV) : bodyA E C fg N 105 args H B = bodyX E [] (execA E C (fg 105) B 42 H N Z49 (Z3 args 0 [], H)) := Zw ZOv args H
abbrev Z0i := And.intro (And.intro (And.intro (And.intro (And.intro (And.intro @ZMi @Zv9) (And.intro @ZuE @ZvO)) (And.intro (And.intro @Zwy @Zvp) (And.intro @ZJB @ZuP))) (And.intro (And.intro (And.intro @Zuw @Zwg) (And.intro @ZKf @Zuf)) (And.intro (And.intro @Zxh @ZwH) (And.intro @ZwG (And.intro @ZxM @Zxb))))) (And.intro (And.intro (And.intro (And.intro @ZKA @ZMJ) (And.intro @ZJT @ZAV)) (And.intro (And.intro @ZOW @ZIZ) (And.intro @ZLq (And.intro @ZPt @ZHb)))) (And.intro (And.intro (And.intro @Zul @ZwN) (And.intro @Zu4 @Zxj)) (And.intro (And.intro @ZyN @ZzT) (And.intro @Zxa (And.intro @Zw8 @Zw5)))))) (And.intro (And.intro (And.intro (And.intro (And.intro @ZDq @ZId) (And.intro @ZJ7 @ZGM)) (And.intro (And.intro @ZBx @Zxd) (And.intro @Zsu (And.intro @Zsd @Zum)))) (And.intro (And.intro (And.intro @Zu3 @ZuW) (And.intro @Zwn @ZwA)) (And.intro (And.intro @Zwx @ZwV) (And.intro @Zy5 (And.intro @ZyC @ZvZ))))) (And.intro (And.intro (And.intro (And.intro @ZtO @ZrH) (And.intro @ZrQ @ZtR)) (And.intro (And.intro @Zr4 @ZAq) (And.intro @ZHw (And.intro @ZxN @ZuB)))) (And.intro (And.intro (And.intro @Zvm @Zws) (And.intro @ZFi @ZF2)) (And.intro (And.intro @ZAU @ZCo) (And.intro @Zzl (And.intro @ZLD @ZUE))))))
end Go.AM.Ytfmnoohhhokicaa
end
end
