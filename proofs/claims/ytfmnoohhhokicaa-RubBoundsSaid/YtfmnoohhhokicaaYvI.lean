/- A part of the proof of rubBounds_holds: RsI. Own work of this project; texts printed by own programs among it. -/
import Derived.KernelRfl
import Derived.Test.YtfmnoohhhokicaaYvH
set_option maxRecDepth 1000000
set_option maxHeartbeats 16000000
noncomputable section
noncomputable section
namespace Go.AM.Ytfmnoohhhokicaa
open Go Go.AM
variable {C : Callee} {B N : Nat} {E0 : AHeap} (φ : AFr) (H : AHeap) (s : St)
def c6_0 := kBody Proofs.Try.f6
def c6_1 := kL c6_0
def r6_0 := kO c6_1
def ZDH := opN r6_0 0
theorem x6_1 : XG 6 149 c6_1 r6_0 [10] := Z1 (by rfl) (by rfl) _
theorem Z0ct : r6_0.toList = [ZDH] := nf
theorem Z08J : stepA E C B 149 r6_0 ZDH (φ, H) = some (fput φ 10 (.bool false), H) := nf
def c6_2 := kR c6_0
def c6_3 := kL c6_2
def c6_4 := kL c6_3
def r6_1 := kO c6_4
def ZJn := opN r6_1 0
def ZII := opN r6_1 1
def ZHM := opN r6_1 2
def Z5L := opN r6_1 3
def ZJ9 := opN r6_1 4
def ZHs := opN r6_1 5
def ZE7 := opN r6_1 6
def ZIt := opN r6_1 7
theorem x6_4 : XG 6 149 c6_4 r6_1 [31, 32, 33, 34, 35, 36, 37] := Z1 (by rfl) (by rfl) _
theorem Z0dC : r6_1.toList = [ZJn, ZII, ZHM, Z5L, ZJ9, ZHs, ZE7, ZIt] := nf
theorem Z07J : stepA E C B 149 r6_1 ZJn (φ, H) = some (fput φ 31 (fget φ 0), H) := nf
theorem Z09g : stepA E C B 149 r6_1 ZII (φ, H) = stp (some 32) φ H (Z2 E.T (B + 32) .len #[22] [(fget φ 31)]) := nf
theorem Z07S : stepA E C B 149 r6_1 ZHM (φ, H) = stp (some 33) φ H (just (aBin E.T .gtr 3 (fget φ 32) (.int .i64 40))) := nf
theorem Z0az : stepA E C B 149 r6_1 Z5L (φ, H) = some (fput φ 34 (fget φ 33), H) := nf
theorem Z097 : stepA E C B 149 r6_1 ZJ9 (φ, H) = gd φ 34 false (fun φ => some (fput φ 35 (.tup []), H)) (fun φ => some (fput φ 35 (fget φ 1), H)) := s_gd (j := 3) (oj := Z5L) rfl rfl rfl (fun _ => rfl) (fun _ => rfl)
theorem Z09V : stepA E C B 149 r6_1 ZHs (φ, H) = gd φ 34 false (fun φ => some (fput φ 36 (.tup []), H)) (fun φ => stp (some 36) φ H (Z2 E.T (B + 36) .len #[22] [(fget φ 35)])) := s_gd (j := 3) (oj := Z5L) rfl rfl rfl (fun _ => rfl) (fun _ => rfl)
theorem Z06c : stepA E C B 149 r6_1 ZE7 (φ, H) = gd φ 34 false (fun φ => some (fput φ 37 (.tup []), H)) (fun φ => stp (some 37) φ H (just (aBin E.T .gtr 3 (fget φ 36) (.int .i64 40)))) := s_gd (j := 3) (oj := Z5L) rfl rfl rfl (fun _ => rfl) (fun _ => rfl)
theorem Z0a8 : stepA E C B 149 r6_1 ZIt (φ, H) = stp (some 38) φ H (opPick (fget φ 34) (.bool true) (fget φ 37)) := nf
def c6_5 := kR c6_3
def c6_6 := kT c6_5
def c6_7 := kL c6_6
def r6_2 := kO c6_7
def ZGM := opN r6_2 0
def ZIV := opN r6_2 1
theorem x6_7 : XG 6 149 c6_7 r6_2 [0, 1, 2, 3, 4, 38, 39] := Z1 (by rfl) (by rfl) _
theorem Z0ab : r6_2.toList = [ZGM, ZIV] := nf
theorem Z0eL : stepA E C B 149 r6_2 ZGM (φ, H) = stp (some 39) φ H (aCall C (fun j => B + j * 149 + 39) true 17 []) := nf
theorem Z0a2 : stepA E C B 149 r6_2 ZIV (φ, H) = some (fput φ 10 (fget φ 39), H) := nf
def c6_8 := kR c6_6
theorem x6_8 : execA E C (fg 6) B 149 E0 N c6_8 s = some (.ret, s) := Zj (by rfl) s
theorem x6_6 : XQ 6 149 c6_6 c6_7 c6_8 := Z0 (by rfl) _
def c6_9 := kE c6_5
theorem x6_9 : execA E C (fg 6) B 149 E0 N c6_9 s = some (.normal, s) := Ze (by rfl) s
theorem x6_5 : XC 6 149 c6_5 38 c6_6 c6_9 := Zb (by rfl) _
theorem x6_3 : XQ 6 149 c6_3 c6_4 c6_5 := Z0 (by rfl) _
def ZhT := kR c6_2
def ZBG := kL ZhT
def r6_3 := kO ZBG
def ZJj := opN r6_3 0
def ZGn := opN r6_3 1
def ZIH := opN r6_3 2
def ZIT := opN r6_3 3
def ZIU := opN r6_3 4
def ZES := opN r6_3 5
def ZEL := opN r6_3 6
def ZIW := opN r6_3 7
theorem Z0kl : XG 6 149 ZBG r6_3 [38, 40, 41, 42, 43, 44, 45] := Z1 (by rfl) (by rfl) _
theorem Z0cc : r6_3.toList = [ZJj, ZGn, ZIH, ZIT, ZIU, ZES, ZEL, ZIW] := nf
theorem Z07o : stepA E C B 149 r6_3 ZJj (φ, H) = some (fput φ 41 (fget φ 0), H) := nf
theorem Z0ef : stepA E C B 149 r6_3 ZGn (φ, H) = some (fput φ 42 (fget φ 1), H) := nf
theorem Z0ap : stepA E C B 149 r6_3 ZIH (φ, H) = stp (some 43) φ H (aCall C (fun j => B + j * 149 + 43) true 46 [(fget φ 41), (fget φ 42)]) := nf
theorem Z07X : stepA E C B 149 r6_3 ZIT (φ, H) = some (fput φ 40 (fget φ 43), H) := nf
theorem Z09Y : stepA E C B 149 r6_3 ZIU (φ, H) = stp (some 44) φ H (Zc (fget φ 40) 0) := nf
theorem Z0a1 : stepA E C B 149 r6_3 ZES (φ, H) = stp (some 45) φ H (Zc (fget φ 40) 1) := nf
theorem Z0fo : stepA E C B 149 r6_3 ZEL (φ, H) = some (fput φ 11 (fget φ 44), H) := nf
theorem Z08M : stepA E C B 149 r6_3 ZIW (φ, H) = some (fput φ 12 (fget φ 45), H) := nf
def ZgY := kR ZhT
def ZBg := kL ZgY
def r6_4 := kO ZBg
def ZGp := opN r6_4 0
def ZGD := opN r6_4 1
def ZER := opN r6_4 2
def ZFG := opN r6_4 3
def ZG3 := opN r6_4 4
def ZFQ := opN r6_4 5
def ZJ1 := opN r6_4 6
def ZEa := opN r6_4 7
theorem Z0ks : XG 6 149 ZBg r6_4 [46, 47, 48, 49, 50, 51] := Z1 (by rfl) (by rfl) _
theorem Z081 : r6_4.toList = [ZGp, ZGD, ZER, ZFG, ZG3, ZFQ, ZJ1, ZEa] := nf
theorem Z0a7 : stepA E C B 149 r6_4 ZGp (φ, H) = some (fput φ 47 (fget φ 0), H) := nf
theorem Z09v : stepA E C B 149 r6_4 ZGD (φ, H) = some (fput φ 48 (fget φ 1), H) := nf
theorem Z08G : stepA E C B 149 r6_4 ZER (φ, H) = stp (some 49) φ H (aCall C (fun j => B + j * 149 + 49) true 47 [(fget φ 47), (fget φ 48)]) := nf
theorem Z0bX : stepA E C B 149 r6_4 ZFG (φ, H) = some (fput φ 46 (fget φ 49), H) := nf
theorem Z08w : stepA E C B 149 r6_4 ZG3 (φ, H) = stp (some 50) φ H (Zc (fget φ 46) 0) := nf
theorem Z09O : stepA E C B 149 r6_4 ZFQ (φ, H) = stp (some 51) φ H (Zc (fget φ 46) 1) := nf
theorem Z09E : stepA E C B 149 r6_4 ZJ1 (φ, H) = some (fput φ 13 (fget φ 50), H) := nf
theorem Z08f : stepA E C B 149 r6_4 ZEa (φ, H) = some (fput φ 14 (fget φ 51), H) := nf
def ZhH := kR ZgY
def ZCe := kL ZhH
def r6_5 := kO ZCe
def ZJf := opN r6_5 0
def ZFn := opN r6_5 1
def ZEY := opN r6_5 2
def ZHg := opN r6_5 3
def ZEF := opN r6_5 4
def ZDY := opN r6_5 5
def ZHn := opN r6_5 6
def ZJ7 := opN r6_5 7
theorem Z0hJ : XG 6 149 ZCe r6_5 [52, 53, 54, 55, 56, 57] := Z1 (by rfl) (by rfl) _
theorem Z0eU : r6_5.toList = [ZJf, ZFn, ZEY, ZHg, ZEF, ZDY, ZHn, ZJ7] := nf
theorem Z08v : stepA E C B 149 r6_5 ZJf (φ, H) = some (fput φ 53 (fget φ 0), H) := nf
theorem Z0cw : stepA E C B 149 r6_5 ZFn (φ, H) = some (fput φ 54 (fget φ 1), H) := nf
theorem Z0bZ : stepA E C B 149 r6_5 ZEY (φ, H) = stp (some 55) φ H (aCall C (fun j => B + j * 149 + 55) true 48 [(fget φ 53), (fget φ 54)]) := nf
theorem Z0e5 : stepA E C B 149 r6_5 ZHg (φ, H) = some (fput φ 52 (fget φ 55), H) := nf
theorem Z08u : stepA E C B 149 r6_5 ZEF (φ, H) = stp (some 56) φ H (Zc (fget φ 52) 0) := nf
theorem Z0cn : stepA E C B 149 r6_5 ZDY (φ, H) = stp (some 57) φ H (Zc (fget φ 52) 1) := nf
theorem Z099 : stepA E C B 149 r6_5 ZHn (φ, H) = some (fput φ 15 (fget φ 56), H) := nf
theorem Z06k : stepA E C B 149 r6_5 ZJ7 (φ, H) = some (fput φ 16 (fget φ 57), H) := nf
def ZhC := kR ZhH
def ZD8 := kL ZhC
def r6_6 := kO ZD8
def ZIO := opN r6_6 0
def ZGd := opN r6_6 1
def ZGo := opN r6_6 2
def ZIb := opN r6_6 3
def ZFu := opN r6_6 4
def ZFl := opN r6_6 5
def ZF6 := opN r6_6 6
def ZHW := opN r6_6 7
theorem Z0hi : XG 6 149 ZD8 r6_6 [1, 58, 59, 60, 61, 62, 63] := Z1 (by rfl) (by rfl) _
theorem Z08T : r6_6.toList = [ZIO, ZGd, ZGo, ZIb, ZFu, ZFl, ZF6, ZHW] := nf
theorem Z0cd : stepA E C B 149 r6_6 ZIO (φ, H) = some (fput φ 59 (fget φ 0), H) := nf
theorem Z07e : stepA E C B 149 r6_6 ZGd (φ, H) = some (fput φ 60 (fget φ 1), H) := nf
theorem Z0bK : stepA E C B 149 r6_6 ZGo (φ, H) = stp (some 61) φ H (aCall C (fun j => B + j * 149 + 61) true 49 [(fget φ 59), (fget φ 60)]) := nf
theorem Z09y : stepA E C B 149 r6_6 ZIb (φ, H) = some (fput φ 58 (fget φ 61), H) := nf
theorem Z0ex : stepA E C B 149 r6_6 ZFu (φ, H) = stp (some 62) φ H (Zc (fget φ 58) 0) := nf
theorem Z07C : stepA E C B 149 r6_6 ZFl (φ, H) = stp (some 63) φ H (Zc (fget φ 58) 1) := nf
theorem Z06s : stepA E C B 149 r6_6 ZF6 (φ, H) = some (fput φ 17 (fget φ 62), H) := nf
theorem Z0bd : stepA E C B 149 r6_6 ZHW (φ, H) = some (fput φ 18 (fget φ 63), H) := nf
def ZgX := kR ZhC
def Zgt := kL ZgX
def ZCG := kL Zgt
def r6_7 := kO ZCG
def ZIk := opN r6_7 0
def ZFp := opN r6_7 1
def ZGN := opN r6_7 2
def ZI9 := opN r6_7 3
def Z5M := opN r6_7 4
def ZHj := opN r6_7 5
def ZDS := opN r6_7 6
def ZH4 := opN r6_7 7
def ZFH := opN r6_7 8
def Z54 := opN r6_7 9
def ZyU := opN r6_7 10
def ZuM := opN r6_7 11
def ZAB := opN r6_7 12
def ZxB := opN r6_7 13
def Zxg := opN r6_7 14
def Z4D := opN r6_7 15
def Zw1 := opN r6_7 16
def ZzK := opN r6_7 17
def Zvx := opN r6_7 18
def ZxG := opN r6_7 19
theorem Z0hA : XG 6 149 ZCG r6_7 [11, 12, 13, 14, 15, 16, 17, 18, 64, 65, 66, 67, 68, 69, 70, 71, 72, 73, 74, 75, 76, 77, 78, 79, 80, 81, 82] := Z1 (by rfl) (by rfl) _
theorem Z09i : r6_7.toList = [ZIk, ZFp, ZGN, ZI9, Z5M, ZHj, ZDS, ZH4, ZFH, Z54, ZyU, ZuM, ZAB, ZxB, Zxg, Z4D, Zw1, ZzK, Zvx, ZxG] := nf
theorem Z0f5 : stepA E C B 149 r6_7 ZIk (φ, H) = some (fput φ 64 (fget φ 11), H) := nf
theorem Z09o : stepA E C B 149 r6_7 ZFp (φ, H) = some (fput φ 65 (fget φ 13), H) := nf
theorem Z0cV : stepA E C B 149 r6_7 ZGN (φ, H) = stp (some 66) φ H (aCall C (fun j => B + j * 149 + 66) true 24 [(fget φ 64), (fget φ 65)]) := nf
theorem Z0d4 : stepA E C B 149 r6_7 ZI9 (φ, H) = stp (some 67) φ H (justO (aUn .not (fget φ 66))) := nf
theorem Z073 : stepA E C B 149 r6_7 Z5M (φ, H) = some (fput φ 68 (fget φ 67), H) := nf
theorem Z07l : stepA E C B 149 r6_7 ZHj (φ, H) = gd φ 68 false (fun φ => some (fput φ 69 (.tup []), H)) (fun φ => some (fput φ 69 (fget φ 12), H)) := s_gd (j := 4) (oj := Z5M) rfl rfl rfl (fun _ => rfl) (fun _ => rfl)
theorem Z0a9 : stepA E C B 149 r6_7 ZDS (φ, H) = gd φ 68 false (fun φ => some (fput φ 70 (.tup []), H)) (fun φ => some (fput φ 70 (fget φ 14), H)) := s_gd (j := 4) (oj := Z5M) rfl rfl rfl (fun _ => rfl) (fun _ => rfl)
theorem Z0ew : stepA E C B 149 r6_7 ZH4 (φ, H) = gd φ 68 false (fun φ => some (fput φ 71 (.tup []), H)) (fun φ => stp (some 71) φ H (just (aBin E.T .neq 24 (fget φ 69) (fget φ 70)))) := s_gd (j := 4) (oj := Z5M) rfl rfl rfl (fun _ => rfl) (fun _ => rfl)
theorem Z0by : stepA E C B 149 r6_7 ZFH (φ, H) = stp (some 72) φ H (opPick (fget φ 68) (.bool true) (fget φ 71)) := nf
theorem Z07Q : stepA E C B 149 r6_7 Z54 (φ, H) = some (fput φ 73 (fget φ 72), H) := nf
theorem ZZK : stepA E C B 149 r6_7 ZyU (φ, H) = gd φ 73 false (fun φ => some (fput φ 74 (.tup []), H)) (fun φ => some (fput φ 74 (fget φ 15), H)) := s_gd (j := 9) (oj := Z54) rfl rfl rfl (fun _ => rfl) (fun _ => rfl)
theorem ZRR : stepA E C B 149 r6_7 ZuM (φ, H) = gd φ 73 false (fun φ => some (fput φ 75 (.tup []), H)) (fun φ => some (fput φ 75 (fget φ 17), H)) := s_gd (j := 9) (oj := Z54) rfl rfl rfl (fun _ => rfl) (fun _ => rfl)
theorem ZYg : stepA E C B 149 r6_7 ZAB (φ, H) = gd φ 73 false (fun φ => some (fput φ 76 (.tup []), H)) (fun φ => stp (some 76) φ H (aCall C (fun j => B + j * 149 + 76) true 24 [(fget φ 74), (fget φ 75)])) := s_gd (j := 9) (oj := Z54) rfl rfl rfl (fun _ => rfl) (fun _ => rfl)
theorem ZTX : stepA E C B 149 r6_7 ZxB (φ, H) = gd φ 73 false (fun φ => some (fput φ 77 (.tup []), H)) (fun φ => stp (some 77) φ H (justO (aUn .not (fget φ 76)))) := s_gd (j := 9) (oj := Z54) rfl rfl rfl (fun _ => rfl) (fun _ => rfl)
theorem ZZ2 : stepA E C B 149 r6_7 Zxg (φ, H) = stp (some 78) φ H (opPick (fget φ 73) (.bool true) (fget φ 77)) := nf
theorem Z050 : stepA E C B 149 r6_7 Z4D (φ, H) = some (fput φ 79 (fget φ 78), H) := nf
theorem ZSe : stepA E C B 149 r6_7 Zw1 (φ, H) = gd φ 79 false (fun φ => some (fput φ 80 (.tup []), H)) (fun φ => some (fput φ 80 (fget φ 16), H)) := s_gd (j := 15) (oj := Z4D) rfl rfl rfl (fun _ => rfl) (fun _ => rfl)
theorem ZV5 : stepA E C B 149 r6_7 ZzK (φ, H) = gd φ 79 false (fun φ => some (fput φ 81 (.tup []), H)) (fun φ => some (fput φ 81 (fget φ 18), H)) := s_gd (j := 15) (oj := Z4D) rfl rfl rfl (fun _ => rfl) (fun _ => rfl)
theorem Z00C : stepA E C B 149 r6_7 Zvx (φ, H) = gd φ 79 false (fun φ => some (fput φ 82 (.tup []), H)) (fun φ => stp (some 82) φ H (just (aBin E.T .neq 24 (fget φ 80) (fget φ 81)))) := s_gd (j := 15) (oj := Z4D) rfl rfl rfl (fun _ => rfl) (fun _ => rfl)
theorem ZVO : stepA E C B 149 r6_7 ZxG (φ, H) = stp (some 83) φ H (opPick (fget φ 79) (.bool true) (fget φ 82)) := nf
def Zh3 := kR Zgt
def Zh0 := kT Zh3
def ZCd := kL Zh0
def r6_8 := kO ZCd
def ZF8 := opN r6_8 0
theorem Z0h7 : XG 6 149 ZCd r6_8 [0, 2, 3, 4, 83] := Z1 (by rfl) (by rfl) _
theorem Z06V : r6_8.toList = [ZF8] := nf
theorem Z07s : stepA E C B 149 r6_8 ZF8 (φ, H) = some (fput φ 10 (.bool false), H) := nf
def ZRs := kR Zh0
theorem Z0jW : execA E C (fg 6) B 149 E0 N ZRs s = some (.ret, s) := Zj (by rfl) s
theorem Z0gy : XQ 6 149 Zh0 ZCd ZRs := Z0 (by rfl) _
def ZRA := kE Zh3
theorem Z0kq : execA E C (fg 6) B 149 E0 N ZRA s = some (.normal, s) := Ze (by rfl) s
theorem Z0jI : XC 6 149 Zh3 83 Zh0 ZRA := Zb (by rfl) _
theorem Z0jj : XQ 6 149 Zgt ZCG Zh3 := Z0 (by rfl) _
def Zhl := kR ZgX
def ZCu := kL Zhl
def r6_9 := kO ZCu
def ZDU := opN r6_9 0
def ZGU := opN r6_9 1
def ZI0 := opN r6_9 2
def ZFj := opN r6_9 3
def ZDP := opN r6_9 4
def ZDx := opN r6_9 5
def ZHo := opN r6_9 6
def ZDF := opN r6_9 7
theorem Z0jH : XG 6 149 ZCu r6_9 [83, 84, 85, 86, 87, 88, 89] := Z1 (by rfl) (by rfl) _
theorem Z0df : r6_9.toList = [ZDU, ZGU, ZI0, ZFj, ZDP, ZDx, ZHo, ZDF] := nf
theorem Z06i : stepA E C B 149 r6_9 ZDU (φ, H) = some (fput φ 85 (fget φ 2), H) := nf
theorem Z0bF : stepA E C B 149 r6_9 ZGU (φ, H) = some (fput φ 86 (fget φ 3), H) := nf
theorem Z08Z : stepA E C B 149 r6_9 ZI0 (φ, H) = stp (some 87) φ H (aCall C (fun j => B + j * 149 + 87) true 50 [(fget φ 85), (fget φ 86)]) := nf
theorem Z0ca : stepA E C B 149 r6_9 ZFj (φ, H) = some (fput φ 84 (fget φ 87), H) := nf
theorem Z088 : stepA E C B 149 r6_9 ZDP (φ, H) = stp (some 88) φ H (Zc (fget φ 84) 0) := nf
theorem Z0en : stepA E C B 149 r6_9 ZDx (φ, H) = stp (some 89) φ H (Zc (fget φ 84) 1) := nf
theorem Z0dO : stepA E C B 149 r6_9 ZHo (φ, H) = some (fput φ 19 (fget φ 88), H) := nf
theorem Z08t : stepA E C B 149 r6_9 ZDF (φ, H) = some (fput φ 20 (fget φ 89), H) := nf
def Zis := kR Zhl
def ZDk := kL Zis
def Z0t := kO ZDk
def ZsL := opN Z0t 0
def ZxX := opN Z0t 1
def Zw6 := opN Z0t 2
def Zsw := opN Z0t 3
def Zxm := opN Z0t 4
def ZsP := opN Z0t 5
def ZzN := opN Z0t 6
def Zxp := opN Z0t 7
theorem Z0gP : XG 6 149 ZDk Z0t [2, 3, 90, 91, 92, 93, 94, 95] := Z1 (by rfl) (by rfl) _
theorem ZWn : Z0t.toList = [ZsL, ZxX, Zw6, Zsw, Zxm, ZsP, ZzN, Zxp] := nf
theorem ZYn : stepA E C B 149 Z0t ZsL (φ, H) = some (fput φ 91 (fget φ 2), H) := nf
theorem ZUs : stepA E C B 149 Z0t ZxX (φ, H) = some (fput φ 92 (fget φ 3), H) := nf
theorem ZY8 : stepA E C B 149 Z0t Zw6 (φ, H) = stp (some 93) φ H (aCall C (fun j => B + j * 149 + 93) true 51 [(fget φ 91), (fget φ 92)]) := nf
theorem ZZF : stepA E C B 149 Z0t Zsw (φ, H) = some (fput φ 90 (fget φ 93), H) := nf
theorem ZRX : stepA E C B 149 Z0t Zxm (φ, H) = stp (some 94) φ H (Zc (fget φ 90) 0) := nf
theorem ZXL : stepA E C B 149 Z0t ZsP (φ, H) = stp (some 95) φ H (Zc (fget φ 90) 1) := nf
theorem ZWL : stepA E C B 149 Z0t ZzN (φ, H) = some (fput φ 21 (fget φ 94), H) := nf
theorem ZRH : stepA E C B 149 Z0t Zxp (φ, H) = some (fput φ 22 (fget φ 95), H) := nf
def ZhJ := kR Zis
def ZDg := kL ZhJ
def Z0K := kO ZDg
def ZAY := opN Z0K 0
def Zz4 := opN Z0K 1
def ZtX := opN Z0K 2
def Zvr := opN Z0K 3
def Zvf := opN Z0K 4
def ZwI := opN Z0K 5
def Zyb := opN Z0K 6
theorem Z0fp : XG 6 149 ZDg Z0K [96, 97, 98, 99, 100] := Z1 (by rfl) (by rfl) _
theorem Z01u : Z0K.toList = [ZAY, Zz4, ZtX, Zvr, Zvf, ZwI, Zyb] := nf
theorem Z01T : stepA E C B 149 Z0K ZAY (φ, H) = some (fput φ 97 (fget φ 0), H) := nf
theorem ZWY : stepA E C B 149 Z0K Zz4 (φ, H) = stp (some 98) φ H (aCall C (fun j => B + j * 149 + 98) true 52 [(fget φ 97)]) := nf
theorem Z00k : stepA E C B 149 Z0K ZtX (φ, H) = some (fput φ 96 (fget φ 98), H) := nf
theorem ZZL : stepA E C B 149 Z0K Zvr (φ, H) = stp (some 99) φ H (Zc (fget φ 96) 0) := nf
theorem Z01c : stepA E C B 149 Z0K Zvf (φ, H) = stp (some 100) φ H (Zc (fget φ 96) 1) := nf
theorem Z020 : stepA E C B 149 Z0K ZwI (φ, H) = some (fput φ 23 (fget φ 99), H) := nf
theorem Z02D : stepA E C B 149 Z0K Zyb (φ, H) = some (fput φ 24 (fget φ 100), H) := nf
def Zha := kR ZhJ
def ZBw := kL Zha
def Z0O := kO ZBw
def Zvm := opN Z0O 0
def Zxr := opN Z0O 1
def Zx4 := opN Z0O 2
def Zva := opN Z0O 3
def Zy9 := opN Z0O 4
def Zsy := opN Z0O 5
def ZyL := opN Z0O 6
theorem Z0gg : XG 6 149 ZBw Z0O [101, 102, 103, 104, 105] := Z1 (by rfl) (by rfl) _
theorem ZWr : Z0O.toList = [Zvm, Zxr, Zx4, Zva, Zy9, Zsy, ZyL] := nf
theorem Z02F : stepA E C B 149 Z0O Zvm (φ, H) = some (fput φ 102 (fget φ 0), H) := nf
theorem Z02e : stepA E C B 149 Z0O Zxr (φ, H) = stp (some 103) φ H (aCall C (fun j => B + j * 149 + 103) true 53 [(fget φ 102)]) := nf
theorem Z05a : stepA E C B 149 Z0O Zx4 (φ, H) = some (fput φ 101 (fget φ 103), H) := nf
theorem Z02H : stepA E C B 149 Z0O Zva (φ, H) = stp (some 104) φ H (Zc (fget φ 101) 0) := nf
theorem Z04x : stepA E C B 149 Z0O Zy9 (φ, H) = stp (some 105) φ H (Zc (fget φ 101) 1) := nf
theorem Z00t : stepA E C B 149 Z0O Zsy (φ, H) = some (fput φ 25 (fget φ 104), H) := nf
theorem Z03i : stepA E C B 149 Z0O ZyL (φ, H) = some (fput φ 26 (fget φ 105), H) := nf
def Zi5 := kR Zha
def ZBR := kL Zi5
def Z0s := kO ZBR
def Ztz := opN Z0s 0
def ZvM := opN Z0s 1
def ZtN := opN Z0s 2
def Zvl := opN Z0s 3
def ZtZ := opN Z0s 4
def ZtD := opN Z0s 5
def Zun := opN Z0s 6
def ZuL := opN Z0s 7
theorem Z0iX : XG 6 149 ZBR Z0s [106, 107, 108, 109, 110, 111] := Z1 (by rfl) (by rfl) _
theorem ZYr : Z0s.toList = [Ztz, ZvM, ZtN, Zvl, ZtZ, ZtD, Zun, ZuL] := nf
theorem ZTv : stepA E C B 149 Z0s Ztz (φ, H) = some (fput φ 107 (fget φ 0), H) := nf
theorem ZWD : stepA E C B 149 Z0s ZvM (φ, H) = some (fput φ 108 (fget φ 4), H) := nf
theorem ZXQ : stepA E C B 149 Z0s ZtN (φ, H) = stp (some 109) φ H (aCall C (fun j => B + j * 149 + 109) true 54 [(fget φ 107), (fget φ 108)]) := nf
theorem ZYT : stepA E C B 149 Z0s Zvl (φ, H) = some (fput φ 106 (fget φ 109), H) := nf
theorem ZUe : stepA E C B 149 Z0s ZtZ (φ, H) = stp (some 110) φ H (Zc (fget φ 106) 0) := nf
theorem ZTL : stepA E C B 149 Z0s ZtD (φ, H) = stp (some 111) φ H (Zc (fget φ 106) 1) := nf
theorem ZZW : stepA E C B 149 Z0s Zun (φ, H) = some (fput φ 27 (fget φ 110), H) := nf
theorem Z00s : stepA E C B 149 Z0s ZuL (φ, H) = some (fput φ 28 (fget φ 111), H) := nf
def Zi0 := kR Zi5
def ZCp := kL Zi0
def Z0q := kO ZCp
def Zs4 := opN Z0q 0
def ZA5 := opN Z0q 1
def Zyd := opN Z0q 2
def ZAD := opN Z0q 3
def ZB4 := opN Z0q 4
def Zys := opN Z0q 5
def Zyv := opN Z0q 6
def Zy8 := opN Z0q 7
theorem Z0hn : XG 6 149 ZCp Z0q [0, 4, 112, 113, 114, 115, 116, 117] := Z1 (by rfl) (by rfl) _
theorem Z02y : Z0q.toList = [Zs4, ZA5, Zyd, ZAD, ZB4, Zys, Zyv, Zy8] := nf
theorem ZUX : stepA E C B 149 Z0q Zs4 (φ, H) = some (fput φ 113 (fget φ 0), H) := nf
theorem Z02x : stepA E C B 149 Z0q ZA5 (φ, H) = some (fput φ 114 (fget φ 4), H) := nf
theorem Z02g : stepA E C B 149 Z0q Zyd (φ, H) = stp (some 115) φ H (aCall C (fun j => B + j * 149 + 115) true 55 [(fget φ 113), (fget φ 114)]) := nf
theorem ZU8 : stepA E C B 149 Z0q ZAD (φ, H) = some (fput φ 112 (fget φ 115), H) := nf
theorem ZZw : stepA E C B 149 Z0q ZB4 (φ, H) = stp (some 116) φ H (Zc (fget φ 112) 0) := nf
theorem Z03l : stepA E C B 149 Z0q Zys (φ, H) = stp (some 117) φ H (Zc (fget φ 112) 1) := nf
theorem Z03R : stepA E C B 149 Z0q Zyv (φ, H) = some (fput φ 29 (fget φ 116), H) := nf
theorem ZSF : stepA E C B 149 Z0q Zy8 (φ, H) = some (fput φ 30 (fget φ 117), H) := nf
def Zgx := kR Zi0
def ZBu := kL Zgx
def Zg := kO ZBu
def ZAj := opN Zg 0
def ZxQ := opN Zg 1
def ZxY := opN Zg 2
def Z4Z := opN Zg 3
def ZzX := opN Zg 4
def ZsB := opN Zg 5
def Zuc := opN Zg 6
def ZrY := opN Zg 7
def Z4S := opN Zg 8
def Zu6 := opN Zg 9
def Zqa := opN Zg 10
def ZmZ := opN Zg 11
def Zoy := opN Zg 12
def Z3L := opN Zg 13
def Zn7 := opN Zg 14
def Zrd := opN Zg 15
def ZmI := opN Zg 16
def Zm8 := opN Zg 17
def Z3O := opN Zg 18
def Ziz := opN Zg 19
def ZlO := opN Zg 20
def ZiG := opN Zg 21
def Zot := opN Zg 22
def Z3G := opN Zg 23
def Zjr := opN Zg 24
def ZqF := opN Zg 25
def ZlH := opN Zg 26
def Zje := opN Zg 27
def Z81 := opN Zg 28
def Zlt := opN Zg 29
def Zlx := opN Zg 30
def ZiJ := opN Zg 31
theorem Z0hr : XG 6 149 ZBu Zg [19, 20, 21, 22, 23, 24, 25, 26, 27, 28, 29, 30, 118, 119, 120, 121, 122, 123, 124, 125, 126, 127, 128, 129, 130, 131, 132, 133, 134, 135, 136, 137, 138, 139, 140, 141, 142, 143, 144, 145, 146, 147, 148] := Z1 (by rfl) (by rfl) _
theorem Z021 : Zg.toList = [ZAj, ZxQ, ZxY, Z4Z, ZzX, ZsB, Zuc, ZrY, Z4S, Zu6, Zqa, ZmZ, Zoy, Z3L, Zn7, Zrd, ZmI, Zm8, Z3O, Ziz, ZlO, ZiG, Zot, Z3G, Zjr, ZqF, ZlH, Zje, Z81, Zlt, Zlx, ZiJ] := nf
theorem Z03V : stepA E C B 149 Zg ZAj (φ, H) = some (fput φ 118 (fget φ 19), H) := nf
theorem ZU1 : stepA E C B 149 Zg ZxQ (φ, H) = some (fput φ 119 (fget φ 21), H) := nf
theorem ZXo : stepA E C B 149 Zg ZxY (φ, H) = stp (some 120) φ H (just (aBin E.T .eql 3 (fget φ 118) (fget φ 119))) := nf
theorem ZT2 : stepA E C B 149 Zg Z4Z (φ, H) = some (fput φ 121 (fget φ 120), H) := nf
theorem Z00u : stepA E C B 149 Zg ZzX (φ, H) = gd φ 121 true (fun φ => some (fput φ 122 (.tup []), H)) (fun φ => some (fput φ 122 (fget φ 20), H)) := s_gd (j := 3) (oj := Z4Z) rfl rfl rfl (fun _ => rfl) (fun _ => rfl)
theorem ZSH : stepA E C B 149 Zg ZsB (φ, H) = gd φ 121 true (fun φ => some (fput φ 123 (.tup []), H)) (fun φ => some (fput φ 123 (fget φ 22), H)) := s_gd (j := 3) (oj := Z4Z) rfl rfl rfl (fun _ => rfl) (fun _ => rfl)
theorem ZXq : stepA E C B 149 Zg Zuc (φ, H) = gd φ 121 true (fun φ => some (fput φ 124 (.tup []), H)) (fun φ => stp (some 124) φ H (just (aBin E.T .eql 24 (fget φ 122) (fget φ 123)))) := s_gd (j := 3) (oj := Z4Z) rfl rfl rfl (fun _ => rfl) (fun _ => rfl)
theorem Z05Q : stepA E C B 149 Zg ZrY (φ, H) = stp (some 125) φ H (opPick (fget φ 121) (fget φ 124) (.bool false)) := nf
theorem Z04E : stepA E C B 149 Zg Z4S (φ, H) = some (fput φ 126 (fget φ 125), H) := nf
theorem ZZm : stepA E C B 149 Zg Zu6 (φ, H) = gd φ 126 true (fun φ => some (fput φ 127 (.tup []), H)) (fun φ => some (fput φ 127 (fget φ 23), H)) := s_gd (j := 8) (oj := Z4S) rfl rfl rfl (fun _ => rfl) (fun _ => rfl)
theorem ZM4 : stepA E C B 149 Zg Zqa (φ, H) = gd φ 126 true (fun φ => some (fput φ 128 (.tup []), H)) (fun φ => some (fput φ 128 (fget φ 25), H)) := s_gd (j := 8) (oj := Z4S) rfl rfl rfl (fun _ => rfl) (fun _ => rfl)
theorem ZJZ : stepA E C B 149 Zg ZmZ (φ, H) = gd φ 126 true (fun φ => some (fput φ 129 (.tup []), H)) (fun φ => stp (some 129) φ H (aCall C (fun j => B + j * 149 + 129) true 24 [(fget φ 127), (fget φ 128)])) := s_gd (j := 8) (oj := Z4S) rfl rfl rfl (fun _ => rfl) (fun _ => rfl)
theorem ZMk : stepA E C B 149 Zg Zoy (φ, H) = stp (some 130) φ H (opPick (fget φ 126) (fget φ 129) (.bool false)) := nf
theorem ZOf : stepA E C B 149 Zg Z3L (φ, H) = some (fput φ 131 (fget φ 130), H) := nf
theorem ZLY : stepA E C B 149 Zg Zn7 (φ, H) = gd φ 131 true (fun φ => some (fput φ 132 (.tup []), H)) (fun φ => some (fput φ 132 (fget φ 24), H)) := s_gd (j := 13) (oj := Z3L) rfl rfl rfl (fun _ => rfl) (fun _ => rfl)
theorem ZQM : stepA E C B 149 Zg Zrd (φ, H) = gd φ 131 true (fun φ => some (fput φ 133 (.tup []), H)) (fun φ => some (fput φ 133 (fget φ 26), H)) := s_gd (j := 13) (oj := Z3L) rfl rfl rfl (fun _ => rfl) (fun _ => rfl)
theorem ZMa : stepA E C B 149 Zg ZmI (φ, H) = gd φ 131 true (fun φ => some (fput φ 134 (.tup []), H)) (fun φ => stp (some 134) φ H (just (aBin E.T .eql 24 (fget φ 132) (fget φ 133)))) := s_gd (j := 13) (oj := Z3L) rfl rfl rfl (fun _ => rfl) (fun _ => rfl)
theorem ZKg : stepA E C B 149 Zg Zm8 (φ, H) = stp (some 135) φ H (opPick (fget φ 131) (fget φ 134) (.bool false)) := nf
theorem ZN8 : stepA E C B 149 Zg Z3O (φ, H) = some (fput φ 136 (fget φ 135), H) := nf
theorem ZK9 : stepA E C B 149 Zg Ziz (φ, H) = gd φ 136 true (fun φ => some (fput φ 137 (.tup []), H)) (fun φ => some (fput φ 137 (fget φ 27), H)) := s_gd (j := 18) (oj := Z3O) rfl rfl rfl (fun _ => rfl) (fun _ => rfl)
theorem ZLr : stepA E C B 149 Zg ZlO (φ, H) = gd φ 136 true (fun φ => some (fput φ 138 (.tup []), H)) (fun φ => some (fput φ 138 (fget φ 29), H)) := s_gd (j := 18) (oj := Z3O) rfl rfl rfl (fun _ => rfl) (fun _ => rfl)
theorem ZOX : stepA E C B 149 Zg ZiG (φ, H) = gd φ 136 true (fun φ => some (fput φ 139 (.tup []), H)) (fun φ => stp (some 139) φ H (just (aBin E.T .eql 3 (fget φ 137) (fget φ 138)))) := s_gd (j := 18) (oj := Z3O) rfl rfl rfl (fun _ => rfl) (fun _ => rfl)
theorem ZPC : stepA E C B 149 Zg Zot (φ, H) = stp (some 140) φ H (opPick (fget φ 136) (fget φ 139) (.bool false)) := nf
theorem ZKx : stepA E C B 149 Zg Z3G (φ, H) = some (fput φ 141 (fget φ 140), H) := nf
theorem ZNY : stepA E C B 149 Zg Zjr (φ, H) = gd φ 141 true (fun φ => some (fput φ 142 (.tup []), H)) (fun φ => some (fput φ 142 (fget φ 28), H)) := s_gd (j := 23) (oj := Z3G) rfl rfl rfl (fun _ => rfl) (fun _ => rfl)
theorem ZNQ : stepA E C B 149 Zg ZqF (φ, H) = gd φ 141 true (fun φ => some (fput φ 143 (.tup []), H)) (fun φ => some (fput φ 143 (fget φ 30), H)) := s_gd (j := 23) (oj := Z3G) rfl rfl rfl (fun _ => rfl) (fun _ => rfl)
theorem ZOr : stepA E C B 149 Zg ZlH (φ, H) = gd φ 141 true (fun φ => some (fput φ 144 (.tup []), H)) (fun φ => stp (some 144) φ H (just (aBin E.T .eql 24 (fget φ 142) (fget φ 143)))) := s_gd (j := 23) (oj := Z3G) rfl rfl rfl (fun _ => rfl) (fun _ => rfl)
theorem ZMJ : stepA E C B 149 Zg Zje (φ, H) = stp (some 145) φ H (opPick (fget φ 141) (fget φ 144) (.bool false)) := nf
theorem ZO0 : stepA E C B 149 Zg Z81 (φ, H) = some (fput φ 146 (fget φ 145), H) := nf
theorem ZNs : stepA E C B 149 Zg Zlt (φ, H) = gd φ 146 true (fun φ => some (fput φ 147 (.tup []), H)) (fun φ => stp (some 147) φ H (aCall C (fun j => B + j * 149 + 147) true 17 [])) := s_gd (j := 28) (oj := Z81) rfl rfl rfl (fun _ => rfl) (fun _ => rfl)
theorem ZPG : stepA E C B 149 Zg Zlx (φ, H) = stp (some 148) φ H (opPick (fget φ 146) (fget φ 147) (.bool false)) := nf
theorem ZL2 : stepA E C B 149 Zg ZiJ (φ, H) = some (fput φ 10 (fget φ 148), H) := nf
def ZRF := kR Zgx
theorem Z0g9 : execA E C (fg 6) B 149 E0 N ZRF s = some (.ret, s) := Zj (by rfl) s
theorem Z0iD : XQ 6 149 Zgx ZBu ZRF := Z0 (by rfl) _
theorem Z0il : XQ 6 149 Zi0 ZCp Zgx := Z0 (by rfl) _
theorem Z0jr : XQ 6 149 Zi5 ZBR Zi0 := Z0 (by rfl) _
theorem Z0jO : XQ 6 149 Zha ZBw Zi5 := Z0 (by rfl) _
theorem Z0fI : XQ 6 149 ZhJ ZDg Zha := Z0 (by rfl) _
theorem Z0hU : XQ 6 149 Zis ZDk ZhJ := Z0 (by rfl) _
theorem Z0i4 : XQ 6 149 Zhl ZCu Zis := Z0 (by rfl) _
theorem Z0gc : XQ 6 149 ZgX Zgt Zhl := Z0 (by rfl) _
theorem Z0gh : XQ 6 149 ZhC ZD8 ZgX := Z0 (by rfl) _
theorem Z0k4 : XQ 6 149 ZhH ZCe ZhC := Z0 (by rfl) _
theorem Z0if : XQ 6 149 ZgY ZBg ZhH := Z0 (by rfl) _
theorem Z0fA : XQ 6 149 ZhT ZBG ZgY := Z0 (by rfl) _
theorem x6_2 : XQ 6 149 c6_2 c6_3 ZhT := Z0 (by rfl) _
theorem x6_0 : XQ 6 149 c6_0 c6_1 c6_2 := Z0 (by rfl) _
theorem fi_6 : fInfo E 6 = some ⟨149, #[.tmp 10], c6_0⟩ := nf
theorem b_6 (args : List AV) : bodyA E C fg N 6 args H B = bodyX E [.tmp 10] (execA E C (fg 6) B 149 H N c6_0 (Z4 args 0 [], H)) := Zq fi_6 args H
abbrev F_6 := And.intro (And.intro (And.intro (And.intro (And.intro (And.intro (And.intro @x6_1 (And.intro @Z0ct @Z08J)) (And.intro @x6_4 (And.intro @Z0dC @Z07J))) (And.intro (And.intro @Z09g (And.intro @Z07S @Z0az)) (And.intro @Z097 (And.intro @Z09V @Z06c)))) (And.intro (And.intro (And.intro @Z0a8 (And.intro @x6_7 @Z0ab)) (And.intro @Z0eL (And.intro @Z0a2 @x6_8))) (And.intro (And.intro @x6_6 (And.intro @x6_9 @x6_5)) (And.intro (And.intro @x6_3 @Z0kl) (And.intro @Z0cc @Z07o))))) (And.intro (And.intro (And.intro (And.intro @Z0ef (And.intro @Z0ap @Z07X)) (And.intro @Z09Y (And.intro @Z0a1 @Z0fo))) (And.intro (And.intro @Z08M (And.intro @Z0ks @Z081)) (And.intro @Z0a7 (And.intro @Z09v @Z08G)))) (And.intro (And.intro (And.intro @Z0bX (And.intro @Z08w @Z09O)) (And.intro @Z09E (And.intro @Z08f @Z0hJ))) (And.intro (And.intro @Z0eU (And.intro @Z08v @Z0cw)) (And.intro (And.intro @Z0bZ @Z0e5) (And.intro @Z08u @Z0cn)))))) (And.intro (And.intro (And.intro (And.intro (And.intro @Z099 (And.intro @Z06k @Z0hi)) (And.intro @Z08T (And.intro @Z0cd @Z07e))) (And.intro (And.intro @Z0bK (And.intro @Z09y @Z0ex)) (And.intro @Z07C (And.intro @Z06s @Z0bd)))) (And.intro (And.intro (And.intro @Z0hA (And.intro @Z09i @Z0f5)) (And.intro @Z09o (And.intro @Z0cV @Z0d4))) (And.intro (And.intro @Z073 (And.intro @Z07l @Z0a9)) (And.intro (And.intro @Z0ew @Z0by) (And.intro @Z07Q @ZZK))))) (And.intro (And.intro (And.intro (And.intro @ZRR (And.intro @ZYg @ZTX)) (And.intro @ZZ2 (And.intro @Z050 @ZSe))) (And.intro (And.intro @ZV5 (And.intro @Z00C @ZVO)) (And.intro @Z0h7 (And.intro @Z06V @Z07s)))) (And.intro (And.intro (And.intro @Z0jW (And.intro @Z0gy @Z0kq)) (And.intro @Z0jI (And.intro @Z0jj @Z0jH))) (And.intro (And.intro @Z0df (And.intro @Z06i @Z0bF)) (And.intro (And.intro @Z08Z @Z0ca) (And.intro @Z088 @Z0en))))))) (And.intro (And.intro (And.intro (And.intro (And.intro (And.intro @Z0dO (And.intro @Z08t @Z0gP)) (And.intro @ZWn (And.intro @ZYn @ZUs))) (And.intro (And.intro @ZY8 (And.intro @ZZF @ZRX)) (And.intro @ZXL (And.intro @ZWL @ZRH)))) (And.intro (And.intro (And.intro @Z0fp (And.intro @Z01u @Z01T)) (And.intro @ZWY (And.intro @Z00k @ZZL))) (And.intro (And.intro @Z01c (And.intro @Z020 @Z02D)) (And.intro (And.intro @Z0gg @ZWr) (And.intro @Z02F @Z02e))))) (And.intro (And.intro (And.intro (And.intro @Z05a (And.intro @Z02H @Z04x)) (And.intro @Z00t (And.intro @Z03i @Z0iX))) (And.intro (And.intro @ZYr (And.intro @ZTv @ZWD)) (And.intro @ZXQ (And.intro @ZYT @ZUe)))) (And.intro (And.intro (And.intro @ZTL (And.intro @ZZW @Z00s)) (And.intro @Z0hn (And.intro @Z02y @ZUX))) (And.intro (And.intro @Z02x (And.intro @Z02g @ZU8)) (And.intro (And.intro @ZZw @Z03l) (And.intro @Z03R @ZSF)))))) (And.intro (And.intro (And.intro (And.intro (And.intro @Z0hr (And.intro @Z021 @Z03V)) (And.intro @ZU1 (And.intro @ZXo @ZT2))) (And.intro (And.intro @Z00u (And.intro @ZSH @ZXq)) (And.intro @Z05Q (And.intro @Z04E @ZZm)))) (And.intro (And.intro (And.intro @ZM4 (And.intro @ZJZ @ZMk)) (And.intro @ZOf (And.intro @ZLY @ZQM))) (And.intro (And.intro @ZMa (And.intro @ZKg @ZN8)) (And.intro (And.intro @ZK9 @ZLr) (And.intro @ZOX @ZPC))))) (And.intro (And.intro (And.intro (And.intro @ZKx (And.intro @ZNY @ZNQ)) (And.intro @ZOr (And.intro @ZMJ @ZO0))) (And.intro (And.intro @ZNs (And.intro @ZPG @ZL2)) (And.intro @Z0g9 (And.intro @Z0iD @Z0il)))) (And.intro (And.intro (And.intro @Z0jr (And.intro @Z0jO @Z0fI)) (And.intro @Z0hU (And.intro @Z0i4 @Z0gc))) (And.intro (And.intro @Z0gh (And.intro @Z0k4 @Z0if)) (And.intro (And.intro @Z0fA @x6_2) (And.intro @x6_0 @b_6)))))))
end Go.AM.Ytfmnoohhhokicaa
end
end
