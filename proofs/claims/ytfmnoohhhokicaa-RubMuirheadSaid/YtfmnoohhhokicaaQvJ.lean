/- A part of the proof of rubMuirhead_holds: RnJ. Own work of this project; texts printed by own programs among it. -/
import Derived.KernelRfl
import Derived.Test.YtfmnoohhhokicaaQvI
set_option maxRecDepth 1000000
set_option maxHeartbeats 16000000
noncomputable section
noncomputable section
namespace Go.AM.Ytfmnoohhhokicaa
open Go Go.AM
variable {C : Callee} {B N : Nat} {E0 : AHeap} (φ : AFr) (H : AHeap) (s : St)
def Zcr := kBody Proofs.Try.f92
def ZGl := kL Zcr
def Zkc := kO ZGl
def ZAr := opN Zkc 0
theorem Z0mR : XG 92 14 ZGl Zkc [1] := Z1 (by rfl) (by rfl) _
theorem Z0ck : Zkc.toList = [ZAr] := nf
theorem Z07p : stepA E C B 14 Zkc ZAr (φ, H) = stp (some 3) φ H (opBox (B + 3) (acells (fget φ 1))) := nf
def Zj7 := kR Zcr
def ZFV := kL Zj7
def Z2W := kO ZFV
def Zwm := opN Z2W 0
def ZuE := opN Z2W 1
def ZDa := opN Z2W 2
def ZDX := opN Z2W 3
theorem Z0lg : XG 92 14 ZFV Z2W [7, 8] := Z1 (by rfl) (by rfl) _
theorem Z0aQ : Z2W.toList = [Zwm, ZuE, ZDa, ZDX] := nf
theorem Z05B : stepA E C B 14 Z2W Zwm (φ, H) = some (fput φ 7 (fget φ 0), H) := nf
theorem ZZk : stepA E C B 14 Z2W ZuE (φ, H) = stp (some 8) φ H (aCall C (fun j => B + j * 14 + 8) true 79 [(fget φ 7)]) := nf
theorem Z082 : stepA E C B 14 Z2W ZDa (φ, H) = stp (some 4) φ H (opBox (B + 4) (zeroCells E.T 22)) := nf
theorem Z0aT : stepA E C B 14 Z2W ZDX (φ, H) = stp none φ H (opStore E.T 22 (fget φ 4) (fget φ 8)) := nf
def Zjz := kR Zj7
def ZFB := kL Zjz
def Z36 := kO ZFB
def ZBj := opN Z36 0
def Zwz := opN Z36 1
def ZD4 := opN Z36 2
def ZDw := opN Z36 3
theorem Z0lT : XG 92 14 ZFB Z36 [0, 9, 10] := Z1 (by rfl) (by rfl) _
theorem Z0bK : Z36.toList = [ZBj, Zwz, ZD4, ZDw] := nf
theorem Z072 : stepA E C B 14 Z36 ZBj (φ, H) = some (fput φ 9 (fget φ 0), H) := nf
theorem ZYf : stepA E C B 14 Z36 Zwz (φ, H) = stp (some 10) φ H (Z3 E.T (B + 10) .len #[22] [(fget φ 9)]) := nf
theorem Z0aA : stepA E C B 14 Z36 ZD4 (φ, H) = stp (some 5) φ H (opBox (B + 5) (zeroCells E.T 3)) := nf
theorem Z09x : stepA E C B 14 Z36 ZDw (φ, H) = stp none φ H (opStore E.T 3 (fget φ 5) (fget φ 10)) := nf
def Zlk := kR Zjz
def ZFs := kL Zlk
def ZkB := kO ZFs
def ZCK := opN ZkB 0
theorem Z0oW : XG 92 14 ZFs ZkB [] := Z1 (by rfl) (by rfl) _
theorem ZZP : ZkB.toList = [ZCK] := nf
theorem ZYs : stepA E C B 14 ZkB ZCK (φ, H) = stp (some 6) φ H (opBox (B + 6) (zeroCells E.T 94)) := nf
def Zl3 := kR Zlk
def ZFD := kL Zl3
def Z6Y := kO ZFD
def ZCl := opN Z6Y 0
def ZyR := opN Z6Y 1
theorem Z0pX : XG 92 14 ZFD Z6Y [3, 4, 5, 11] := Z1 (by rfl) (by rfl) _
theorem Z058 : Z6Y.toList = [ZCl, ZyR] := nf
theorem Z0aX : stepA E C B 14 Z6Y ZCl (φ, H) = stp (some 11) φ H (.pure (.clo 116 [(fget φ 5), (fget φ 3), (fget φ 4), (fget φ 6)], [])) := nf
theorem Z07C : stepA E C B 14 Z6Y ZyR (φ, H) = stp none φ H (opStore E.T 94 (fget φ 6) (fget φ 11)) := nf
def Zql := kR Zl3
def Z6o := kO Zql
def ZDv := opN Z6o 0
def ZCQ := opN Z6o 1
theorem Z0gY : XG 92 14 Zql Z6o [6, 12, 13] := Z1 (by rfl) (by rfl) _
theorem Z0aZ : Z6o.toList = [ZDv, ZCQ] := nf
theorem Z0ag : stepA E C B 14 Z6o ZDv (φ, H) = stp (some 12) φ H (just (aLoad E.T 94 (fget φ 6))) := nf
theorem Z017 : stepA E C B 14 Z6o ZCQ (φ, H) = callV E C (B + 14 * 8) (some 13) (fun j => B + j * 14 + 13) φ H (fget φ 12) [(.nilsl), (.int .i64 0), (.int .i64 8)] true := nf
theorem Z0lN : XQ 92 14 Zl3 ZFD Zql := Z0 (by rfl) _
theorem Z0pj : XQ 92 14 Zlk ZFs Zl3 := Z0 (by rfl) _
theorem Z0mh : XQ 92 14 Zjz ZFB Zlk := Z0 (by rfl) _
theorem Z0nP : XQ 92 14 Zj7 ZFV Zjz := Z0 (by rfl) _
theorem Z0mj : XQ 92 14 Zcr ZGl Zj7 := Z0 (by rfl) _
theorem Z0od : fInfo E 92 = some ⟨14, #[], Zcr⟩ := nf
theorem b_92 (args : List AV) : bodyA E C fg N 92 args H B = bodyX E [] (execA E C (fg 92) B 14 H N Zcr (Z5 args 0 [], H)) := Zp Z0od args H
abbrev F_92 := And.intro (And.intro (And.intro (And.intro (And.intro @Z0mR @Z0ck) (And.intro @Z07p @Z0lg)) (And.intro (And.intro @Z0aQ @Z05B) (And.intro @ZZk @Z082))) (And.intro (And.intro (And.intro @Z0aT @Z0lT) (And.intro @Z0bK @Z072)) (And.intro (And.intro @ZYf @Z0aA) (And.intro @Z09x @Z0oW)))) (And.intro (And.intro (And.intro (And.intro @ZZP @ZYs) (And.intro @Z0pX @Z058)) (And.intro (And.intro @Z0aX @Z07C) (And.intro @Z0gY @Z0aZ))) (And.intro (And.intro (And.intro @Z0ag @Z017) (And.intro @Z0lN @Z0pj)) (And.intro (And.intro @Z0mh @Z0nP) (And.intro @Z0mj @b_92))))
def Z63 := kBody Proofs.Try.f116
def ZrR := kL Z63
def Z3j := kO ZrR
def Zqa := opN Z3j 0
def ZqB := opN Z3j 1
def Zrk := opN Z3j 2
theorem Z0fh : XG 116 62 ZrR Z3j [13, 14] := Z1 (by rfl) (by rfl) _
theorem ZSg : Z3j.toList = [Zqa, ZqB, Zrk] := nf
theorem ZVg : stepA E C B 62 Z3j Zqa (φ, H) = some (fput φ 13 (fget φ 0), H) := nf
theorem ZT5 : stepA E C B 62 Z3j ZqB (φ, H) = stp (some 14) φ H (Z3 E.T (B + 14) .len #[22] [(fget φ 13)]) := nf
theorem ZTt : stepA E C B 62 Z3j Zrk (φ, H) = some (fput φ 10 (fget φ 14), H) := nf
def Za5 := kR Z63
def ZaN := kL Za5
def Zr6 := kL ZaN
def Z3g := kO Zr6
def ZpE := opN Z3g 0
def Zns := opN Z3g 1
def ZtI := opN Z3g 2
theorem Z0fT : XG 116 62 Zr6 Z3g [15, 16] := Z1 (by rfl) (by rfl) _
theorem ZTc : Z3g.toList = [ZpE, Zns, ZtI] := nf
theorem ZVX : stepA E C B 62 Z3g ZpE (φ, H) = some (fput φ 15 (fget φ 10), H) := nf
theorem ZTA : stepA E C B 62 Z3g Zns (φ, H) = stp (some 16) φ H (just (aLoad E.T 3 (fget φ 3))) := nf
theorem ZRl : stepA E C B 62 Z3g ZtI (φ, H) = stp (some 17) φ H (just (aBin E.T .eql 3 (fget φ 15) (fget φ 16))) := nf
def Zbr := kR ZaN
def Zc1 := kT Zbr
def Zqh := kL Zc1
def Z3e := kO Zqh
def ZtV := opN Z3e 0
def Zm9 := opN Z3e 1
def ZpT := opN Z3e 2
theorem Z0fK : XG 116 62 Zqh Z3e [0, 1, 2, 3, 4, 5, 6, 10, 17, 18, 19, 20] := Z1 (by rfl) (by rfl) _
theorem ZW4 : Z3e.toList = [ZtV, Zm9, ZpT] := nf
theorem ZSV : stepA E C B 62 Z3e ZtV (φ, H) = stp (some 18) φ H (just (aLoad E.T 65 (fget φ 4))) := nf
theorem ZUg : stepA E C B 62 Z3e Zm9 (φ, H) = some (fput φ 19 (fget φ 0), H) := nf
theorem ZRF : stepA E C B 62 Z3e ZpT (φ, H) = callV E C (B + 62 * 8) (some 20) (fun j => B + j * 62 + 20) φ H (fget φ 18) [(fget φ 19)] true := nf
def ZKe := kR Zc1
theorem Z0ku : execA E C (fg 116) B 62 E0 N ZKe s = some (.ret, s) := Zo (by rfl) s
theorem Z0dg : XQ 116 62 Zc1 Zqh ZKe := Z0 (by rfl) _
def ZM9 := kE Zbr
theorem Z0iL : execA E C (fg 116) B 62 E0 N ZM9 s = some (.normal, s) := Zh (by rfl) s
theorem Z0df : XC 116 62 Zbr 17 Zc1 ZM9 := Zf (by rfl) _
theorem Z0kf : XQ 116 62 ZaN Zr6 Zbr := Z0 (by rfl) _
def Z7t := kR Za5
def Zev := kL Z7t
def Z0B := kO Zev
def ZrQ := opN Z0B 0
def ZlL := opN Z0B 1
def ZnP := opN Z0B 2
def Zsk := opN Z0B 3
def Zlq := opN Z0B 4
def Zlt := opN Z0B 5
def ZpS := opN Z0B 6
theorem Z057 : XG 116 62 Zev Z0B [4, 17, 21, 22, 23, 24, 25, 26] := Z1 (by rfl) (by rfl) _
theorem ZPo : Z0B.toList = [ZrQ, ZlL, ZnP, Zsk, Zlq, Zlt, ZpS] := nf
theorem ZW6 : stepA E C B 62 Z0B ZrQ (φ, H) = stp (some 21) φ H (just (aLoad E.T 22 (fget φ 5))) := nf
theorem ZQi : stepA E C B 62 Z0B ZlL (φ, H) = stp (some 22) φ H (just (aLoad E.T 3 (fget φ 3))) := nf
theorem ZVH : stepA E C B 62 Z0B ZnP (φ, H) = stp (some 23) φ H (just (Z4 E.T 22 (fget φ 21) (fget φ 22))) := nf
theorem ZUY : stepA E C B 62 Z0B Zsk (φ, H) = stp (some 24) φ H (just (aLoad E.T 3 (fget φ 23))) := nf
theorem ZPZ : stepA E C B 62 Z0B Zlq (φ, H) = some (fput φ 25 (fget φ 1), H) := nf
theorem ZT9 : stepA E C B 62 Z0B Zlt (φ, H) = stp (some 26) φ H (just (aBin E.T .sub 3 (fget φ 24) (fget φ 25))) := nf
theorem ZSF : stepA E C B 62 Z0B ZpS (φ, H) = some (fput φ 11 (fget φ 26), H) := nf
def Z7L := kR Z7t
def Zed := kL Z7L
def Z00 := kO Zed
def Zpu := opN Z00 0
def Zm0 := opN Z00 1
def Zqp := opN Z00 2
def ZlQ := opN Z00 3
def Zou := opN Z00 4
def ZtJ := opN Z00 5
def ZpO := opN Z00 6
def ZrF := opN Z00 7
def Zr5 := opN Z00 8
def ZrT := opN Z00 9
theorem Z00x : XG 116 62 Zed Z00 [2, 5, 27, 28, 29, 30, 31, 32, 33, 34, 35] := Z1 (by rfl) (by rfl) _
theorem ZQ1 : Z00.toList = [Zpu, Zm0, Zqp, ZlQ, Zou, ZtJ, ZpO, ZrF, Zr5, ZrT] := nf
theorem ZSp : stepA E C B 62 Z00 Zpu (φ, H) = some (fput φ 27 (fget φ 2), H) := nf
theorem ZQE : stepA E C B 62 Z00 Zm0 (φ, H) = stp (some 28) φ H (just (aLoad E.T 22 (fget φ 5))) := nf
theorem ZPi : stepA E C B 62 Z00 Zqp (φ, H) = some (fput φ 29 (fget φ 10), H) := nf
theorem ZWe : stepA E C B 62 Z00 ZlQ (φ, H) = stp (some 30) φ H (just (aBin E.T .add 3 (fget φ 29) (.int .i64 1))) := nf
theorem ZPx : stepA E C B 62 Z00 Zou (φ, H) = stp (some 31) φ H (just (Z4 E.T 22 (fget φ 28) (fget φ 30))) := nf
theorem ZWr : stepA E C B 62 Z00 ZtJ (φ, H) = stp (some 32) φ H (just (aLoad E.T 3 (fget φ 31))) := nf
theorem ZQp : stepA E C B 62 Z00 ZpO (φ, H) = some (fput φ 33 (fget φ 1), H) := nf
theorem ZTp : stepA E C B 62 Z00 ZrF (φ, H) = stp (some 34) φ H (just (aBin E.T .sub 3 (fget φ 32) (fget φ 33))) := nf
theorem ZT1 : stepA E C B 62 Z00 Zr5 (φ, H) = stp (some 35) φ H (Z3 E.T (B + 35) .min #[3, 3] [(fget φ 27), (fget φ 34)]) := nf
theorem ZQ6 : stepA E C B 62 Z00 ZrT (φ, H) = some (fput φ 12 (fget φ 35), H) := nf
def Ze6 := kR Z7L
def Zer := kB Ze6
def Z1u := kB Zer
def Z6B := kL Z1u
def Zeh := kL Z6B
def ZS := kO Zeh
def ZmQ := opN ZS 0
def Zp9 := opN ZS 1
def ZqK := opN ZS 2
def ZnK := opN ZS 3
def ZrD := opN ZS 4
def ZlY := opN ZS 5
def Zng := opN ZS 6
def Z5r := opN ZS 7
def ZqH := opN ZS 8
def ZnJ := opN ZS 9
def Zgl := opN ZS 10
theorem Z09R : XG 116 62 Zeh ZS [36, 37, 38, 39, 40, 41, 42, 43, 44, 45] := Z1 (by rfl) (by rfl) _
theorem ZTX : ZS.toList = [ZmQ, Zp9, ZqK, ZnK, ZrD, ZlY, Zng, Z5r, ZqH, ZnJ, Zgl] := nf
theorem ZTj : stepA E C B 62 ZS ZmQ (φ, H) = some (fput φ 36 (fget φ 12), H) := nf
theorem ZW8 : stepA E C B 62 ZS Zp9 (φ, H) = stp (some 37) φ H (just (aLoad E.T 3 (fget φ 3))) := nf
theorem ZSl : stepA E C B 62 ZS ZqK (φ, H) = some (fput φ 38 (fget φ 10), H) := nf
theorem ZVP : stepA E C B 62 ZS ZnK (φ, H) = stp (some 39) φ H (just (aBin E.T .sub 3 (fget φ 37) (fget φ 38))) := nf
theorem ZUT : stepA E C B 62 ZS ZrD (φ, H) = stp (some 40) φ H (just (aBin E.T .mul 3 (fget φ 36) (fget φ 39))) := nf
theorem ZR3 : stepA E C B 62 ZS ZlY (φ, H) = some (fput φ 41 (fget φ 11), H) := nf
theorem ZTT : stepA E C B 62 ZS Zng (φ, H) = stp (some 42) φ H (just (aBin E.T .geq 3 (fget φ 40) (fget φ 41))) := nf
theorem ZS1 : stepA E C B 62 ZS Z5r (φ, H) = some (fput φ 43 (fget φ 42), H) := nf
theorem ZVo : stepA E C B 62 ZS ZqH (φ, H) = gd φ 43 true (fun φ => some (fput φ 44 (.tup []), H)) (fun φ => some (fput φ 44 (fget φ 12), H)) := s_gd (j := 7) (oj := Z5r) rfl rfl rfl (fun _ => rfl) (fun _ => rfl)
theorem ZRg : stepA E C B 62 ZS ZnJ (φ, H) = gd φ 43 true (fun φ => some (fput φ 45 (.tup []), H)) (fun φ => stp (some 45) φ H (just (aBin E.T .geq 3 (fget φ 44) (.int .i64 0)))) := s_gd (j := 7) (oj := Z5r) rfl rfl rfl (fun _ => rfl) (fun _ => rfl)
theorem ZJv : stepA E C B 62 ZS Zgl (φ, H) = stp (some 46) φ H (opPick (fget φ 43) (fget φ 45) (.bool false)) := nf
def Z7Z := kR Z6B
def Zy9 := kT Z7Z
theorem Z08J : execA E C (fg 116) B 62 E0 N Zy9 s = some (.normal, s) := Zh (by rfl) s
def Zy2 := kE Z7Z
theorem Z061 : execA E C (fg 116) B 62 E0 N Zy2 s = some (.exit 0, s) := ZW (by rfl) s
theorem Z05G : XC 116 62 Z7Z 46 Zy9 Zy2 := Zf (by rfl) _
theorem Z06y : XQ 116 62 Z6B Zeh Z7Z := Z0 (by rfl) _
def Z6J := kR Z1u
def Ze8 := kL Z6J
def Zdd := kB Ze8
def ZA := kO Zdd
def ZnO := opN ZA 0
def Zn3 := opN ZA 1
def Zo1 := opN ZA 2
def Znz := opN ZA 3
def ZlC := opN ZA 4
def Zqv := opN ZA 5
def ZtD := opN ZA 6
def ZnD := opN ZA 7
def ZsP := opN ZA 8
def ZpP := opN ZA 9
def Zgc := opN ZA 10
def ZfZ := opN ZA 11
def ZeO := opN ZA 12
theorem Z0ce : XD 116 62 Zdd ZA [46, 49, 50, 51, 52, 53, 54, 55, 56, 57, 58, 59, 60, 61] := Z0v (by rfl) (by rfl) _
theorem ZRy : ZA.toList = [ZnO, Zn3, Zo1, Znz, ZlC, Zqv, ZtD, ZnD, ZsP, ZpP, Zgc, ZfZ, ZeO] := nf
theorem ZIw : statOk ZA = true := by kernel_rfl
theorem ZOJ : drawA E C B 62 ZA s = if neat 62 s = true then drX ZA (runT E C B 62 ZA ZA.toList 0 s) else none := Z0c ZIw s
theorem ZHy (l : List (Nat × Tr)) : dynOk ZA l = (!writing l || Zc [[], [], [], [], [1, 2, 3], [], [5], [1, 2, 3, 4, 5, 6], [], [], [8, 9], [], [0, 1, 2, 3, 4, 5, 6, 7, 8, 9, 10, 11]] (Zb l)) := ZX (by kernel_rfl) l
theorem ZPp : stepT E C B 62 ZA ZnO (φ, H) = stpT (some 49) φ H (just (aLoad E.T 94 (fget φ 6))) := Z2 rfl (Z6 rfl rfl)
theorem ZQd : stepT E C B 62 ZA Zn3 (φ, H) = some ((fput φ 50 (fget φ 0), H), ⟨false, [], []⟩) := Z2 rfl (Z7 rfl rfl)
theorem ZWj : stepT E C B 62 ZA Zo1 (φ, H) = some ((fput φ 51 (fget φ 10), H), ⟨false, [], []⟩) := Z2 rfl (Z7 rfl rfl)
theorem ZU5 : stepT E C B 62 ZA Znz (φ, H) = some ((fput φ 52 (fget φ 10), H), ⟨false, [], []⟩) := Z2 rfl (Z7 rfl rfl)
theorem ZRf : stepT E C B 62 ZA ZlC (φ, H) = stpT (some 53) φ H (just (aSlice E.T 22 (fget φ 50) none (some (fget φ 51)) (some (fget φ 52)))) := Z2 rfl (Z6 rfl rfl)
theorem ZS6 : stepT E C B 62 ZA Zqv (φ, H) = some ((fput φ 54 (fget φ 12), H), ⟨false, [], []⟩) := Z2 rfl (Z7 rfl rfl)
theorem ZS7 : stepT E C B 62 ZA ZtD (φ, H) = stpT (some 55) φ H (Z9 E.T (B + 55) 22 1 (evO E φ) [(0, Operand.tmp 54)]) := Z2 rfl (Z6 rfl rfl)
theorem ZUv : stepT E C B 62 ZA ZnD (φ, H) = stpT (some 56) φ H (Z3 E.T (B + 56) .append #[22, 22] [(fget φ 53), (fget φ 55)]) := Z2 rfl (Z6 rfl rfl)
theorem ZSe : stepT E C B 62 ZA ZsP (φ, H) = some ((fput φ 57 (fget φ 1), H), ⟨false, [], []⟩) := Z2 rfl (Z7 rfl rfl)
theorem ZPe : stepT E C B 62 ZA ZpP (φ, H) = some ((fput φ 58 (fget φ 12), H), ⟨false, [], []⟩) := Z2 rfl (Z7 rfl rfl)
theorem ZKB : stepT E C B 62 ZA Zgc (φ, H) = stpT (some 59) φ H (just (aBin E.T .add 3 (fget φ 57) (fget φ 58))) := Z2 rfl (Z6 rfl rfl)
theorem ZO0 : stepT E C B 62 ZA ZfZ (φ, H) = some ((fput φ 60 (fget φ 12), H), ⟨false, [], []⟩) := Z2 rfl (Z7 rfl rfl)
theorem ZKT : stepT E C B 62 ZA ZeO (φ, H) = callVT E C (B + 62 * 8) (some 61) (fun j => B + j * 62 + 61) φ H (fget φ 49) [(fget φ 56), (fget φ 59), (fget φ 60)] true := Z2 rfl (Zk6 rfl rfl)
theorem Z05E : execA E C (fg 116) B 62 E0 N Ze8 s = blockX 1 (fun s => (forget s.1 [], s.2)) (execA E C (fg 116) B 62 E0 N Zdd s) := Zi (by rfl) (by rfl) s
def Zep := kR Z6J
def Z3f := kO Zep
def Zpn := opN Z3f 0
def Zrc := opN Z3f 1
def Zu2 := opN Z3f 2
theorem ZXI : XG 116 62 Zep Z3f [47, 48] := Z1 (by rfl) (by rfl) _
theorem ZQK : Z3f.toList = [Zpn, Zrc, Zu2] := nf
theorem ZRV : stepA E C B 62 Z3f Zpn (φ, H) = some (fput φ 47 (fget φ 12), H) := nf
theorem ZQS : stepA E C B 62 Z3f Zrc (φ, H) = stp (some 48) φ H (just (aBin E.T .sub 3 (fget φ 47) (.int .i64 1))) := nf
theorem ZTv : stepA E C B 62 Z3f Zu2 (φ, H) = some (fput φ 12 (fget φ 48), H) := nf
theorem Z0b1 : XQ 116 62 Z6J Ze8 Zep := Z0 (by rfl) _
theorem Z02u : XQ 116 62 Z1u Z6B Z6J := Z0 (by rfl) _
theorem Z06G : execA E C (fg 116) B 62 E0 N Zer s = iterA (execA E C (fg 116) B 62 E0 N Z1u) (headA E0) N s := Z08 (by rfl) s
theorem Z0bq : execA E C (fg 116) B 62 E0 N Ze6 s = blockX 0 (fun s => (forget s.1 [0, 1, 3, 6, 10, 11, 12, 46], s.2)) (execA E C (fg 116) B 62 E0 N Zer s) := Zi (by rfl) (by rfl) s
theorem Z05J : XQ 116 62 Z7L Zed Ze6 := Z0 (by rfl) _
theorem Z07z : XQ 116 62 Z7t Zev Z7L := Z0 (by rfl) _
theorem Z0k5 : XQ 116 62 Za5 ZaN Z7t := Z0 (by rfl) _
theorem Z0cU : XQ 116 62 Z63 ZrR Za5 := Z0 (by rfl) _
theorem Z0dn : fInfo E 116 = some ⟨62, #[], Z63⟩ := nf
theorem Z0ms (args : List AV) : bodyA E C fg N 116 args H B = bodyX E [] (execA E C (fg 116) B 62 H N Z63 (Z5 args 0 [], H)) := Zp Z0dn args H
abbrev Z0R := And.intro (And.intro (And.intro (And.intro (And.intro (And.intro @Z0fh @ZSg) (And.intro @ZVg (And.intro @ZT5 @ZTt))) (And.intro (And.intro @Z0fT (And.intro @ZTc @ZVX)) (And.intro @ZTA (And.intro @ZRl @Z0fK)))) (And.intro (And.intro (And.intro @ZW4 @ZSV) (And.intro @ZUg (And.intro @ZRF @Z0ku))) (And.intro (And.intro @Z0dg (And.intro @Z0iL @Z0df)) (And.intro @Z0kf (And.intro @Z057 @ZPo))))) (And.intro (And.intro (And.intro (And.intro @ZW6 @ZQi) (And.intro @ZVH (And.intro @ZUY @ZPZ))) (And.intro (And.intro @ZT9 (And.intro @ZSF @Z00x)) (And.intro @ZQ1 (And.intro @ZSp @ZQE)))) (And.intro (And.intro (And.intro @ZPi (And.intro @ZWe @ZPx)) (And.intro @ZWr (And.intro @ZQp @ZTp))) (And.intro (And.intro @ZT1 (And.intro @ZQ6 @Z09R)) (And.intro @ZTX (And.intro @ZTj @ZW8)))))) (And.intro (And.intro (And.intro (And.intro (And.intro @ZSl @ZVP) (And.intro @ZUT (And.intro @ZR3 @ZTT))) (And.intro (And.intro @ZS1 (And.intro @ZVo @ZRg)) (And.intro @ZJv (And.intro @Z08J @Z061)))) (And.intro (And.intro (And.intro @Z05G @Z06y) (And.intro @Z0ce (And.intro @ZRy @ZOJ))) (And.intro (And.intro @ZHy (And.intro @ZPp @ZQd)) (And.intro @ZWj (And.intro @ZU5 @ZRf))))) (And.intro (And.intro (And.intro (And.intro @ZS6 @ZS7) (And.intro @ZUv (And.intro @ZSe @ZPe))) (And.intro (And.intro @ZKB (And.intro @ZO0 @ZKT)) (And.intro @Z05E (And.intro @ZXI @ZQK)))) (And.intro (And.intro (And.intro @ZRV (And.intro @ZQS @ZTv)) (And.intro @Z0b1 (And.intro @Z02u @Z06G))) (And.intro (And.intro @Z0bq (And.intro @Z05J @Z07z)) (And.intro @Z0k5 (And.intro @Z0cU @Z0ms))))))
def Zbp := kBody Proofs.Try.f37
def ZGk := kL Zbp
def Z8g := kO ZGk
def Zyi := opN Z8g 0
def ZDL := opN Z8g 1
theorem Z0n0 : XG 37 15 ZGk Z8g [2, 3] := Z1 (by rfl) (by rfl) _
theorem Z09O : Z8g.toList = [Zyi, ZDL] := nf
theorem Z090 : stepA E C B 15 Z8g Zyi (φ, H) = some (fput φ 2 (.nilsl), H) := nf
theorem Z02v : stepA E C B 15 Z8g ZDL (φ, H) = some (fput φ 3 (.int .i64 0), H) := nf
def Zk4 := kR Zbp
def Zle := kL Zk4
def ZGg := kL Zle
def Z4a := kO ZGg
def ZDS := opN Z4a 0
def ZEe := opN Z4a 1
def Zwn := opN Z4a 2
theorem Z0l7 : XG 37 15 ZGg Z4a [6, 7] := Z1 (by rfl) (by rfl) _
theorem Z0br : Z4a.toList = [ZDS, ZEe, Zwn] := nf
theorem Z019 : stepA E C B 15 Z4a ZDS (φ, H) = some (fput φ 6 (fget φ 0), H) := nf
theorem ZYG : stepA E C B 15 Z4a ZEe (φ, H) = stp (some 7) φ H (aCall C (fun j => B + j * 15 + 7) true 25 [(fget φ 6)]) := nf
theorem Z01w : stepA E C B 15 Z4a Zwn (φ, H) = some (fput φ 4 (fget φ 7), H) := nf
def Zlf := kR Zle
def ZGj := kL Zlf
def Z7e := kO ZGj
def ZAD := opN Z7e 0
def ZvW := opN Z7e 1
theorem Z0lG : XG 37 15 ZGj Z7e [8] := Z1 (by rfl) (by rfl) _
theorem ZZp : Z7e.toList = [ZAD, ZvW] := nf
theorem Z0cc : stepA E C B 15 Z7e ZAD (φ, H) = some (fput φ 8 (fget φ 4), H) := nf
theorem Z06A : stepA E C B 15 Z7e ZvW (φ, H) = stp (some 9) φ H (just (aBin E.T .neq 24 (fget φ 8) (.int .i64 0))) := nf
def Zjn := kR Zlf
def Zjy := kT Zjn
def ZGJ := kL Zjy
def Z4f := kO ZGJ
def ZCY := opN Z4f 0
def ZAf := opN Z4f 1
def Zyh := opN Z4f 2
theorem Z0oV : XG 37 15 ZGJ Z4f [0, 4, 9, 10] := Z1 (by rfl) (by rfl) _
theorem Z01Y : Z4f.toList = [ZCY, ZAf, Zyh] := nf
theorem Z05O : stepA E C B 15 Z4f ZCY (φ, H) = some (fput φ 10 (fget φ 4), H) := nf
theorem ZZl : stepA E C B 15 Z4f ZAf (φ, H) = some (fput φ 2 (.nilsl), H) := nf
theorem Z09k : stepA E C B 15 Z4f Zyh (φ, H) = some (fput φ 3 (fget φ 10), H) := nf
def ZMh := kR Zjy
theorem Z0fS : execA E C (fg 37) B 15 E0 N ZMh s = some (.ret, s) := Zo (by rfl) s
theorem Z0nk : XQ 37 15 Zjy ZGJ ZMh := Z0 (by rfl) _
def ZIC := kE Zjn
theorem Z0fM : execA E C (fg 37) B 15 E0 N ZIC s = some (.normal, s) := Zh (by rfl) s
theorem Z0ne : XC 37 15 Zjn 9 Zjy ZIC := Zf (by rfl) _
theorem Z0p9 : XQ 37 15 Zlf ZGj Zjn := Z0 (by rfl) _
theorem Z0kV : XQ 37 15 Zle ZGg Zlf := Z0 (by rfl) _
def Zat := kR Zk4
def ZnI := kL Zat
def ZjP := kO ZnI
def ZxL := opN ZjP 0
theorem Z0jQ : XG 37 15 ZnI ZjP [4, 9] := Z1 (by rfl) (by rfl) _
theorem Z0b9 : ZjP.toList = [ZxL] := nf
theorem Z04g : stepA E C B 15 ZjP ZxL (φ, H) = stp (some 5) φ H (opBox (B + 5) (zeroCells E.T 39)) := nf
def Z9f := kR Zat
def ZtH := kL Z9f
def Z4j := kO ZtH
def ZAK := opN Z4j 0
def Zvz := opN Z4j 1
def ZAl := opN Z4j 2
theorem Z0di : XG 37 15 ZtH Z4j [0, 11, 12, 13] := Z1 (by rfl) (by rfl) _
theorem Z0ch : Z4j.toList = [ZAK, Zvz, ZAl] := nf
theorem ZYA : stepA E C B 15 Z4j ZAK (φ, H) = some (fput φ 11 (fget φ 0), H) := nf
theorem Z095 : stepA E C B 15 Z4j Zvz (φ, H) = stp (some 12) φ H (.pure (.clo 93 [(fget φ 5)], [])) := nf
theorem Z011 : stepA E C B 15 Z4j ZAl (φ, H) = mutX (some 13) φ (C 92 [(fget φ 11), (fget φ 12)] H (B + 15 * 8)) := nf
def Z9D := kR Z9f
def ZlW := kL Z9D
def Z4C := kO ZlW
def ZAG := opN Z4C 0
def Zze := opN Z4C 1
def ZA3 := opN Z4C 2
theorem Z0if : XG 37 15 ZlW Z4C [5, 14] := Z1 (by rfl) (by rfl) _
theorem ZZh : Z4C.toList = [ZAG, Zze, ZA3] := nf
theorem Z07K : stepA E C B 15 Z4C ZAG (φ, H) = stp (some 14) φ H (just (aLoad E.T 39 (fget φ 5))) := nf
theorem Z053 : stepA E C B 15 Z4C Zze (φ, H) = some (fput φ 2 (fget φ 14), H) := nf
theorem Z00a : stepA E C B 15 Z4C ZA3 (φ, H) = some (fput φ 3 (.int .i64 0), H) := nf
def ZNO := kR Z9D
theorem Z0cW : execA E C (fg 37) B 15 E0 N ZNO s = some (.ret, s) := Zo (by rfl) s
theorem Z0iH : XQ 37 15 Z9D ZlW ZNO := Z0 (by rfl) _
theorem Z0h3 : XQ 37 15 Z9f ZtH Z9D := Z0 (by rfl) _
theorem Z0jp : XQ 37 15 Zat ZnI Z9f := Z0 (by rfl) _
theorem Z0ma : XQ 37 15 Zk4 Zle Zat := Z0 (by rfl) _
theorem Z0mU : XQ 37 15 Zbp ZGk Zk4 := Z0 (by rfl) _
theorem Z0nN : fInfo E 37 = some ⟨15, #[.tmp 2, .tmp 3], Zbp⟩ := nf
theorem b_37 (args : List AV) : bodyA E C fg N 37 args H B = bodyX E [.tmp 2, .tmp 3] (execA E C (fg 37) B 15 H N Zbp (Z5 args 0 [], H)) := Zp Z0nN args H
abbrev F_37 := And.intro (And.intro (And.intro (And.intro (And.intro @Z0n0 @Z09O) (And.intro @Z090 (And.intro @Z02v @Z0l7))) (And.intro (And.intro @Z0br (And.intro @Z019 @ZYG)) (And.intro @Z01w (And.intro @Z0lG @ZZp)))) (And.intro (And.intro (And.intro @Z0cc @Z06A) (And.intro @Z0oV (And.intro @Z01Y @Z05O))) (And.intro (And.intro @ZZl (And.intro @Z09k @Z0fS)) (And.intro @Z0nk (And.intro @Z0fM @Z0ne))))) (And.intro (And.intro (And.intro (And.intro @Z0p9 @Z0kV) (And.intro @Z0jQ (And.intro @Z0b9 @Z04g))) (And.intro (And.intro @Z0di (And.intro @Z0ch @ZYA)) (And.intro @Z095 (And.intro @Z011 @Z0if)))) (And.intro (And.intro (And.intro @ZZh @Z07K) (And.intro @Z053 (And.intro @Z00a @Z0cW))) (And.intro (And.intro @Z0iH (And.intro @Z0h3 @Z0jp)) (And.intro @Z0ma (And.intro @Z0mU @b_37)))))
def Zj9 := kBody Proofs.Try.f93
def Z0x := kO Zj9
def Zzj := opN Z0x 0
def ZyV := opN Z0x 1
def ZwZ := opN Z0x 2
def ZCp := opN Z0x 3
def ZzL := opN Z0x 4
def Zyo := opN Z0x 5
theorem Z0pU : XD 93 8 Zj9 Z0x [0, 1, 3, 4, 5, 6, 7] := Z0v (by rfl) (by rfl) _
theorem Z09z : Z0x.toList = [Zzj, ZyV, ZwZ, ZCp, ZzL, Zyo] := nf
theorem ZSD : statOk Z0x = true := by kernel_rfl
theorem ZSI : drawA E C B 8 Z0x s = if neat 8 s = true then drX Z0x (runT E C B 8 Z0x Z0x.toList 0 s) else none := Z0c ZSD s
theorem ZRZ (l : List (Nat × Tr)) : dynOk Z0x l = (!writing l || Zc [[], [], [1], [1, 2], [0, 1, 2, 3], [0, 1, 2, 3, 4]] (Zb l)) := ZX (by kernel_rfl) l
theorem Z01N : stepT E C B 8 Z0x Zzj (φ, H) = stpT (some 3) φ H (just (aLoad E.T 39 (fget φ 1))) := Z2 rfl (Z6 rfl rfl)
theorem Z096 : stepT E C B 8 Z0x ZyV (φ, H) = some ((fput φ 4 (fget φ 0), H), ⟨false, [], []⟩) := Z2 rfl (Z7 rfl rfl)
theorem Z05Z : stepT E C B 8 Z0x ZwZ (φ, H) = stpT (some 5) φ H (aCall C (fun j => B + j * 8 + 5) true 66 [(fget φ 4)]) := Z2 rfl (Z6 rfl rfl)
theorem ZXF : stepT E C B 8 Z0x ZCp (φ, H) = stpT (some 6) φ H (Z9 E.T (B + 6) 39 1 (evO E φ) [(0, Operand.tmp 5)]) := Z2 rfl (Z6 rfl rfl)
theorem ZYd : stepT E C B 8 Z0x ZzL (φ, H) = stpT (some 7) φ H (Z3 E.T (B + 7) .append #[39, 39] [(fget φ 3), (fget φ 6)]) := Z2 rfl (Z6 rfl rfl)
theorem Z044 : stepT E C B 8 Z0x Zyo (φ, H) = stpT none φ H (opStore E.T 39 (fget φ 1) (fget φ 7)) := Z2 rfl (Z6 rfl rfl)
theorem Z0lK : fInfo E 93 = some ⟨8, #[], Zj9⟩ := nf
theorem b_93 (args : List AV) : bodyA E C fg N 93 args H B = bodyX E [] (execA E C (fg 93) B 8 H N Zj9 (Z5 args 0 [], H)) := Zp Z0lK args H
abbrev F_93 := And.intro (And.intro (And.intro @Z0pU @Z09z) (And.intro @ZSI (And.intro @ZRZ @Z01N))) (And.intro (And.intro @Z096 (And.intro @Z05Z @ZXF)) (And.intro @ZYd (And.intro @Z044 @b_93)))
end Go.AM.Ytfmnoohhhokicaa
end
noncomputable section
namespace Go.AM.Ytfmnoohhhokicaa
open Go Go.AM
variable {C : Callee} {B N : Nat} {E0 : AHeap} (φ : AFr) (H : AHeap) (s : St)
def Z5T := kBody Proofs.Try.f108
def Zro := kL Z5T
def Z3k := kO Zro
def ZsE := opN Z3k 0
def Zpm := opN Z3k 1
def ZoC := opN Z3k 2
theorem Z0fd : XG 108 14 Zro Z3k [5, 6] := Z1 (by rfl) (by rfl) _
theorem ZSQ : Z3k.toList = [ZsE, Zpm, ZoC] := nf
theorem ZW1 : stepA E C B 14 Z3k ZsE (φ, H) = some (fput φ 5 (fget φ 0), H) := nf
theorem ZT3 : stepA E C B 14 Z3k Zpm (φ, H) = stp (some 6) φ H (Z3 E.T (B + 6) .len #[22] [(fget φ 5)]) := nf
theorem ZV5 : stepA E C B 14 Z3k ZoC (φ, H) = some (fput φ 4 (fget φ 6), H) := nf
def Zqd := kR Z5T
def Z0D := kO Zqd
def ZtR := opN Z0D 0
def Zr1 := opN Z0D 1
def Zn7 := opN Z0D 2
def ZqV := opN Z0D 3
def Zu6 := opN Z0D 4
def ZtX := opN Z0D 5
def ZlE := opN Z0D 6
theorem Z0hi : XG 108 14 Zqd Z0D [0, 1, 4, 7, 8, 9, 10, 11, 12, 13] := Z1 (by rfl) (by rfl) _
theorem ZSo : Z0D.toList = [ZtR, Zr1, Zn7, ZqV, Zu6, ZtX, ZlE] := nf
theorem ZWL : stepA E C B 14 Z0D ZtR (φ, H) = some (fput φ 7 (fget φ 0), H) := nf
theorem ZSn : stepA E C B 14 Z0D Zr1 (φ, H) = some (fput φ 8 (fget φ 4), H) := nf
theorem ZWu : stepA E C B 14 Z0D Zn7 (φ, H) = some (fput φ 9 (fget φ 4), H) := nf
theorem ZQl : stepA E C B 14 Z0D ZqV (φ, H) = stp (some 10) φ H (justO (aConv E.T 3 98 (fget φ 9))) := nf
theorem ZUa : stepA E C B 14 Z0D Zu6 (φ, H) = stp (some 11) φ H (aCall C (fun j => B + j * 14 + 11) true 111 [(fget φ 10)]) := nf
theorem ZSy : stepA E C B 14 Z0D ZtX (φ, H) = some (fput φ 12 (fget φ 1), H) := nf
theorem ZR8 : stepA E C B 14 Z0D ZlE (φ, H) = mutX (some 13) φ (C 121 [(fget φ 7), (.int .i64 0), (fget φ 8), (fget φ 11), (fget φ 12)] H (B + 14 * 8)) := nf
theorem Z0ih : XQ 108 14 Z5T Zro Zqd := Z0 (by rfl) _
theorem Z0e4 : fInfo E 108 = some ⟨14, #[], Z5T⟩ := nf
theorem Z0mC (args : List AV) : bodyA E C fg N 108 args H B = bodyX E [] (execA E C (fg 108) B 14 H N Z5T (Z5 args 0 [], H)) := Zp Z0e4 args H
abbrev Z0o3 := And.intro (And.intro (And.intro (And.intro @Z0fd @ZSQ) (And.intro @ZW1 @ZT3)) (And.intro (And.intro @ZV5 @Z0hi) (And.intro @ZSo @ZWL))) (And.intro (And.intro (And.intro @ZSn @ZWu) (And.intro @ZQl @ZUa)) (And.intro (And.intro @ZSy @ZR8) (And.intro @Z0ih @Z0mC)))
def Z65 := kBody Proofs.Try.f121
def ZqG := kL Z65
def Zam := kO ZqG
def Ztm := opN Zam 0
theorem Z0f6 : XG 121 148 ZqG Zam [] := Z1 (by rfl) (by rfl) _
theorem ZPT : Zam.toList = [Ztm] := nf
theorem ZVS : stepA E C B 148 Zam Ztm (φ, H) = some (fput φ 10 (.bool true), H) := nf
def Z9F := kR Z65
def Zqy := kL Z9F
def Z9u := kO Zqy
def Zop := opN Z9u 0
theorem Z0fJ : XG 121 148 Zqy Z9u [] := Z1 (by rfl) (by rfl) _
theorem ZQH : Z9u.toList = [Zop] := nf
theorem ZTm : stepA E C B 148 Z9u Zop (φ, H) = some (fput φ 11 (.bool true), H) := nf
def Zmo := kR Z9F
def ZmK := kB Zmo
def Zni := kB ZmK
def ZbL := kB Zni
def Zmb := kL ZbL
def Z22 := kO Zmb
def ZoR := opN Z22 0
def Zol := opN Z22 1
def ZsA := opN Z22 2
def Zn9 := opN Z22 3
theorem Z0hS : XG 121 148 Zmb Z22 [21, 22, 23] := Z1 (by rfl) (by rfl) _
theorem ZTz : Z22.toList = [ZoR, Zol, ZsA, Zn9] := nf
theorem ZVh : stepA E C B 148 Z22 ZoR (φ, H) = some (fput φ 21 (fget φ 2), H) := nf
theorem ZS0 : stepA E C B 148 Z22 Zol (φ, H) = some (fput φ 22 (fget φ 1), H) := nf
theorem ZUQ : stepA E C B 148 Z22 ZsA (φ, H) = stp (some 23) φ H (just (aBin E.T .sub 3 (fget φ 21) (fget φ 22))) := nf
theorem ZSr : stepA E C B 148 Z22 Zn9 (φ, H) = some (fput φ 12 (fget φ 23), H) := nf
def ZaX := kR ZbL
def Z6q := kL ZaX
def Zdo := kL Z6q
def Z4R := kO Zdo
def Zqt := opN Z4R 0
def Zoi := opN Z4R 1
theorem Z03y : XG 121 148 Zdo Z4R [24] := Z1 (by rfl) (by rfl) _
theorem ZSf : Z4R.toList = [Zqt, Zoi] := nf
theorem ZSv : stepA E C B 148 Z4R Zqt (φ, H) = some (fput φ 24 (fget φ 12), H) := nf
theorem ZQG : stepA E C B 148 Z4R Zoi (φ, H) = stp (some 25) φ H (just (aBin E.T .leq 3 (fget φ 24) (.int .i64 12))) := nf
def Z6i := kR Z6q
def Z7i := kT Z6i
def Ze5 := kL Z7i
def Z1s := kO Ze5
def Ztp := opN Z1s 0
def Zp7 := opN Z1s 1
def ZmD := opN Z1s 2
def ZoF := opN Z1s 3
def ZnY := opN Z1s 4
theorem Z0aw : XG 121 148 Ze5 Z1s [0, 1, 2, 3, 4, 10, 11, 12, 25, 26, 27, 28, 29, 30] := Z1 (by rfl) (by rfl) _
theorem ZW9 : Z1s.toList = [Ztp, Zp7, ZmD, ZoF, ZnY] := nf
theorem ZUk : stepA E C B 148 Z1s Ztp (φ, H) = some (fput φ 26 (fget φ 0), H) := nf
theorem ZOV : stepA E C B 148 Z1s Zp7 (φ, H) = some (fput φ 27 (fget φ 1), H) := nf
theorem ZTN : stepA E C B 148 Z1s ZmD (φ, H) = some (fput φ 28 (fget φ 2), H) := nf
theorem ZPC : stepA E C B 148 Z1s ZoF (φ, H) = some (fput φ 29 (fget φ 4), H) := nf
theorem ZS5 : stepA E C B 148 Z1s ZnY (φ, H) = mutX (some 30) φ (C 133 [(fget φ 26), (fget φ 27), (fget φ 28), (fget φ 29)] H (B + 148 * 8)) := nf
def ZwY := kR Z7i
theorem Z05v : execA E C (fg 121) B 148 E0 N ZwY s = some (.ret, s) := Zo (by rfl) s
theorem Z089 : XQ 121 148 Z7i Ze5 ZwY := Z0 (by rfl) _
def ZvY := kE Z6i
theorem Z0bW : execA E C (fg 121) B 148 E0 N ZvY s = some (.normal, s) := Zh (by rfl) s
theorem Z0cb : XC 121 148 Z6i 25 Z7i ZvY := Zf (by rfl) _
theorem Z051 : XQ 121 148 Z6q Zdo Z6i := Z0 (by rfl) _
def Z6y := kR ZaX
def Z7C := kL Z6y
def ZdR := kL Z7C
def Z4P := kO ZdR
def Zoy := opN Z4P 0
def Znx := opN Z4P 1
theorem Z07b : XG 121 148 ZdR Z4P [25, 31] := Z1 (by rfl) (by rfl) _
theorem ZVZ : Z4P.toList = [Zoy, Znx] := nf
theorem ZQy : stepA E C B 148 Z4P Zoy (φ, H) = some (fput φ 31 (fget φ 3), H) := nf
theorem ZW3 : stepA E C B 148 Z4P Znx (φ, H) = stp (some 32) φ H (just (aBin E.T .eql 3 (fget φ 31) (.int .i64 0))) := nf
def Z7p := kR Z7C
def Z7V := kT Z7p
def Zey := kL Z7V
def Z1o := kO Zey
def Zo7 := opN Z1o 0
def Zpb := opN Z1o 1
def Znk := opN Z1o 2
def ZnN := opN Z1o 3
def ZqY := opN Z1o 4
theorem Z04j : XG 121 148 Zey Z1o [0, 1, 2, 3, 4, 10, 11, 12, 32, 33, 34, 35, 36, 37] := Z1 (by rfl) (by rfl) _
theorem ZWE : Z1o.toList = [Zo7, Zpb, Znk, ZnN, ZqY] := nf
theorem ZRK : stepA E C B 148 Z1o Zo7 (φ, H) = some (fput φ 33 (fget φ 0), H) := nf
theorem ZU7 : stepA E C B 148 Z1o Zpb (φ, H) = some (fput φ 34 (fget φ 1), H) := nf
theorem ZWl : stepA E C B 148 Z1o Znk (φ, H) = some (fput φ 35 (fget φ 2), H) := nf
theorem ZVi : stepA E C B 148 Z1o ZnN (φ, H) = some (fput φ 36 (fget φ 4), H) := nf
theorem ZSO : stepA E C B 148 Z1o ZqY (φ, H) = mutX (some 37) φ (C 134 [(fget φ 33), (fget φ 34), (fget φ 35), (fget φ 36)] H (B + 148 * 8)) := nf
def ZwS := kR Z7V
theorem Z05e : execA E C (fg 121) B 148 E0 N ZwS s = some (.ret, s) := Zo (by rfl) s
theorem Z07v : XQ 121 148 Z7V Zey ZwS := Z0 (by rfl) _
def ZDG := kE Z7p
theorem Z08l : execA E C (fg 121) B 148 E0 N ZDG s = some (.normal, s) := Zh (by rfl) s
theorem Z06B : XC 121 148 Z7p 32 Z7V ZDG := Zf (by rfl) _
theorem Z0cv : XQ 121 148 Z7C ZdR Z7p := Z0 (by rfl) _
def Z7W := kR Z6y
def Z7c := kL Z7W
def Zdi := kL Z7c
def Z4Z := kO Zdi
def ZmY := opN Z4Z 0
def ZsU := opN Z4Z 1
theorem Z07g : XG 121 148 Zdi Z4Z [32, 38] := Z1 (by rfl) (by rfl) _
theorem ZWq : Z4Z.toList = [ZmY, ZsU] := nf
theorem ZUo : stepA E C B 148 Z4Z ZmY (φ, H) = some (fput φ 38 (fget φ 10), H) := nf
theorem ZSG : stepA E C B 148 Z4Z ZsU (φ, H) = stp (some 39) φ H (justO (aUn .not (fget φ 38))) := nf
def Z7A := kR Z7c
def Z6F := kT Z7A
def Zef := kL Z6F
def Z1t := kO Zef
def Zrq := opN Z1t 0
def ZqP := opN Z1t 1
def Znm := opN Z1t 2
def Zu4 := opN Z1t 3
def ZmR := opN Z1t 4
theorem Z07j : XG 121 148 Zef Z1t [39, 40, 41, 42, 43, 44] := Z1 (by rfl) (by rfl) _
theorem ZQa : Z1t.toList = [Zrq, ZqP, Znm, Zu4, ZmR] := nf
theorem ZRW : stepA E C B 148 Z1t Zrq (φ, H) = some (fput φ 40 (fget φ 0), H) := nf
theorem ZOU : stepA E C B 148 Z1t ZqP (φ, H) = some (fput φ 41 (fget φ 1), H) := nf
theorem ZTb : stepA E C B 148 Z1t Znm (φ, H) = some (fput φ 42 (fget φ 2), H) := nf
theorem ZTs : stepA E C B 148 Z1t Zu4 (φ, H) = some (fput φ 43 (fget φ 4), H) := nf
theorem ZTV : stepA E C B 148 Z1t ZmR (φ, H) = mutX (some 44) φ (C 135 [(fget φ 40), (fget φ 41), (fget φ 42), (fget φ 43)] H (B + 148 * 8)) := nf
def Zdk := kR Z6F
def Z38 := kO Zdk
def ZlO := opN Z38 0
def Zsr := opN Z38 1
def ZoW := opN Z38 2
theorem Z099 : XG 121 148 Zdk Z38 [45, 46] := Z1 (by rfl) (by rfl) _
theorem ZR6 : Z38.toList = [ZlO, Zsr, ZoW] := nf
theorem ZWx : stepA E C B 148 Z38 ZlO (φ, H) = some (fput φ 45 (fget φ 3), H) := nf
theorem ZPb : stepA E C B 148 Z38 Zsr (φ, H) = stp (some 46) φ H (just (aBin E.T .sub 3 (fget φ 45) (.int .i64 1))) := nf
theorem ZWB : stepA E C B 148 Z38 ZoW (φ, H) = some (fput φ 3 (fget φ 46), H) := nf
theorem Z0bf : XQ 121 148 Z6F Zef Zdk := Z0 (by rfl) _
def ZEf := kE Z7A
theorem Z0cr : execA E C (fg 121) B 148 E0 N ZEf s = some (.normal, s) := Zh (by rfl) s
theorem Z01p : XC 121 148 Z7A 39 Z6F ZEf := Zf (by rfl) _
theorem ZY5 : XQ 121 148 Z7c Zdi Z7A := Z0 (by rfl) _
def Z7P := kR Z7W
def Zdg := kL Z7P
def ZP := kO Zdg
def Zgk := opN ZP 0
def ZhT := opN ZP 1
def Zhi := opN ZP 2
def Ziq := opN ZP 3
def Zih := opN ZP 4
def Zgh := opN ZP 5
def ZgE := opN ZP 6
def Zge := opN ZP 7
def ZeF := opN ZP 8
def Zht := opN ZP 9
theorem Z08W : XG 121 148 Zdg ZP [39, 47, 48, 49, 50, 51, 52, 53, 54] := Z1 (by rfl) (by rfl) _
theorem ZNz : ZP.toList = [Zgk, ZhT, Zhi, Ziq, Zih, Zgh, ZgE, Zge, ZeF, Zht] := nf
theorem ZN6 : stepA E C B 148 ZP Zgk (φ, H) = some (fput φ 48 (fget φ 0), H) := nf
theorem ZL4 : stepA E C B 148 ZP ZhT (φ, H) = some (fput φ 49 (fget φ 1), H) := nf
theorem ZIj : stepA E C B 148 ZP Zhi (φ, H) = some (fput φ 50 (fget φ 2), H) := nf
theorem ZOu : stepA E C B 148 ZP Ziq (φ, H) = some (fput φ 51 (fget φ 4), H) := nf
theorem ZJT : stepA E C B 148 ZP Zih (φ, H) = mutX (some 52) φ (C 136 [(fget φ 48), (fget φ 49), (fget φ 50), (fget φ 51)] H (B + 148 * 8)) := nf
theorem ZHu : stepA E C B 148 ZP Zgh (φ, H) = some (fput φ 47 (fget φ 52), H) := nf
theorem ZIn : stepA E C B 148 ZP ZgE (φ, H) = stp (some 53) φ H (Zd (fget φ 47) 0) := nf
theorem ZIq : stepA E C B 148 ZP Zge (φ, H) = stp (some 54) φ H (Zd (fget φ 47) 1) := nf
theorem ZMg : stepA E C B 148 ZP ZeF (φ, H) = some (fput φ 13 (fget φ 53), H) := nf
theorem ZNn : stepA E C B 148 ZP Zht (φ, H) = some (fput φ 14 (fget φ 54), H) := nf
def Z84 := kR Z7P
def Z8f := kL Z84
def Ze2 := kL Z8f
def Z3C := kO Ze2
def ZfI := opN Z3C 0
def ZgX := opN Z3C 1
theorem Z02g : XG 121 148 Ze2 Z3C [55] := Z1 (by rfl) (by rfl) _
theorem ZNI : Z3C.toList = [ZfI, ZgX] := nf
theorem ZKi : stepA E C B 148 Z3C ZfI (φ, H) = some (fput φ 55 (fget φ 14), H) := nf
theorem ZLT : stepA E C B 148 Z3C ZgX (φ, H) = stp (some 56) φ H (just (aBin E.T .eql 105 (fget φ 55) (.int .i64 2))) := nf
def Z6V := kR Z8f
def Z6n := kT Z6V
def ZdX := kL Z6n
def Z0S := kO ZdX
def ZfW := opN Z0S 0
def ZfV := opN Z0S 1
def ZfX := opN Z0S 2
def ZfB := opN Z0S 3
def Zgx := opN Z0S 4
theorem Z01e : XG 121 148 ZdX Z0S [14, 56, 57, 58, 59, 60, 61] := Z1 (by rfl) (by rfl) _
theorem ZMM : Z0S.toList = [ZfW, ZfV, ZfX, ZfB, Zgx] := nf
theorem ZJ2 : stepA E C B 148 Z0S ZfW (φ, H) = some (fput φ 57 (fget φ 0), H) := nf
theorem ZKu : stepA E C B 148 Z0S ZfV (φ, H) = some (fput φ 58 (fget φ 1), H) := nf
theorem ZKt : stepA E C B 148 Z0S ZfX (φ, H) = some (fput φ 59 (fget φ 2), H) := nf
theorem ZJk : stepA E C B 148 Z0S ZfB (φ, H) = some (fput φ 60 (fget φ 4), H) := nf
theorem ZL5 : stepA E C B 148 Z0S Zgx (φ, H) = mutX (some 61) φ (C 137 [(fget φ 57), (fget φ 58), (fget φ 59), (fget φ 60)] H (B + 148 * 8)) := nf
def Z8m := kR Z6n
def ZdU := kL Z8m
def Z0h := kO ZdU
def Ziu := opN Z0h 0
def ZhU := opN Z0h 1
def ZhI := opN Z0h 2
def ZfK := opN Z0h 3
def ZfL := opN Z0h 4
def ZgV := opN Z0h 5
def ZeL := opN Z0h 6
theorem Z031 : XG 121 148 ZdU Z0h [62, 63, 64, 65, 66, 67] := Z1 (by rfl) (by rfl) _
theorem ZLC : Z0h.toList = [Ziu, ZhU, ZhI, ZfK, ZfL, ZgV, ZeL] := nf
theorem ZGS : stepA E C B 148 Z0h Ziu (φ, H) = some (fput φ 62 (fget φ 2), H) := nf
theorem ZHH : stepA E C B 148 Z0h ZhU (φ, H) = stp (some 63) φ H (just (aBin E.T .sub 3 (fget φ 62) (.int .i64 1))) := nf
theorem ZLv : stepA E C B 148 Z0h ZhI (φ, H) = some (fput φ 64 (fget φ 13), H) := nf
theorem ZI0 : stepA E C B 148 Z0h ZfK (φ, H) = some (fput φ 65 (fget φ 1), H) := nf
theorem ZII : stepA E C B 148 Z0h ZfL (φ, H) = stp (some 66) φ H (just (aBin E.T .sub 3 (fget φ 64) (fget φ 65))) := nf
theorem ZHQ : stepA E C B 148 Z0h ZgV (φ, H) = stp (some 67) φ H (just (aBin E.T .sub 3 (fget φ 63) (fget φ 66))) := nf
theorem ZL7 : stepA E C B 148 Z0h ZeL (φ, H) = some (fput φ 13 (fget φ 67), H) := nf
def ZeB := kR Z8m
def Z71 := kO ZeB
def ZfC := opN Z71 0
theorem Z01O : XG 121 148 ZeB Z71 [] := Z1 (by rfl) (by rfl) _
theorem ZOa : Z71.toList = [ZfC] := nf
theorem ZIx : stepA E C B 148 Z71 ZfC (φ, H) = some (fput φ 14 (.int .i64 1), H) := nf
theorem ZYH : XQ 121 148 Z8m ZdU ZeB := Z0 (by rfl) _
theorem Z0a4 : XQ 121 148 Z6n ZdX Z8m := Z0 (by rfl) _
def ZC5 := kE Z6V
theorem Z02K : execA E C (fg 121) B 148 E0 N ZC5 s = some (.normal, s) := Zh (by rfl) s
theorem Z09a : XC 121 148 Z6V 56 Z6n ZC5 := Zf (by rfl) _
theorem Z03h : XQ 121 148 Z8f Ze2 Z6V := Z0 (by rfl) _
def Z7I := kR Z84
def Z70 := kL Z7I
def Zeb := kL Z70
def Z06 := kO Zeb
def Zin := opN Z06 0
def Z60 := opN Z06 1
def Zij := opN Z06 2
def ZeT := opN Z06 3
def Z4D := opN Z06 4
def Zg0 := opN Z06 5
def Zfk := opN Z06 6
def Ziz := opN Z06 7
theorem Z01h : XG 121 148 Zeb Z06 [14, 56, 68, 69, 70, 71, 72, 73, 74] := Z1 (by rfl) (by rfl) _
theorem ZOy : Z06.toList = [Zin, Z60, Zij, ZeT, Z4D, Zg0, Zfk, Ziz] := nf
theorem ZLM : stepA E C B 148 Z06 Zin (φ, H) = some (fput φ 68 (fget φ 10), H) := nf
theorem ZM4 : stepA E C B 148 Z06 Z60 (φ, H) = some (fput φ 69 (fget φ 68), H) := nf
theorem ZLB : stepA E C B 148 Z06 Zij (φ, H) = gd φ 69 true (fun φ => some (fput φ 70 (.tup []), H)) (fun φ => some (fput φ 70 (fget φ 11), H)) := s_gd (j := 1) (oj := Z60) rfl rfl rfl (fun _ => rfl) (fun _ => rfl)
theorem ZLb : stepA E C B 148 Z06 ZeT (φ, H) = stp (some 71) φ H (opPick (fget φ 69) (fget φ 70) (.bool false)) := nf
theorem ZIA : stepA E C B 148 Z06 Z4D (φ, H) = some (fput φ 72 (fget φ 71), H) := nf
theorem ZLU : stepA E C B 148 Z06 Zg0 (φ, H) = gd φ 72 true (fun φ => some (fput φ 73 (.tup []), H)) (fun φ => some (fput φ 73 (fget φ 14), H)) := s_gd (j := 4) (oj := Z4D) rfl rfl rfl (fun _ => rfl) (fun _ => rfl)
theorem ZOr : stepA E C B 148 Z06 Zfk (φ, H) = gd φ 72 true (fun φ => some (fput φ 74 (.tup []), H)) (fun φ => stp (some 74) φ H (just (aBin E.T .eql 105 (fget φ 73) (.int .i64 1)))) := s_gd (j := 4) (oj := Z4D) rfl rfl rfl (fun _ => rfl) (fun _ => rfl)
theorem ZGX : stepA E C B 148 Z06 Ziz (φ, H) = stp (some 75) φ H (opPick (fget φ 72) (fget φ 74) (.bool false)) := nf
def Z7F := kR Z70
def Z7d := kT Z7F
def ZdB := kL Z7d
def Z0U := kO ZdB
def Zhw := opN Z0U 0
def Zg4 := opN Z0U 1
def Zi9 := opN Z0U 2
def Zg5 := opN Z0U 3
def ZiL := opN Z0U 4
theorem Z07S : XG 121 148 ZdB Z0U [75, 76, 77, 78, 79] := Z1 (by rfl) (by rfl) _
theorem ZJX : Z0U.toList = [Zhw, Zg4, Zi9, Zg5, ZiL] := nf
theorem ZIP : stepA E C B 148 Z0U Zhw (φ, H) = some (fput φ 76 (fget φ 0), H) := nf
theorem ZNU : stepA E C B 148 Z0U Zg4 (φ, H) = some (fput φ 77 (fget φ 1), H) := nf
theorem ZM5 : stepA E C B 148 Z0U Zi9 (φ, H) = some (fput φ 78 (fget φ 2), H) := nf
theorem ZMI : stepA E C B 148 Z0U Zg5 (φ, H) = some (fput φ 79 (fget φ 4), H) := nf
theorem ZJH : stepA E C B 148 Z0U ZiL (φ, H) = mutX (some 80) φ (C 138 [(fget φ 76), (fget φ 77), (fget φ 78), (fget φ 79)] H (B + 148 * 8)) := nf
def Z6t := kR Z7d
def Zux := kT Z6t
theorem Z04N : execA E C (fg 121) B 148 E0 N Zux s = some (.ret, s) := Zo (by rfl) s
def ZE2 := kE Z6t
theorem Z0cl : execA E C (fg 121) B 148 E0 N ZE2 s = some (.normal, s) := Zh (by rfl) s
theorem Z06t : XC 121 148 Z6t 80 Zux ZE2 := Zf (by rfl) _
theorem ZYT : XQ 121 148 Z7d ZdB Z6t := Z0 (by rfl) _
def Zx5 := kE Z7F
theorem ZXB : execA E C (fg 121) B 148 E0 N Zx5 s = some (.normal, s) := Zh (by rfl) s
theorem ZZj : XC 121 148 Z7F 75 Z7d Zx5 := Zf (by rfl) _
theorem Z08V : XQ 121 148 Z70 Zeb Z7F := Z0 (by rfl) _
def Z7B := kR Z7I
def Z7w := kL Z7B
def ZdT := kL Z7w
def Zn := kO ZdT
def ZgT := opN Zn 0
def ZeW := opN Zn 1
def ZY := opN Zn 2
def ZfG := opN Zn 3
def ZhD := opN Zn 4
def Zie := opN Zn 5
def Zi4 := opN Zn 6
def Zgf := opN Zn 7
def Zh2 := opN Zn 8
def Zhp := opN Zn 9
def Zcl := opN Zn 10
def ZbR := opN Zn 11
def ZcT := opN Zn 12
def Zc8 := opN Zn 13
def ZcW := opN Zn 14
def Za2 := opN Zn 15
def ZcJ := opN Zn 16
theorem Z04B : XD 121 148 ZdT Zn [75, 80, 81, 82, 83, 84, 85, 86, 87, 88, 89, 90, 91, 92, 93, 94, 95, 96] := Z0v (by rfl) (by rfl) _
theorem ZJL : Zn.toList = [ZgT, ZeW, ZY, ZfG, ZhD, Zie, Zi4, Zgf, Zh2, Zhp, Zcl, ZbR, ZcT, Zc8, ZcW, Za2, ZcJ] := nf
theorem ZFf : statOk Zn = true := by kernel_rfl
theorem ZGy : drawA E C B 148 Zn s = if neat 148 s = true then drX Zn (runT E C B 148 Zn Zn.toList 0 s) else none := Z0c ZFf s
theorem ZEt (l : List (Nat × Tr)) : dynOk Zn l = (!writing l || Zc [[], [0], [0, 1], [0, 1, 2], [0, 1, 2], [0, 1, 2], [0, 1, 2, 5], [0, 1, 2, 4, 5, 6], [0, 1, 2, 4, 5, 6, 7], [0, 1, 2], [0, 1, 2], [0, 1, 2, 9, 10], [0, 1, 2, 9, 10, 11], [0, 1, 2, 3, 4, 5, 6, 7, 8, 9, 10, 11, 12], [0, 1, 2, 3, 4, 5, 6, 7, 8, 9, 10, 11, 12, 13], [0, 1, 2, 3, 4, 5, 6, 7, 8, 9, 10, 11, 12, 13, 14], [0, 1, 2, 3, 4, 5, 6, 7, 8, 9, 10, 11, 12, 13, 14, 15]] (Zb l)) := ZX (by kernel_rfl) l
theorem ZIR : stepT E C B 148 Zn ZgT (φ, H) = some ((fput φ 81 (fget φ 1), H), ⟨false, [], []⟩) := Z2 rfl (Z7 rfl rfl)
theorem ZMV : stepT E C B 148 Zn ZeW (φ, H) = stpT (some 82) φ H (just (aBin E.T .gtr 3 (fget φ 81) (.int .i64 0))) := Z2 rfl (Z6 rfl rfl)
theorem ZKI : stepT E C B 148 Zn ZY (φ, H) = some ((fput φ 83 (fget φ 82), H), ⟨false, [], []⟩) := Z2 rfl (Z7 rfl rfl)
theorem ZL1 : stepT E C B 148 Zn ZfG (φ, H) = gdT φ 83 true (fun φ => (some (fput φ 84 (.tup []), H)).map fun s => (s, ⟨false, [], []⟩)) (fun φ => some ((fput φ 84 (fget φ 4), H), ⟨false, [], []⟩)) := Zg (j := 2) (oj := ZY) rfl rfl rfl (fun _ => rfl) (fun _ => Z7 rfl rfl)
theorem ZLG : stepT E C B 148 Zn ZhD (φ, H) = gdT φ 83 true (fun φ => (some (fput φ 85 (.tup []), H)).map fun s => (s, ⟨false, [], []⟩)) (fun φ => some ((fput φ 85 (fget φ 0), H), ⟨false, [], []⟩)) := Zg (j := 2) (oj := ZY) rfl rfl rfl (fun _ => rfl) (fun _ => Z7 rfl rfl)
theorem ZKf : stepT E C B 148 Zn Zie (φ, H) = gdT φ 83 true (fun φ => (some (fput φ 86 (.tup []), H)).map fun s => (s, ⟨false, [], []⟩)) (fun φ => some ((fput φ 86 (fget φ 1), H), ⟨false, [], []⟩)) := Zg (j := 2) (oj := ZY) rfl rfl rfl (fun _ => rfl) (fun _ => Z7 rfl rfl)
theorem ZOv : stepT E C B 148 Zn Zi4 (φ, H) = gdT φ 83 true (fun φ => (some (fput φ 87 (.tup []), H)).map fun s => (s, ⟨false, [], []⟩)) (fun φ => stpT (some 87) φ H (just (aBin E.T .sub 3 (fget φ 86) (.int .i64 1)))) := Zg (j := 2) (oj := ZY) rfl rfl rfl (fun _ => rfl) (fun _ => Z6 rfl rfl)
theorem ZH4 : stepT E C B 148 Zn Zgf (φ, H) = gdT φ 83 true (fun φ => (some (fput φ 88 (.tup []), H)).map fun s => (s, ⟨false, [], []⟩)) (fun φ => stpT (some 88) φ H (just (Z4 E.T 22 (fget φ 85) (fget φ 87)))) := Zg (j := 2) (oj := ZY) rfl rfl rfl (fun _ => rfl) (fun _ => Z6 rfl rfl)
theorem ZMw : stepT E C B 148 Zn Zh2 (φ, H) = gdT φ 83 true (fun φ => (some (fput φ 89 (.tup []), H)).map fun s => (s, ⟨false, [], []⟩)) (fun φ => stpT (some 89) φ H (just (aLoad E.T 3 (fget φ 88)))) := Zg (j := 2) (oj := ZY) rfl rfl rfl (fun _ => rfl) (fun _ => Z6 rfl rfl)
theorem ZJA : stepT E C B 148 Zn Zhp (φ, H) = gdT φ 83 true (fun φ => (some (fput φ 90 (.tup []), H)).map fun s => (s, ⟨false, [], []⟩)) (fun φ => some ((fput φ 90 (fget φ 0), H), ⟨false, [], []⟩)) := Zg (j := 2) (oj := ZY) rfl rfl rfl (fun _ => rfl) (fun _ => Z7 rfl rfl)
theorem ZER : stepT E C B 148 Zn Zcl (φ, H) = gdT φ 83 true (fun φ => (some (fput φ 91 (.tup []), H)).map fun s => (s, ⟨false, [], []⟩)) (fun φ => some ((fput φ 91 (fget φ 13), H), ⟨false, [], []⟩)) := Zg (j := 2) (oj := ZY) rfl rfl rfl (fun _ => rfl) (fun _ => Z7 rfl rfl)
theorem ZEr : stepT E C B 148 Zn ZbR (φ, H) = gdT φ 83 true (fun φ => (some (fput φ 92 (.tup []), H)).map fun s => (s, ⟨false, [], []⟩)) (fun φ => stpT (some 92) φ H (just (Z4 E.T 22 (fget φ 90) (fget φ 91)))) := Zg (j := 2) (oj := ZY) rfl rfl rfl (fun _ => rfl) (fun _ => Z6 rfl rfl)
theorem ZEB : stepT E C B 148 Zn ZcT (φ, H) = gdT φ 83 true (fun φ => (some (fput φ 93 (.tup []), H)).map fun s => (s, ⟨false, [], []⟩)) (fun φ => stpT (some 93) φ H (just (aLoad E.T 3 (fget φ 92)))) := Zg (j := 2) (oj := ZY) rfl rfl rfl (fun _ => rfl) (fun _ => Z6 rfl rfl)
theorem ZEU : stepT E C B 148 Zn Zc8 (φ, H) = gdT φ 83 true (fun φ => (some (fput φ 94 (.tup []), H)).map fun s => (s, ⟨false, [], []⟩)) (fun φ => callVT E C (B + 148 * 8) (some 94) (fun j => B + j * 148 + 94) φ H (fget φ 84) [(fget φ 89), (fget φ 93)] true) := Zg (j := 2) (oj := ZY) rfl rfl rfl (fun _ => rfl) (fun _ => Zk6 rfl rfl)
theorem ZEA : stepT E C B 148 Zn ZcW (φ, H) = gdT φ 83 true (fun φ => (some (fput φ 95 (.tup []), H)).map fun s => (s, ⟨false, [], []⟩)) (fun φ => stpT (some 95) φ H (just (aBin E.T .lss 3 (fget φ 94) (.int .i64 0)))) := Zg (j := 2) (oj := ZY) rfl rfl rfl (fun _ => rfl) (fun _ => Z6 rfl rfl)
theorem ZGC : stepT E C B 148 Zn Za2 (φ, H) = gdT φ 83 true (fun φ => (some (fput φ 96 (.tup []), H)).map fun s => (s, ⟨false, [], []⟩)) (fun φ => stpT (some 96) φ H (justO (aUn .not (fget φ 95)))) := Zg (j := 2) (oj := ZY) rfl rfl rfl (fun _ => rfl) (fun _ => Z6 rfl rfl)
theorem ZEE : stepT E C B 148 Zn ZcJ (φ, H) = stpT (some 97) φ H (opPick (fget φ 83) (fget φ 96) (.bool false)) := Z2 rfl (Z6 rfl rfl)
def Z79 := kR Z7w
def Z6T := kT Z79
def Zei := kL Z6T
def Z0i := kO Zei
def Zfj := opN Z0i 0
def ZeM := opN Z0i 1
def ZfO := opN Z0i 2
def ZhK := opN Z0i 3
def ZgL := opN Z0i 4
def ZgS := opN Z0i 5
def ZfY := opN Z0i 6
theorem Z08p : XG 121 148 Zei Z0i [1, 12, 13, 97, 98, 99, 100, 101, 102, 103] := Z1 (by rfl) (by rfl) _
theorem ZIl : Z0i.toList = [Zfj, ZeM, ZfO, ZhK, ZgL, ZgS, ZfY] := nf
theorem ZIU : stepA E C B 148 Z0i Zfj (φ, H) = some (fput φ 98 (fget φ 0), H) := nf
theorem ZMR : stepA E C B 148 Z0i ZeM (φ, H) = some (fput φ 99 (fget φ 1), H) := nf
theorem ZLQ : stepA E C B 148 Z0i ZfO (φ, H) = some (fput φ 100 (fget φ 2), H) := nf
theorem ZIK : stepA E C B 148 Z0i ZhK (φ, H) = some (fput φ 101 (fget φ 13), H) := nf
theorem ZJj : stepA E C B 148 Z0i ZgL (φ, H) = some (fput φ 102 (fget φ 4), H) := nf
theorem ZJh : stepA E C B 148 Z0i ZgS (φ, H) = mutX (some 103) φ (C 139 [(fget φ 98), (fget φ 99), (fget φ 100), (fget φ 101), (fget φ 102)] H (B + 148 * 8)) := nf
theorem ZMo : stepA E C B 148 Z0i ZfY (φ, H) = some (fput φ 15 (fget φ 103), H) := nf
def Z6x := kR Z6T
def ZdW := kL Z6x
def Z3G := kO ZdW
def ZeU := opN Z3G 0
def ZiD := opN Z3G 1
theorem Z03C : XG 121 148 ZdW Z3G [15, 104] := Z1 (by rfl) (by rfl) _
theorem ZMK : Z3G.toList = [ZeU, ZiD] := nf
theorem ZMF : stepA E C B 148 Z3G ZeU (φ, H) = some (fput φ 104 (fget φ 15), H) := nf
theorem ZLz : stepA E C B 148 Z3G ZiD (φ, H) = some (fput φ 1 (fget φ 104), H) := nf
def Zxz := kR Z6x
theorem Z05m : execA E C (fg 121) B 148 E0 N Zxz s = some (.exit 1, s) := ZW (by rfl) s
theorem Z01u : XQ 121 148 Z6x ZdW Zxz := Z0 (by rfl) _
theorem Z07r : XQ 121 148 Z6T Zei Z6x := Z0 (by rfl) _
def ZEm := kE Z79
theorem Z05u : execA E C (fg 121) B 148 E0 N ZEm s = some (.normal, s) := Zh (by rfl) s
theorem Z084 : XC 121 148 Z79 97 Z6T ZEm := Zf (by rfl) _
theorem Z0ba : XQ 121 148 Z7w ZdT Z79 := Z0 (by rfl) _
def Z74 := kR Z7B
def ZdE := kL Z74
def ZJ := kO ZdE
def Zii := opN ZJ 0
def ZfN := opN ZJ 1
def Zgg := opN ZJ 2
def ZhQ := opN ZJ 3
def Zfd := opN ZJ 4
def ZiH := opN ZJ 5
def Zic := opN ZJ 6
def Zi6 := opN ZJ 7
def Zfr := opN ZJ 8
def Zhx := opN ZJ 9
def Z9B := opN ZJ 10
theorem Z0b3 : XG 121 148 ZdE ZJ [10, 11, 13, 97, 105, 106, 107, 108, 109, 110, 111, 112, 113] := Z1 (by rfl) (by rfl) _
theorem ZLg : ZJ.toList = [Zii, ZfN, Zgg, ZhQ, Zfd, ZiH, Zic, Zi6, Zfr, Zhx, Z9B] := nf
theorem ZM2 : stepA E C B 148 ZJ Zii (φ, H) = some (fput φ 106 (fget φ 0), H) := nf
theorem ZHi : stepA E C B 148 ZJ ZfN (φ, H) = some (fput φ 107 (fget φ 1), H) := nf
theorem ZLh : stepA E C B 148 ZJ Zgg (φ, H) = some (fput φ 108 (fget φ 2), H) := nf
theorem ZMy : stepA E C B 148 ZJ ZhQ (φ, H) = some (fput φ 109 (fget φ 13), H) := nf
theorem ZN1 : stepA E C B 148 ZJ Zfd (φ, H) = some (fput φ 110 (fget φ 4), H) := nf
theorem ZMq : stepA E C B 148 ZJ ZiH (φ, H) = mutX (some 111) φ (C 140 [(fget φ 106), (fget φ 107), (fget φ 108), (fget φ 109), (fget φ 110)] H (B + 148 * 8)) := nf
theorem ZNT : stepA E C B 148 ZJ Zic (φ, H) = some (fput φ 105 (fget φ 111), H) := nf
theorem ZHF : stepA E C B 148 ZJ Zi6 (φ, H) = stp (some 112) φ H (Zd (fget φ 105) 0) := nf
theorem ZMH : stepA E C B 148 ZJ Zfr (φ, H) = stp (some 113) φ H (Zd (fget φ 105) 1) := nf
theorem ZJf : stepA E C B 148 ZJ Zhx (φ, H) = some (fput φ 16 (fget φ 112), H) := nf
theorem ZFT : stepA E C B 148 ZJ Z9B (φ, H) = some (fput φ 17 (fget φ 113), H) := nf
def Z8i := kR Z74
def Zej := kL Z8i
def Z3A := kO Zej
def Zfi := opN Z3A 0
def Zh3 := opN Z3A 1
theorem ZZW : XG 121 148 Zej Z3A [17, 114] := Z1 (by rfl) (by rfl) _
theorem ZOI : Z3A.toList = [Zfi, Zh3] := nf
theorem ZOb : stepA E C B 148 Z3A Zfi (φ, H) = some (fput φ 114 (fget φ 17), H) := nf
theorem ZMv : stepA E C B 148 Z3A Zh3 (φ, H) = some (fput φ 11 (fget φ 114), H) := nf
def Z81 := kR Z8i
def Zec := kL Z81
def Z05 := kO Zec
def Zik := opN Z05 0
def ZfJ := opN Z05 1
def Zfe := opN Z05 2
def Zh0 := opN Z05 3
def ZgO := opN Z05 4
def ZeP := opN Z05 5
def ZeE := opN Z05 6
def ZgY := opN Z05 7
theorem Z0aS : XG 121 148 Zec Z05 [115, 116, 117, 118, 119, 120] := Z1 (by rfl) (by rfl) _
theorem ZIv : Z05.toList = [Zik, ZfJ, Zfe, Zh0, ZgO, ZeP, ZeE, ZgY] := nf
theorem ZJg : stepA E C B 148 Z05 Zik (φ, H) = some (fput φ 115 (fget φ 16), H) := nf
theorem ZOe : stepA E C B 148 Z05 ZfJ (φ, H) = some (fput φ 116 (fget φ 1), H) := nf
theorem ZKX : stepA E C B 148 Z05 Zfe (φ, H) = stp (some 117) φ H (just (aBin E.T .sub 3 (fget φ 115) (fget φ 116))) := nf
theorem ZOz : stepA E C B 148 Z05 Zh0 (φ, H) = some (fput φ 118 (fget φ 2), H) := nf
theorem ZHz : stepA E C B 148 Z05 ZgO (φ, H) = some (fput φ 119 (fget φ 16), H) := nf
theorem ZI1 : stepA E C B 148 Z05 ZeP (φ, H) = stp (some 120) φ H (just (aBin E.T .sub 3 (fget φ 118) (fget φ 119))) := nf
theorem ZMa : stepA E C B 148 Z05 ZeE (φ, H) = some (fput φ 18 (fget φ 117), H) := nf
theorem ZJW : stepA E C B 148 Z05 ZgY (φ, H) = some (fput φ 19 (fget φ 120), H) := nf
def Z6z := kR Z81
def Zdx := kL Z6z
def Z2m := kO Zdx
def ZgU := opN Z2m 0
def ZgH := opN Z2m 1
def Zix := opN Z2m 2
theorem Z06O : XG 121 148 Zdx Z2m [12, 121, 122] := Z1 (by rfl) (by rfl) _
theorem ZON : Z2m.toList = [ZgU, ZgH, Zix] := nf
theorem ZIp : stepA E C B 148 Z2m ZgU (φ, H) = some (fput φ 121 (fget φ 12), H) := nf
theorem ZNK : stepA E C B 148 Z2m ZgH (φ, H) = stp (some 122) φ H (just (aBin E.T .quo 3 (fget φ 121) (.int .i64 8))) := nf
theorem ZIy : stepA E C B 148 Z2m Zix (φ, H) = some (fput φ 20 (fget φ 122), H) := nf
def Z83 := kR Z6z
def Zem := kL Z83
def Z2r := kO Zem
def ZfD := opN Z2r 0
def ZhE := opN Z2r 1
def ZgG := opN Z2r 2
theorem Z09e : XG 121 148 Zem Z2r [123, 124] := Z1 (by rfl) (by rfl) _
theorem ZOh : Z2r.toList = [ZfD, ZhE, ZgG] := nf
theorem ZNl : stepA E C B 148 Z2r ZfD (φ, H) = some (fput φ 123 (fget φ 18), H) := nf
theorem ZJp : stepA E C B 148 Z2r ZhE (φ, H) = some (fput φ 124 (fget φ 19), H) := nf
theorem ZLS : stepA E C B 148 Z2r ZgG (φ, H) = stp (some 125) φ H (just (aBin E.T .lss 3 (fget φ 123) (fget φ 124))) := nf
def Z6Q := kR Z83
def Z6l := kT Z6Q
def Zeq := kL Z6l
def Z1B := kO Zeq
def Zfm := opN Z1B 0
def ZfS := opN Z1B 1
def ZfT := opN Z1B 2
def Zip := opN Z1B 3
theorem Z02O : XG 121 148 Zeq Z1B [18, 19, 20, 125, 126, 127, 128] := Z1 (by rfl) (by rfl) _
theorem ZOo : Z1B.toList = [Zfm, ZfS, ZfT, Zip] := nf
theorem ZLR : stepA E C B 148 Z1B Zfm (φ, H) = some (fput φ 126 (fget φ 18), H) := nf
theorem ZIk : stepA E C B 148 Z1B ZfS (φ, H) = some (fput φ 127 (fget φ 20), H) := nf
theorem ZLo : stepA E C B 148 Z1B ZfT (φ, H) = stp (some 128) φ H (just (aBin E.T .geq 3 (fget φ 126) (fget φ 127))) := nf
theorem ZH7 : stepA E C B 148 Z1B Zip (φ, H) = some (fput φ 10 (fget φ 128), H) := nf
def Z6S := kR Z6l
def Zeo := kL Z6S
def Z0w := kO Zeo
def ZhB := opN Z0w 0
def ZgW := opN Z0w 1
def ZfU := opN Z0w 2
def Zia := opN Z0w 3
def Zha := opN Z0w 4
def Zfs := opN Z0w 5
theorem Z03T : XG 121 148 Zeo Z0w [1, 129, 130, 131, 132, 133, 134] := Z1 (by rfl) (by rfl) _
theorem ZOK : Z0w.toList = [ZhB, ZgW, ZfU, Zia, Zha, Zfs] := nf
theorem ZNx : stepA E C B 148 Z0w ZhB (φ, H) = some (fput φ 129 (fget φ 0), H) := nf
theorem ZMk : stepA E C B 148 Z0w ZgW (φ, H) = some (fput φ 130 (fget φ 1), H) := nf
theorem ZIm : stepA E C B 148 Z0w ZfU (φ, H) = some (fput φ 131 (fget φ 16), H) := nf
theorem ZMp : stepA E C B 148 Z0w Zia (φ, H) = some (fput φ 132 (fget φ 3), H) := nf
theorem ZM3 : stepA E C B 148 Z0w Zha (φ, H) = some (fput φ 133 (fget φ 4), H) := nf
theorem ZID : stepA E C B 148 Z0w Zfs (φ, H) = mutX (some 134) φ (C 121 [(fget φ 129), (fget φ 130), (fget φ 131), (fget φ 132), (fget φ 133)] H (B + 148 * 8)) := nf
def ZeA := kR Z6S
def Z2p := kO ZeA
def Zfc := opN Z2p 0
def ZfP := opN Z2p 1
def Zfh := opN Z2p 2
theorem ZXC : XG 121 148 ZeA Z2p [16, 135, 136] := Z1 (by rfl) (by rfl) _
theorem ZL0 : Z2p.toList = [Zfc, ZfP, Zfh] := nf
theorem ZKN : stepA E C B 148 Z2p Zfc (φ, H) = some (fput φ 135 (fget φ 16), H) := nf
theorem ZMx : stepA E C B 148 Z2p ZfP (φ, H) = stp (some 136) φ H (just (aBin E.T .add 3 (fget φ 135) (.int .i64 1))) := nf
theorem ZKR : stepA E C B 148 Z2p Zfh (φ, H) = some (fput φ 1 (fget φ 136), H) := nf
theorem Z05f : XQ 121 148 Z6S Zeo ZeA := Z0 (by rfl) _
theorem ZXm : XQ 121 148 Z6l Zeq Z6S := Z0 (by rfl) _
def Z7a := kE Z6Q
def ZdZ := kL Z7a
def Z1v := kO ZdZ
def ZiN := opN Z1v 0
def Zi7 := opN Z1v 1
def Zim := opN Z1v 2
def Zf3 := opN Z1v 3
theorem Z045 : XG 121 148 ZdZ Z1v [18, 19, 20, 125, 137, 138, 139] := Z1 (by rfl) (by rfl) _
theorem ZNp : Z1v.toList = [ZiN, Zi7, Zim, Zf3] := nf
theorem ZMY : stepA E C B 148 Z1v ZiN (φ, H) = some (fput φ 137 (fget φ 19), H) := nf
theorem ZN7 : stepA E C B 148 Z1v Zi7 (φ, H) = some (fput φ 138 (fget φ 20), H) := nf
theorem ZNJ : stepA E C B 148 Z1v Zim (φ, H) = stp (some 139) φ H (just (aBin E.T .geq 3 (fget φ 137) (fget φ 138))) := nf
theorem ZMn : stepA E C B 148 Z1v Zf3 (φ, H) = some (fput φ 10 (fget φ 139), H) := nf
def Z8c := kR Z7a
def Zdj := kL Z8c
def Z0j := kO Zdj
def Zhm := opN Z0j 0
def Zhv := opN Z0j 1
def Zgq := opN Z0j 2
def ZhR := opN Z0j 3
def Zhr := opN Z0j 4
def Zfu := opN Z0j 5
def Zgv := opN Z0j 6
theorem Z02l : XG 121 148 Zdj Z0j [2, 140, 141, 142, 143, 144, 145, 146] := Z1 (by rfl) (by rfl) _
theorem ZHN : Z0j.toList = [Zhm, Zhv, Zgq, ZhR, Zhr, Zfu, Zgv] := nf
theorem ZH5 : stepA E C B 148 Z0j Zhm (φ, H) = some (fput φ 140 (fget φ 0), H) := nf
theorem ZMi : stepA E C B 148 Z0j Zhv (φ, H) = some (fput φ 141 (fget φ 16), H) := nf
theorem ZIW : stepA E C B 148 Z0j Zgq (φ, H) = stp (some 142) φ H (just (aBin E.T .add 3 (fget φ 141) (.int .i64 1))) := nf
theorem ZHl : stepA E C B 148 Z0j ZhR (φ, H) = some (fput φ 143 (fget φ 2), H) := nf
theorem ZOn : stepA E C B 148 Z0j Zhr (φ, H) = some (fput φ 144 (fget φ 3), H) := nf
theorem ZN0 : stepA E C B 148 Z0j Zfu (φ, H) = some (fput φ 145 (fget φ 4), H) := nf
theorem ZJE : stepA E C B 148 Z0j Zgv (φ, H) = mutX (some 146) φ (C 121 [(fget φ 140), (fget φ 142), (fget φ 143), (fget φ 144), (fget φ 145)] H (B + 148 * 8)) := nf
def Zes := kR Z8c
def Z3D := kO Zes
def Zif := opN Z3D 0
def Zff := opN Z3D 1
theorem Z04Z : XG 121 148 Zes Z3D [16, 147] := Z1 (by rfl) (by rfl) _
theorem ZKM : Z3D.toList = [Zif, Zff] := nf
theorem ZJ7 : stepA E C B 148 Z3D Zif (φ, H) = some (fput φ 147 (fget φ 16), H) := nf
theorem ZOL : stepA E C B 148 Z3D Zff (φ, H) = some (fput φ 2 (fget φ 147), H) := nf
theorem Z047 : XQ 121 148 Z8c Zdj Zes := Z0 (by rfl) _
theorem Z0aM : XQ 121 148 Z7a ZdZ Z8c := Z0 (by rfl) _
theorem Z08f : XC 121 148 Z6Q 125 Z6l Z7a := Zf (by rfl) _
theorem Z0aa : XQ 121 148 Z83 Zem Z6Q := Z0 (by rfl) _
theorem Z05U : XQ 121 148 Z6z Zdx Z83 := Z0 (by rfl) _
theorem Z09H : XQ 121 148 Z81 Zec Z6z := Z0 (by rfl) _
theorem Z01T : XQ 121 148 Z8i Zej Z81 := Z0 (by rfl) _
theorem Z03G : XQ 121 148 Z74 ZdE Z8i := Z0 (by rfl) _
theorem Z09N : XQ 121 148 Z7B Z7w Z74 := Z0 (by rfl) _
theorem Z00A : XQ 121 148 Z7I Z70 Z7B := Z0 (by rfl) _
theorem Z05a : XQ 121 148 Z84 Z8f Z7I := Z0 (by rfl) _
theorem Z02B : XQ 121 148 Z7P Zdg Z84 := Z0 (by rfl) _
theorem ZZD : XQ 121 148 Z7W Z7c Z7P := Z0 (by rfl) _
theorem Z038 : XQ 121 148 Z6y Z7C Z7W := Z0 (by rfl) _
theorem Z0iQ : XQ 121 148 ZaX Z6q Z6y := Z0 (by rfl) _
theorem Z0jS : XQ 121 148 ZbL Zmb ZaX := Z0 (by rfl) _
theorem Z0kw : execA E C (fg 121) B 148 E0 N Zni s = blockX 1 (fun s => (forget s.1 [], s.2)) (execA E C (fg 121) B 148 E0 N ZbL s) := Zi (by rfl) (by rfl) s
theorem Z0fR : execA E C (fg 121) B 148 E0 N ZmK s = iterA (execA E C (fg 121) B 148 E0 N Zni) (headA E0) N s := Z08 (by rfl) s
theorem Z0i0 : execA E C (fg 121) B 148 E0 N Zmo s = blockX 0 (fun s => (forget s.1 [], s.2)) (execA E C (fg 121) B 148 E0 N ZmK s) := Zi (by rfl) (by rfl) s
theorem Z0fX : XQ 121 148 Z9F Zqy Zmo := Z0 (by rfl) _
theorem Z0dA : XQ 121 148 Z65 ZqG Z9F := Z0 (by rfl) _
theorem Z0hm : fInfo E 121 = some ⟨148, #[], Z65⟩ := nf
theorem Z0oE (args : List AV) : bodyA E C fg N 121 args H B = bodyX E [] (execA E C (fg 121) B 148 H N Z65 (Z5 args 0 [], H)) := Zp Z0hm args H
abbrev Z0l8 := And.intro (And.intro (And.intro (And.intro (And.intro (And.intro (And.intro (And.intro @Z0f6 @ZPT) (And.intro @ZVS @Z0fJ)) (And.intro (And.intro @ZQH @ZTm) (And.intro @Z0hS @ZTz))) (And.intro (And.intro (And.intro @ZVh @ZS0) (And.intro @ZUQ @ZSr)) (And.intro (And.intro @Z03y @ZSf) (And.intro @ZSv @ZQG)))) (And.intro (And.intro (And.intro (And.intro @Z0aw @ZW9) (And.intro @ZUk @ZOV)) (And.intro (And.intro @ZTN @ZPC) (And.intro @ZS5 @Z05v))) (And.intro (And.intro (And.intro @Z089 @Z0bW) (And.intro @Z0cb @Z051)) (And.intro (And.intro @Z07b @ZVZ) (And.intro @ZQy (And.intro @ZW3 @Z04j)))))) (And.intro (And.intro (And.intro (And.intro (And.intro @ZWE @ZRK) (And.intro @ZU7 @ZWl)) (And.intro (And.intro @ZVi @ZSO) (And.intro @Z05e @Z07v))) (And.intro (And.intro (And.intro @Z08l @Z06B) (And.intro @Z0cv @Z07g)) (And.intro (And.intro @ZWq @ZUo) (And.intro @ZSG @Z07j)))) (And.intro (And.intro (And.intro (And.intro @ZQa @ZRW) (And.intro @ZOU @ZTb)) (And.intro (And.intro @ZTs @ZTV) (And.intro @Z099 @ZR6))) (And.intro (And.intro (And.intro @ZWx @ZPb) (And.intro @ZWB @Z0bf)) (And.intro (And.intro @Z0cr @Z01p) (And.intro @ZY5 (And.intro @Z08W @ZNz))))))) (And.intro (And.intro (And.intro (And.intro (And.intro (And.intro @ZN6 @ZL4) (And.intro @ZIj @ZOu)) (And.intro (And.intro @ZJT @ZHu) (And.intro @ZIn @ZIq))) (And.intro (And.intro (And.intro @ZMg @ZNn) (And.intro @Z02g @ZNI)) (And.intro (And.intro @ZKi @ZLT) (And.intro @Z01e @ZMM)))) (And.intro (And.intro (And.intro (And.intro @ZJ2 @ZKu) (And.intro @ZKt @ZJk)) (And.intro (And.intro @ZL5 @Z031) (And.intro @ZLC @ZGS))) (And.intro (And.intro (And.intro @ZHH @ZLv) (And.intro @ZI0 @ZII)) (And.intro (And.intro @ZHQ @ZL7) (And.intro @Z01O (And.intro @ZOa @ZIx)))))) (And.intro (And.intro (And.intro (And.intro (And.intro @ZYH @Z0a4) (And.intro @Z02K @Z09a)) (And.intro (And.intro @Z03h @Z01h) (And.intro @ZOy @ZLM))) (And.intro (And.intro (And.intro @ZM4 @ZLB) (And.intro @ZLb @ZIA)) (And.intro (And.intro @ZLU @ZOr) (And.intro @ZGX (And.intro @Z07S @ZJX))))) (And.intro (And.intro (And.intro (And.intro @ZIP @ZNU) (And.intro @ZM5 @ZMI)) (And.intro (And.intro @ZJH @Z04N) (And.intro @Z0cl @Z06t))) (And.intro (And.intro (And.intro @ZYT @ZXB) (And.intro @ZZj @Z08V)) (And.intro (And.intro @Z04B @ZJL) (And.intro @ZGy (And.intro @ZEt @ZIR)))))))) (And.intro (And.intro (And.intro (And.intro (And.intro (And.intro (And.intro @ZMV @ZKI) (And.intro @ZL1 @ZLG)) (And.intro (And.intro @ZKf @ZOv) (And.intro @ZH4 @ZMw))) (And.intro (And.intro (And.intro @ZJA @ZER) (And.intro @ZEr @ZEB)) (And.intro (And.intro @ZEU @ZEA) (And.intro @ZGC @ZEE)))) (And.intro (And.intro (And.intro (And.intro @Z08p @ZIl) (And.intro @ZIU @ZMR)) (And.intro (And.intro @ZLQ @ZIK) (And.intro @ZJj @ZJh))) (And.intro (And.intro (And.intro @ZMo @Z03C) (And.intro @ZMK @ZMF)) (And.intro (And.intro @ZLz @Z05m) (And.intro @Z01u (And.intro @Z07r @Z05u)))))) (And.intro (And.intro (And.intro (And.intro (And.intro @Z084 @Z0ba) (And.intro @Z0b3 @ZLg)) (And.intro (And.intro @ZM2 @ZHi) (And.intro @ZLh @ZMy))) (And.intro (And.intro (And.intro @ZN1 @ZMq) (And.intro @ZNT @ZHF)) (And.intro (And.intro @ZMH @ZJf) (And.intro @ZFT (And.intro @ZZW @ZOI))))) (And.intro (And.intro (And.intro (And.intro @ZOb @ZMv) (And.intro @Z0aS @ZIv)) (And.intro (And.intro @ZJg @ZOe) (And.intro @ZKX @ZOz))) (And.intro (And.intro (And.intro @ZHz @ZI1) (And.intro @ZMa @ZJW)) (And.intro (And.intro @Z06O @ZON) (And.intro @ZIp (And.intro @ZNK @ZIy))))))) (And.intro (And.intro (And.intro (And.intro (And.intro (And.intro @Z09e @ZOh) (And.intro @ZNl @ZJp)) (And.intro (And.intro @ZLS @Z02O) (And.intro @ZOo @ZLR))) (And.intro (And.intro (And.intro @ZIk @ZLo) (And.intro @ZH7 @Z03T)) (And.intro (And.intro @ZOK @ZNx) (And.intro @ZMk @ZIm)))) (And.intro (And.intro (And.intro (And.intro @ZMp @ZM3) (And.intro @ZID @ZXC)) (And.intro (And.intro @ZL0 @ZKN) (And.intro @ZMx @ZKR))) (And.intro (And.intro (And.intro @Z05f @ZXm) (And.intro @Z045 @ZNp)) (And.intro (And.intro @ZMY @ZN7) (And.intro @ZNJ (And.intro @ZMn @Z02l)))))) (And.intro (And.intro (And.intro (And.intro (And.intro @ZHN @ZH5) (And.intro @ZMi @ZIW)) (And.intro (And.intro @ZHl @ZOn) (And.intro @ZN0 @ZJE))) (And.intro (And.intro (And.intro @Z04Z @ZKM) (And.intro @ZJ7 @ZOL)) (And.intro (And.intro @Z047 @Z0aM) (And.intro @Z08f (And.intro @Z0aa @Z05U))))) (And.intro (And.intro (And.intro (And.intro @Z09H @Z01T) (And.intro @Z03G @Z09N)) (And.intro (And.intro @Z00A @Z05a) (And.intro @Z02B @ZZD))) (And.intro (And.intro (And.intro @Z038 @Z0iQ) (And.intro @Z0jS @Z0kw)) (And.intro (And.intro @Z0fR @Z0i0) (And.intro @Z0fX (And.intro @Z0dA @Z0oE))))))))
def Z5R := kBody Proofs.Try.f133
def Zq1 := kL Z5R
def Z39 := kO Zq1
def Zpi := opN Z39 0
def Zq4 := opN Z39 1
def Zsf := opN Z39 2
theorem Z0fp : XG 133 53 Zq1 Z39 [10, 11] := Z1 (by rfl) (by rfl) _
theorem ZU3 : Z39.toList = [Zpi, Zq4, Zsf] := nf
theorem ZVv : stepA E C B 53 Z39 Zpi (φ, H) = some (fput φ 10 (fget φ 1), H) := nf
theorem ZU6 : stepA E C B 53 Z39 Zq4 (φ, H) = stp (some 11) φ H (just (aBin E.T .add 3 (fget φ 10) (.int .i64 1))) := nf
theorem ZRp : stepA E C B 53 Z39 Zsf (φ, H) = some (fput φ 8 (fget φ 11), H) := nf
def Zq6 := kR Z5R
def Zp1 := kB Zq6
def Z6d := kB Zp1
def Zag := kL Z6d
def ZoA := kL Zag
def Z3d := kO ZoA
def ZmP := opN Z3d 0
def Zoc := opN Z3d 1
def ZnZ := opN Z3d 2
theorem Z0hV : XG 133 53 ZoA Z3d [12, 13] := Z1 (by rfl) (by rfl) _
theorem ZRe : Z3d.toList = [ZmP, Zoc, ZnZ] := nf
theorem ZUm : stepA E C B 53 Z3d ZmP (φ, H) = some (fput φ 12 (fget φ 8), H) := nf
theorem ZPK : stepA E C B 53 Z3d Zoc (φ, H) = some (fput φ 13 (fget φ 2), H) := nf
theorem ZP7 : stepA E C B 53 Z3d ZnZ (φ, H) = stp (some 14) φ H (just (aBin E.T .lss 3 (fget φ 12) (fget φ 13))) := nf
def Z9w := kR Zag
def ZMU := kT Z9w
theorem Z0ky : execA E C (fg 133) B 53 E0 N ZMU s = some (.normal, s) := Zh (by rfl) s
def ZOC := kE Z9w
theorem Z0kG : execA E C (fg 133) B 53 E0 N ZOC s = some (.exit 0, s) := ZW (by rfl) s
theorem Z0dy : XC 133 53 Z9w 14 ZMU ZOC := Zf (by rfl) _
theorem Z0kF : XQ 133 53 Zag ZoA Z9w := Z0 (by rfl) _
def Z7G := kR Z6d
def Ze3 := kL Z7G
def Z82 := kB Ze3
def ZdC := kL Z82
def Z56 := kO ZdC
def Zu0 := opN Z56 0
def ZtT := opN Z56 1
theorem Z00W : XG 133 53 ZdC Z56 [14, 17] := Z1 (by rfl) (by rfl) _
theorem ZRk : Z56.toList = [Zu0, ZtT] := nf
theorem ZP0 : stepA E C B 53 Z56 Zu0 (φ, H) = some (fput φ 17 (fget φ 8), H) := nf
theorem ZQo : stepA E C B 53 Z56 ZtT (φ, H) = some (fput φ 9 (fget φ 17), H) := nf
def ZdF := kR Z82
def ZdQ := kB ZdF
def Z52 := kB ZdQ
def Z7D := kL Z52
def ZdN := kL Z7D
def Zt := kO ZdN
def ZrA := opN Zt 0
def ZsG := opN Zt 1
def ZrL := opN Zt 2
def Z0e := opN Zt 3
def Zso := opN Zt 4
def Zno := opN Zt 5
def Zof := opN Zt 6
def Zms := opN Zt 7
def Zpy := opN Zt 8
def ZrM := opN Zt 9
def ZhW := opN Zt 10
def Zfg := opN Zt 11
def Zfw := opN Zt 12
def ZgC := opN Zt 13
def ZeD := opN Zt 14
def Zh8 := opN Zt 15
def Zgu := opN Zt 16
theorem ZZs : XD 133 53 ZdN Zt [18, 19, 20, 21, 22, 23, 24, 25, 26, 27, 28, 29, 30, 31, 32, 33] := Z0v (by rfl) (by rfl) _
theorem ZQQ : Zt.toList = [ZrA, ZsG, ZrL, Z0e, Zso, Zno, Zof, Zms, Zpy, ZrM, ZhW, Zfg, Zfw, ZgC, ZeD, Zh8, Zgu] := nf
theorem ZIo : statOk Zt = true := by kernel_rfl
theorem ZLA : drawA E C B 53 Zt s = if neat 53 s = true then drX Zt (runT E C B 53 Zt Zt.toList 0 s) else none := Z0c ZIo s
theorem ZJc (l : List (Nat × Tr)) : dynOk Zt l = (!writing l || Zc [[], [], [0, 1], [0, 1, 2], [0, 1, 2, 3], [0, 1, 2, 3], [0, 1, 2, 3], [0, 1, 2, 3, 5, 6], [0, 1, 2, 3, 5, 6, 7], [0, 1, 2, 3], [0, 1, 2, 3], [0, 1, 2, 3, 10], [0, 1, 2, 3, 9, 10, 11], [0, 1, 2, 3, 9, 10, 11, 12], [0, 1, 2, 3, 4, 5, 6, 7, 8, 9, 10, 11, 12, 13], [0, 1, 2, 3, 4, 5, 6, 7, 8, 9, 10, 11, 12, 13, 14], [0, 1, 2, 3, 4, 5, 6, 7, 8, 9, 10, 11, 12, 13, 14, 15]] (Zb l)) := ZX (by kernel_rfl) l
theorem ZR1 : stepT E C B 53 Zt ZrA (φ, H) = some ((fput φ 18 (fget φ 9), H), ⟨false, [], []⟩) := Z2 rfl (Z7 rfl rfl)
theorem ZQv : stepT E C B 53 Zt ZsG (φ, H) = some ((fput φ 19 (fget φ 1), H), ⟨false, [], []⟩) := Z2 rfl (Z7 rfl rfl)
theorem ZWK : stepT E C B 53 Zt ZrL (φ, H) = stpT (some 20) φ H (just (aBin E.T .gtr 3 (fget φ 18) (fget φ 19))) := Z2 rfl (Z6 rfl rfl)
theorem ZSA : stepT E C B 53 Zt Z0e (φ, H) = some ((fput φ 21 (fget φ 20), H), ⟨false, [], []⟩) := Z2 rfl (Z7 rfl rfl)
theorem ZS3 : stepT E C B 53 Zt Zso (φ, H) = gdT φ 21 true (fun φ => (some (fput φ 22 (.tup []), H)).map fun s => (s, ⟨false, [], []⟩)) (fun φ => some ((fput φ 22 (fget φ 3), H), ⟨false, [], []⟩)) := Zg (j := 3) (oj := Z0e) rfl rfl rfl (fun _ => rfl) (fun _ => Z7 rfl rfl)
theorem ZPW : stepT E C B 53 Zt Zno (φ, H) = gdT φ 21 true (fun φ => (some (fput φ 23 (.tup []), H)).map fun s => (s, ⟨false, [], []⟩)) (fun φ => some ((fput φ 23 (fget φ 0), H), ⟨false, [], []⟩)) := Zg (j := 3) (oj := Z0e) rfl rfl rfl (fun _ => rfl) (fun _ => Z7 rfl rfl)
theorem ZRh : stepT E C B 53 Zt Zof (φ, H) = gdT φ 21 true (fun φ => (some (fput φ 24 (.tup []), H)).map fun s => (s, ⟨false, [], []⟩)) (fun φ => some ((fput φ 24 (fget φ 9), H), ⟨false, [], []⟩)) := Zg (j := 3) (oj := Z0e) rfl rfl rfl (fun _ => rfl) (fun _ => Z7 rfl rfl)
theorem ZSN : stepT E C B 53 Zt Zms (φ, H) = gdT φ 21 true (fun φ => (some (fput φ 25 (.tup []), H)).map fun s => (s, ⟨false, [], []⟩)) (fun φ => stpT (some 25) φ H (just (Z4 E.T 22 (fget φ 23) (fget φ 24)))) := Zg (j := 3) (oj := Z0e) rfl rfl rfl (fun _ => rfl) (fun _ => Z6 rfl rfl)
theorem ZRQ : stepT E C B 53 Zt Zpy (φ, H) = gdT φ 21 true (fun φ => (some (fput φ 26 (.tup []), H)).map fun s => (s, ⟨false, [], []⟩)) (fun φ => stpT (some 26) φ H (just (aLoad E.T 3 (fget φ 25)))) := Zg (j := 3) (oj := Z0e) rfl rfl rfl (fun _ => rfl) (fun _ => Z6 rfl rfl)
theorem ZQR : stepT E C B 53 Zt ZrM (φ, H) = gdT φ 21 true (fun φ => (some (fput φ 27 (.tup []), H)).map fun s => (s, ⟨false, [], []⟩)) (fun φ => some ((fput φ 27 (fget φ 0), H), ⟨false, [], []⟩)) := Zg (j := 3) (oj := Z0e) rfl rfl rfl (fun _ => rfl) (fun _ => Z7 rfl rfl)
theorem ZLc : stepT E C B 53 Zt ZhW (φ, H) = gdT φ 21 true (fun φ => (some (fput φ 28 (.tup []), H)).map fun s => (s, ⟨false, [], []⟩)) (fun φ => some ((fput φ 28 (fget φ 9), H), ⟨false, [], []⟩)) := Zg (j := 3) (oj := Z0e) rfl rfl rfl (fun _ => rfl) (fun _ => Z7 rfl rfl)
theorem ZGR : stepT E C B 53 Zt Zfg (φ, H) = gdT φ 21 true (fun φ => (some (fput φ 29 (.tup []), H)).map fun s => (s, ⟨false, [], []⟩)) (fun φ => stpT (some 29) φ H (just (aBin E.T .sub 3 (fget φ 28) (.int .i64 1)))) := Zg (j := 3) (oj := Z0e) rfl rfl rfl (fun _ => rfl) (fun _ => Z6 rfl rfl)
theorem ZIb : stepT E C B 53 Zt Zfw (φ, H) = gdT φ 21 true (fun φ => (some (fput φ 30 (.tup []), H)).map fun s => (s, ⟨false, [], []⟩)) (fun φ => stpT (some 30) φ H (just (Z4 E.T 22 (fget φ 27) (fget φ 29)))) := Zg (j := 3) (oj := Z0e) rfl rfl rfl (fun _ => rfl) (fun _ => Z6 rfl rfl)
theorem ZNs : stepT E C B 53 Zt ZgC (φ, H) = gdT φ 21 true (fun φ => (some (fput φ 31 (.tup []), H)).map fun s => (s, ⟨false, [], []⟩)) (fun φ => stpT (some 31) φ H (just (aLoad E.T 3 (fget φ 30)))) := Zg (j := 3) (oj := Z0e) rfl rfl rfl (fun _ => rfl) (fun _ => Z6 rfl rfl)
theorem ZIY : stepT E C B 53 Zt ZeD (φ, H) = gdT φ 21 true (fun φ => (some (fput φ 32 (.tup []), H)).map fun s => (s, ⟨false, [], []⟩)) (fun φ => callVT E C (B + 53 * 8) (some 32) (fun j => B + j * 53 + 32) φ H (fget φ 22) [(fget φ 26), (fget φ 31)] true) := Zg (j := 3) (oj := Z0e) rfl rfl rfl (fun _ => rfl) (fun _ => Zk6 rfl rfl)
theorem ZL8 : stepT E C B 53 Zt Zh8 (φ, H) = gdT φ 21 true (fun φ => (some (fput φ 33 (.tup []), H)).map fun s => (s, ⟨false, [], []⟩)) (fun φ => stpT (some 33) φ H (just (aBin E.T .lss 3 (fget φ 32) (.int .i64 0)))) := Zg (j := 3) (oj := Z0e) rfl rfl rfl (fun _ => rfl) (fun _ => Z6 rfl rfl)
theorem ZNF : stepT E C B 53 Zt Zgu (φ, H) = stpT (some 34) φ H (opPick (fget φ 21) (fget φ 33) (.bool false)) := Z2 rfl (Z6 rfl rfl)
def Z7n := kR Z7D
def Zyj := kT Z7n
theorem Z00N : execA E C (fg 133) B 53 E0 N Zyj s = some (.normal, s) := Zh (by rfl) s
def Zz4 := kE Z7n
theorem Z04n : execA E C (fg 133) B 53 E0 N Zz4 s = some (.exit 2, s) := ZW (by rfl) s
theorem Z01D : XC 133 53 Z7n 34 Zyj Zz4 := Zf (by rfl) _
theorem Z00G : XQ 133 53 Z7D ZdN Z7n := Z0 (by rfl) _
def Z7U := kR Z52
def Zdb := kL Z7U
def Zek := kB Zdb
def Zr := kO Zek
def ZrS := opN Zr 0
def Zsl := opN Zr 1
def Zoe := opN Zr 2
def Zsa := opN Zr 3
def ZmV := opN Zr 4
def Zt5 := opN Zr 5
def Zmc := opN Zr 6
def Zr9 := opN Zr 7
def ZrU := opN Zr 8
def ZrJ := opN Zr 9
def Zi2 := opN Zr 10
def ZfQ := opN Zr 11
def ZfH := opN Zr 12
def ZiF := opN Zr 13
def ZiK := opN Zr 14
def Zf5 := opN Zr 15
def ZgZ := opN Zr 16
def Zig := opN Zr 17
theorem Z0b2 : XD 133 53 Zek Zr [34, 37, 38, 39, 40, 41, 42, 43, 44, 45, 46, 47, 48, 49, 50, 51, 52] := Z0v (by rfl) (by rfl) _
theorem ZVA : Zr.toList = [ZrS, Zsl, Zoe, Zsa, ZmV, Zt5, Zmc, Zr9, ZrU, ZrJ, Zi2, ZfQ, ZfH, ZiF, ZiK, Zf5, ZgZ, Zig] := nf
theorem ZJz : statOk Zr = true := by kernel_rfl
theorem ZM0 : drawA E C B 53 Zr s = if neat 53 s = true then drX Zr (runT E C B 53 Zr Zr.toList 0 s) else none := Z0c ZJz s
theorem ZJP (l : List (Nat × Tr)) : dynOk Zr l = (!writing l || Zc [[], [], [], [], [3], [], [], [6], [5, 6, 7], [5, 6, 7, 8], [], [], [10, 11], [10, 11, 12], [0, 1, 5, 6, 7, 8, 9, 10, 11, 12, 13], [0, 1, 5, 6, 7, 8, 9, 10, 11, 12, 13, 14], [0, 1, 2, 3, 4, 5, 6, 7, 8, 9, 10, 11, 12, 13, 14, 15], [0, 1, 2, 3, 4, 5, 6, 7, 8, 9, 10, 11, 12, 13, 14, 15, 16]] (Zb l)) := ZX (by kernel_rfl) l
theorem ZPn : stepT E C B 53 Zr ZrS (φ, H) = some ((fput φ 37 (fget φ 0), H), ⟨false, [], []⟩) := Z2 rfl (Z7 rfl rfl)
theorem ZVu : stepT E C B 53 Zr Zsl (φ, H) = some ((fput φ 38 (fget φ 9), H), ⟨false, [], []⟩) := Z2 rfl (Z7 rfl rfl)
theorem ZUd : stepT E C B 53 Zr Zoe (φ, H) = some ((fput φ 39 (fget φ 0), H), ⟨false, [], []⟩) := Z2 rfl (Z7 rfl rfl)
theorem ZRm : stepT E C B 53 Zr Zsa (φ, H) = some ((fput φ 40 (fget φ 9), H), ⟨false, [], []⟩) := Z2 rfl (Z7 rfl rfl)
theorem ZPt : stepT E C B 53 Zr ZmV (φ, H) = stpT (some 41) φ H (just (aBin E.T .sub 3 (fget φ 40) (.int .i64 1))) := Z2 rfl (Z6 rfl rfl)
theorem ZTL : stepT E C B 53 Zr Zt5 (φ, H) = some ((fput φ 42 (fget φ 0), H), ⟨false, [], []⟩) := Z2 rfl (Z7 rfl rfl)
theorem ZOX : stepT E C B 53 Zr Zmc (φ, H) = some ((fput φ 43 (fget φ 9), H), ⟨false, [], []⟩) := Z2 rfl (Z7 rfl rfl)
theorem ZQ7 : stepT E C B 53 Zr Zr9 (φ, H) = stpT (some 44) φ H (just (aBin E.T .sub 3 (fget φ 43) (.int .i64 1))) := Z2 rfl (Z6 rfl rfl)
theorem ZVR : stepT E C B 53 Zr ZrU (φ, H) = stpT (some 45) φ H (just (Z4 E.T 22 (fget φ 42) (fget φ 44))) := Z2 rfl (Z6 rfl rfl)
theorem ZQU : stepT E C B 53 Zr ZrJ (φ, H) = stpT (some 46) φ H (just (aLoad E.T 3 (fget φ 45))) := Z2 rfl (Z6 rfl rfl)
theorem ZK3 : stepT E C B 53 Zr Zi2 (φ, H) = some ((fput φ 47 (fget φ 0), H), ⟨false, [], []⟩) := Z2 rfl (Z7 rfl rfl)
theorem ZH9 : stepT E C B 53 Zr ZfQ (φ, H) = some ((fput φ 48 (fget φ 9), H), ⟨false, [], []⟩) := Z2 rfl (Z7 rfl rfl)
theorem ZHk : stepT E C B 53 Zr ZfH (φ, H) = stpT (some 49) φ H (just (Z4 E.T 22 (fget φ 47) (fget φ 48))) := Z2 rfl (Z6 rfl rfl)
theorem ZOj : stepT E C B 53 Zr ZiF (φ, H) = stpT (some 50) φ H (just (aLoad E.T 3 (fget φ 49))) := Z2 rfl (Z6 rfl rfl)
theorem ZIX : stepT E C B 53 Zr ZiK (φ, H) = stpT (some 51) φ H (just (Z4 E.T 22 (fget φ 37) (fget φ 38))) := Z2 rfl (Z6 rfl rfl)
theorem ZMJ : stepT E C B 53 Zr Zf5 (φ, H) = stpT none φ H (opStore E.T 3 (fget φ 51) (fget φ 46)) := Z2 rfl (Z6 rfl rfl)
theorem ZLX : stepT E C B 53 Zr ZgZ (φ, H) = stpT (some 52) φ H (just (Z4 E.T 22 (fget φ 39) (fget φ 41))) := Z2 rfl (Z6 rfl rfl)
theorem ZH1 : stepT E C B 53 Zr Zig (φ, H) = stpT none φ H (opStore E.T 3 (fget φ 52) (fget φ 50)) := Z2 rfl (Z6 rfl rfl)
theorem ZZA : execA E C (fg 133) B 53 E0 N Zdb s = blockX 3 (fun s => (forget s.1 [], s.2)) (execA E C (fg 133) B 53 E0 N Zek s) := Zi (by rfl) (by rfl) s
def Zdy := kR Z7U
def Z3n := kO Zdy
def Zmw := opN Z3n 0
def Zoo := opN Z3n 1
def ZlU := opN Z3n 2
theorem Z0bv : XG 133 53 Zdy Z3n [35, 36] := Z1 (by rfl) (by rfl) _
theorem ZUF : Z3n.toList = [Zmw, Zoo, ZlU] := nf
theorem ZWc : stepA E C B 53 Z3n Zmw (φ, H) = some (fput φ 35 (fget φ 9), H) := nf
theorem ZTB : stepA E C B 53 Z3n Zoo (φ, H) = stp (some 36) φ H (just (aBin E.T .sub 3 (fget φ 35) (.int .i64 1))) := nf
theorem ZRu : stepA E C B 53 Z3n ZlU (φ, H) = some (fput φ 9 (fget φ 36), H) := nf
theorem Z00U : XQ 133 53 Z7U Zdb Zdy := Z0 (by rfl) _
theorem Z04v : XQ 133 53 Z52 Z7D Z7U := Z0 (by rfl) _
theorem Z0bU : execA E C (fg 133) B 53 E0 N ZdQ s = iterA (execA E C (fg 133) B 53 E0 N Z52) (headA E0) N s := Z08 (by rfl) s
theorem Z08m : execA E C (fg 133) B 53 E0 N ZdF s = blockX 2 (fun s => (forget s.1 [9, 34], s.2)) (execA E C (fg 133) B 53 E0 N ZdQ s) := Zi (by rfl) (by rfl) s
theorem ZYL : XQ 133 53 Z82 ZdC ZdF := Z0 (by rfl) _
theorem Z0al : execA E C (fg 133) B 53 E0 N Ze3 s = blockX 1 (fun s => (forget s.1 [], s.2)) (execA E C (fg 133) B 53 E0 N Z82 s) := Zi (by rfl) (by rfl) s
def ZdJ := kR Z7G
def Z3s := kO ZdJ
def ZnG := opN Z3s 0
def Zm1 := opN Z3s 1
def ZlI := opN Z3s 2
theorem Z0a0 : XG 133 53 ZdJ Z3s [15, 16] := Z1 (by rfl) (by rfl) _
theorem ZTk : Z3s.toList = [ZnG, Zm1, ZlI] := nf
theorem ZRE : stepA E C B 53 Z3s ZnG (φ, H) = some (fput φ 15 (fget φ 8), H) := nf
theorem ZQJ : stepA E C B 53 Z3s Zm1 (φ, H) = stp (some 16) φ H (just (aBin E.T .add 3 (fget φ 15) (.int .i64 1))) := nf
theorem ZU1 : stepA E C B 53 Z3s ZlI (φ, H) = some (fput φ 8 (fget φ 16), H) := nf
theorem Z06i : XQ 133 53 Z7G Ze3 ZdJ := Z0 (by rfl) _
theorem Z0iw : XQ 133 53 Z6d Zag Z7G := Z0 (by rfl) _
theorem Z0jv : execA E C (fg 133) B 53 E0 N Zp1 s = iterA (execA E C (fg 133) B 53 E0 N Z6d) (headA E0) N s := Z08 (by rfl) s
theorem Z0fI : execA E C (fg 133) B 53 E0 N Zq6 s = blockX 0 (fun s => (forget s.1 [0, 1, 2, 3, 8, 14], s.2)) (execA E C (fg 133) B 53 E0 N Zp1 s) := Zi (by rfl) (by rfl) s
theorem Z0dw : XQ 133 53 Z5R Zq1 Zq6 := Z0 (by rfl) _
theorem Z0dM : fInfo E 133 = some ⟨53, #[], Z5R⟩ := nf
theorem Z0ov (args : List AV) : bodyA E C fg N 133 args H B = bodyX E [] (execA E C (fg 133) B 53 H N Z5R (Z5 args 0 [], H)) := Zp Z0dM args H
abbrev Z6U := And.intro (And.intro (And.intro (And.intro (And.intro (And.intro @Z0fp @ZU3) (And.intro @ZVv (And.intro @ZU6 @ZRp))) (And.intro (And.intro @Z0hV (And.intro @ZRe @ZUm)) (And.intro @ZPK (And.intro @ZP7 @Z0ky)))) (And.intro (And.intro (And.intro @Z0kG @Z0dy) (And.intro @Z0kF (And.intro @Z00W @ZRk))) (And.intro (And.intro @ZP0 (And.intro @ZQo @ZZs)) (And.intro @ZQQ (And.intro @ZLA @ZJc))))) (And.intro (And.intro (And.intro (And.intro @ZR1 @ZQv) (And.intro @ZWK (And.intro @ZSA @ZS3))) (And.intro (And.intro @ZPW (And.intro @ZRh @ZSN)) (And.intro @ZRQ (And.intro @ZQR @ZLc)))) (And.intro (And.intro (And.intro @ZGR @ZIb) (And.intro @ZNs (And.intro @ZIY @ZL8))) (And.intro (And.intro @ZNF (And.intro @Z00N @Z04n)) (And.intro @Z01D (And.intro @Z00G @Z0b2)))))) (And.intro (And.intro (And.intro (And.intro (And.intro @ZVA @ZM0) (And.intro @ZJP (And.intro @ZPn @ZVu))) (And.intro (And.intro @ZUd (And.intro @ZRm @ZPt)) (And.intro @ZTL (And.intro @ZOX @ZQ7)))) (And.intro (And.intro (And.intro @ZVR @ZQU) (And.intro @ZK3 (And.intro @ZH9 @ZHk))) (And.intro (And.intro @ZOj (And.intro @ZIX @ZMJ)) (And.intro @ZLX (And.intro @ZH1 @ZZA))))) (And.intro (And.intro (And.intro (And.intro @Z0bv @ZUF) (And.intro @ZWc (And.intro @ZTB @ZRu))) (And.intro (And.intro @Z00U (And.intro @Z04v @Z0bU)) (And.intro @Z08m (And.intro @ZYL @Z0al)))) (And.intro (And.intro (And.intro @Z0a0 @ZTk) (And.intro @ZRE (And.intro @ZQJ @ZU1))) (And.intro (And.intro @Z06i (And.intro @Z0iw @Z0jv)) (And.intro @Z0fI (And.intro @Z0dw @Z0ov))))))
def Zaz := kBody Proofs.Try.f66
def ZFz := kL Zaz
def Zkt := kO ZFz
def Zyv := opN Zkt 0
theorem Z0ls : XG 66 8 ZFz Zkt [2] := Z1 (by rfl) (by rfl) _
theorem Z02S : Zkt.toList = [Zyv] := nf
theorem ZZ8 : stepA E C B 8 Zkt Zyv (φ, H) = some (fput φ 2 (.nilsl), H) := nf
def Zl0 := kR Zaz
def ZjB := kL Zl0
def ZG6 := kL ZjB
def Z7S := kO ZG6
def ZEk := opN Z7S 0
def Zxj := opN Z7S 1
theorem Z0pM : XG 66 8 ZG6 Z7S [3] := Z1 (by rfl) (by rfl) _
theorem ZZ5 : Z7S.toList = [ZEk, Zxj] := nf
theorem Z06x : stepA E C B 8 Z7S ZEk (φ, H) = some (fput φ 3 (fget φ 0), H) := nf
theorem Z0b0 : stepA E C B 8 Z7S Zxj (φ, H) = stp (some 4) φ H (just (aBin E.T .eql 22 (fget φ 3) (.nilsl))) := nf
def Zkp := kR ZjB
def Zjj := kT Zkp
def ZFF := kL Zjj
def ZjZ := kO ZFF
def ZuO := opN ZjZ 0
theorem Z0pK : XG 66 8 ZFF ZjZ [0, 4] := Z1 (by rfl) (by rfl) _
theorem Z07X : ZjZ.toList = [ZuO] := nf
theorem Z05l : stepA E C B 8 ZjZ ZuO (φ, H) = some (fput φ 2 (.nilsl), H) := nf
def ZWU := kR Zjj
theorem Z0oi : execA E C (fg 66) B 8 E0 N ZWU s = some (.ret, s) := Zo (by rfl) s
theorem Z0kX : XQ 66 8 Zjj ZFF ZWU := Z0 (by rfl) _
def ZWS := kE Zkp
theorem Z0lY : execA E C (fg 66) B 8 E0 N ZWS s = some (.normal, s) := Zh (by rfl) s
theorem Z0nJ : XC 66 8 Zkp 4 Zjj ZWS := Zf (by rfl) _
theorem Z0lS : XQ 66 8 ZjB ZG6 Zkp := Z0 (by rfl) _
def Zbw := kR Zl0
def Zuf := kL Zbw
def Z30 := kO Zuf
def ZuD := opN Z30 0
def ZyQ := opN Z30 1
def Zyd := opN Z30 2
def ZC4 := opN Z30 3
theorem Z0ej : XG 66 8 Zuf Z30 [0, 4, 5, 6, 7] := Z1 (by rfl) (by rfl) _
theorem Z01t : Z30.toList = [ZuD, ZyQ, Zyd, ZC4] := nf
theorem Z06M : stepA E C B 8 Z30 ZuD (φ, H) = stp (some 5) φ H (Z9 E.T (B + 5) 22 0 (evO E φ) []) := nf
theorem ZYb : stepA E C B 8 Z30 ZyQ (φ, H) = some (fput φ 6 (fget φ 0), H) := nf
theorem Z0bE : stepA E C B 8 Z30 Zyd (φ, H) = stp (some 7) φ H (Z3 E.T (B + 7) .append #[22, 22] [(fget φ 5), (fget φ 6)]) := nf
theorem Z06L : stepA E C B 8 Z30 ZC4 (φ, H) = some (fput φ 2 (fget φ 7), H) := nf
def ZMj := kR Zbw
theorem Z0iI : execA E C (fg 66) B 8 E0 N ZMj s = some (.ret, s) := Zo (by rfl) s
theorem Z0g3 : XQ 66 8 Zbw Zuf ZMj := Z0 (by rfl) _
theorem Z0pq : XQ 66 8 Zl0 ZjB Zbw := Z0 (by rfl) _
theorem Z0n9 : XQ 66 8 Zaz ZFz Zl0 := Z0 (by rfl) _
theorem Z0mA : fInfo E 66 = some ⟨8, #[.tmp 2], Zaz⟩ := nf
theorem b_66 (args : List AV) : bodyA E C fg N 66 args H B = bodyX E [.tmp 2] (execA E C (fg 66) B 8 H N Zaz (Z5 args 0 [], H)) := Zp Z0mA args H
abbrev F_66 := And.intro (And.intro (And.intro (And.intro @Z0ls (And.intro @Z02S @ZZ8)) (And.intro @Z0pM (And.intro @ZZ5 @Z06x))) (And.intro (And.intro @Z0b0 (And.intro @Z0pK @Z07X)) (And.intro (And.intro @Z05l @Z0oi) (And.intro @Z0kX @Z0lY)))) (And.intro (And.intro (And.intro @Z0nJ (And.intro @Z0lS @Z0ej)) (And.intro @Z01t (And.intro @Z06M @ZYb))) (And.intro (And.intro @Z0bE (And.intro @Z06L @Z0iI)) (And.intro (And.intro @Z0g3 @Z0pq) (And.intro @Z0n9 @b_66))))
def Zb7 := kBody Proofs.Try.f73
def ZFR := kL Zb7
def ZkI := kO ZFR
def ZBZ := opN ZkI 0
theorem Z0l6 : XG 73 9 ZFR ZkI [4] := Z1 (by rfl) (by rfl) _
theorem ZYx : ZkI.toList = [ZBZ] := nf
theorem Z0bO : stepA E C B 9 ZkI ZBZ (φ, H) = some (fput φ 4 (.bool false), H) := nf
def Zjq := kR Zb7
def ZGi := kL Zjq
def Z2c := kO ZGi
def ZAC := opN Z2c 0
def Zw9 := opN Z2c 1
def ZvM := opN Z2c 2
def ZCa := opN Z2c 3
def Zw4 := opN Z2c 4
theorem Z0nB : XG 73 9 ZGi Z2c [0, 1, 5, 6, 7, 8] := Z1 (by rfl) (by rfl) _
theorem ZYE : Z2c.toList = [ZAC, Zw9, ZvM, ZCa, Zw4] := nf
theorem Z06l : stepA E C B 9 Z2c ZAC (φ, H) = some (fput φ 5 (fget φ 0), H) := nf
theorem Z005 : stepA E C B 9 Z2c Zw9 (φ, H) = some (fput φ 6 (fget φ 1), H) := nf
theorem ZZF : stepA E C B 9 Z2c ZvM (φ, H) = stp (some 7) φ H (aCall C (fun j => B + j * 9 + 7) true 64 [(fget φ 5), (fget φ 6)]) := nf
theorem Z04a : stepA E C B 9 Z2c ZCa (φ, H) = stp (some 8) φ H (just (aBin E.T .geq 3 (fget φ 7) (.int .i64 0))) := nf
theorem Z09A : stepA E C B 9 Z2c Zw4 (φ, H) = some (fput φ 4 (fget φ 8), H) := nf
def ZX5 := kR Zjq
theorem Z0lM : execA E C (fg 73) B 9 E0 N ZX5 s = some (.ret, s) := Zo (by rfl) s
theorem Z0q6 : XQ 73 9 Zjq ZGi ZX5 := Z0 (by rfl) _
theorem Z0lR : XQ 73 9 Zb7 ZFR Zjq := Z0 (by rfl) _
theorem Z0on : fInfo E 73 = some ⟨9, #[.tmp 4], Zb7⟩ := nf
theorem b_73 (args : List AV) : bodyA E C fg N 73 args H B = bodyX E [.tmp 4] (execA E C (fg 73) B 9 H N Zb7 (Z5 args 0 [], H)) := Zp Z0on args H
abbrev F_73 := And.intro (And.intro (And.intro @Z0l6 (And.intro @ZYx @Z0bO)) (And.intro (And.intro @Z0nB @ZYE) (And.intro @Z06l @Z005))) (And.intro (And.intro @ZZF (And.intro @Z04a @Z09A)) (And.intro (And.intro @Z0lM @Z0q6) (And.intro @Z0lR @b_73)))
def Zck := kBody Proofs.Try.f64
def ZEW := kL Zck
def Zkm := kO ZEW
def Zvv := opN Zkm 0
theorem Z0mK : XG 64 19 ZEW Zkm [4] := Z1 (by rfl) (by rfl) _
theorem Z07V : Zkm.toList = [Zvv] := nf
theorem Z09r : stepA E C B 19 Zkm Zvv (φ, H) = some (fput φ 4 (.int .i64 0), H) := nf
def Zl1 := kR Zck
def Zkg := kL Zl1
def ZGM := kL Zkg
def Z4L := kO ZGM
def ZxB := opN Z4L 0
def ZBz := opN Z4L 1
def ZBq := opN Z4L 2
theorem Z0mf : XG 64 19 ZGM Z4L [6] := Z1 (by rfl) (by rfl) _
theorem ZYF : Z4L.toList = [ZxB, ZBz, ZBq] := nf
theorem Z01H : stepA E C B 19 Z4L ZxB (φ, H) = some (fput φ 6 (fget φ 0), H) := nf
theorem Z0aE : stepA E C B 19 Z4L ZBz (φ, H) = stp (some 7) φ H (Z3 E.T (B + 7) .len #[39] [(fget φ 6)]) := nf
theorem Z05o : stepA E C B 19 Z4L ZBq (φ, H) = some (fput φ 8 (.int .i64 0), H) := nf
def ZEI := kR Zkg
def ZEw := kB ZEI
def Z4I := kB ZEw
def ZEy := kL Z4I
def Zkk := kO ZEy
def ZvC := opN Zkk 0
theorem Z0oX : XG 64 19 ZEy Zkk [] := Z1 (by rfl) (by rfl) _
theorem Z07Q : Zkk.toList = [ZvC] := nf
theorem Z0cp : stepA E C B 19 Zkk ZvC (φ, H) = stp (some 9) φ H (just (aBin E.T .lss 3 (fget φ 8) (fget φ 7))) := nf
def Zld := kR Z4I
def Z9b := kL Zld
def ZKW := kT Z9b
theorem Z0du : execA E C (fg 64) B 19 E0 N ZKW s = some (.normal, s) := Zh (by rfl) s
def ZKv := kE Z9b
theorem Z0fs : execA E C (fg 64) B 19 E0 N ZKv s = some (.exit 0, s) := ZW (by rfl) s
theorem Z0gD : XC 64 19 Z9b 9 ZKW ZKv := Zf (by rfl) _
def ZaC := kR Zld
def ZpI := kL ZaC
def Zc6 := kB ZpI
def Zos := kL Zc6
def Z6N := kO Zos
def ZyJ := opN Z6N 0
def ZyI := opN Z6N 1
theorem Z0jI : XG 64 19 Zos Z6N [9, 10] := Z1 (by rfl) (by rfl) _
theorem Z0cx : Z6N.toList = [ZyJ, ZyI] := nf
theorem ZXq : stepA E C B 19 Z6N ZyJ (φ, H) = some (fput φ 10 (fget φ 8), H) := nf
theorem Z024 : stepA E C B 19 Z6N ZyI (φ, H) = some (fput φ 5 (fget φ 10), H) := nf
def ZbX := kR Zc6
def Zls := kL ZbX
def Z1E := kO Zls
def ZA5 := opN Z1E 0
def Zzt := opN Z1E 1
def Zzw := opN Z1E 2
def ZEl := opN Z1E 3
def ZCw := opN Z1E 4
def ZzO := opN Z1E 5
theorem Z0g1 : XG 64 19 Zls Z1E [11, 12, 13, 14, 15] := Z1 (by rfl) (by rfl) _
theorem Z09G : Z1E.toList = [ZA5, Zzt, Zzw, ZEl, ZCw, ZzO] := nf
theorem Z06N : stepA E C B 19 Z1E ZA5 (φ, H) = some (fput φ 11 (fget φ 1), H) := nf
theorem Z01W : stepA E C B 19 Z1E Zzt (φ, H) = some (fput φ 12 (fget φ 0), H) := nf
theorem Z02C : stepA E C B 19 Z1E Zzw (φ, H) = some (fput φ 13 (fget φ 5), H) := nf
theorem Z07f : stepA E C B 19 Z1E ZEl (φ, H) = stp (some 14) φ H (just (Z4 E.T 39 (fget φ 12) (fget φ 13))) := nf
theorem Z00R : stepA E C B 19 Z1E ZCw (φ, H) = stp (some 15) φ H (just (aLoad E.T 22 (fget φ 14))) := nf
theorem Z03V : stepA E C B 19 Z1E ZzO (φ, H) = callV E C (B + 19 * 8) (some 16) (fun j => B + j * 19 + 16) φ H (fget φ 11) [(fget φ 15)] true := nf
def ZcC := kR ZbX
def Zd6 := kT ZcC
def ZmW := kL Zd6
def Z6C := kO ZmW
def Zv7 := opN Z6C 0
def ZCn := opN Z6C 1
theorem Z0dp : XG 64 19 ZmW Z6C [0, 1, 5, 7, 8, 16, 17] := Z1 (by rfl) (by rfl) _
theorem Z00F : Z6C.toList = [Zv7, ZCn] := nf
theorem Z09T : stepA E C B 19 Z6C Zv7 (φ, H) = some (fput φ 17 (fget φ 5), H) := nf
theorem Z0bl : stepA E C B 19 Z6C ZCn (φ, H) = some (fput φ 4 (fget φ 17), H) := nf
def ZL2 := kR Zd6
theorem Z0eQ : execA E C (fg 64) B 19 E0 N ZL2 s = some (.ret, s) := Zo (by rfl) s
theorem Z0d5 : XQ 64 19 Zd6 ZmW ZL2 := Z0 (by rfl) _
def ZGW := kE ZcC
theorem Z0ji : execA E C (fg 64) B 19 E0 N ZGW s = some (.normal, s) := Zh (by rfl) s
theorem Z0jK : XC 64 19 ZcC 16 Zd6 ZGW := Zf (by rfl) _
theorem Z0jM : XQ 64 19 ZbX Zls ZcC := Z0 (by rfl) _
theorem Z0iB : XQ 64 19 Zc6 Zos ZbX := Z0 (by rfl) _
theorem Z0kr : execA E C (fg 64) B 19 E0 N ZpI s = blockX 1 (fun s => (forget s.1 [5, 16], s.2)) (execA E C (fg 64) B 19 E0 N Zc6 s) := Zi (by rfl) (by rfl) s
def Zrw := kR ZaC
def Z8b := kO Zrw
def ZBy := opN Z8b 0
def ZA1 := opN Z8b 1
theorem Z0gM : XG 64 19 Zrw Z8b [18] := Z1 (by rfl) (by rfl) _
theorem Z08d : Z8b.toList = [ZBy, ZA1] := nf
theorem Z02A : stepA E C B 19 Z8b ZBy (φ, H) = stp (some 18) φ H (just (aBin E.T .add 3 (fget φ 8) (.int .i64 1))) := nf
theorem Z00i : stepA E C B 19 Z8b ZA1 (φ, H) = some (fput φ 8 (fget φ 18), H) := nf
theorem Z0cD : XQ 64 19 ZaC ZpI Zrw := Z0 (by rfl) _
theorem Z0nE : XQ 64 19 Zld Z9b ZaC := Z0 (by rfl) _
theorem Z0mv : XQ 64 19 Z4I ZEy Zld := Z0 (by rfl) _
theorem Z0nx : execA E C (fg 64) B 19 E0 N ZEw s = iterA (execA E C (fg 64) B 19 E0 N Z4I) (headA E0) N s := Z08 (by rfl) s
theorem Z0nm : execA E C (fg 64) B 19 E0 N ZEI s = blockX 0 (fun s => (forget s.1 [0, 1, 7, 8, 9], s.2)) (execA E C (fg 64) B 19 E0 N ZEw s) := Zi (by rfl) (by rfl) s
theorem Z0pf : XQ 64 19 Zkg ZGM ZEI := Z0 (by rfl) _
def ZbB := kR Zl1
def Zqf := kL ZbB
def ZjX := kO Zqf
def ZyB := opN ZjX 0
theorem Z0ef : XG 64 19 Zqf ZjX [] := Z1 (by rfl) (by rfl) _
theorem ZZ9 : ZjX.toList = [ZyB] := nf
theorem Z03c : stepA E C B 19 ZjX ZyB (φ, H) = some (fput φ 4 (.int .i64 (-1)), H) := nf
def ZJ4 := kR ZbB
theorem Z0kn : execA E C (fg 64) B 19 E0 N ZJ4 s = some (.ret, s) := Zo (by rfl) s
theorem Z0im : XQ 64 19 ZbB Zqf ZJ4 := Z0 (by rfl) _
theorem Z0n2 : XQ 64 19 Zl1 Zkg ZbB := Z0 (by rfl) _
theorem Z0lq : XQ 64 19 Zck ZEW Zl1 := Z0 (by rfl) _
theorem Z0nT : fInfo E 64 = some ⟨19, #[.tmp 4], Zck⟩ := nf
theorem b_64 (args : List AV) : bodyA E C fg N 64 args H B = bodyX E [.tmp 4] (execA E C (fg 64) B 19 H N Zck (Z5 args 0 [], H)) := Zp Z0nT args H
abbrev F_64 := And.intro (And.intro (And.intro (And.intro (And.intro @Z0mK (And.intro @Z07V @Z09r)) (And.intro @Z0mf (And.intro @ZYF @Z01H))) (And.intro (And.intro @Z0aE (And.intro @Z05o @Z0oX)) (And.intro (And.intro @Z07Q @Z0cp) (And.intro @Z0du @Z0fs)))) (And.intro (And.intro (And.intro @Z0gD (And.intro @Z0jI @Z0cx)) (And.intro (And.intro @ZXq @Z024) (And.intro @Z0g1 @Z09G))) (And.intro (And.intro @Z06N (And.intro @Z01W @Z02C)) (And.intro (And.intro @Z07f @Z00R) (And.intro @Z03V @Z0dp))))) (And.intro (And.intro (And.intro (And.intro @Z00F (And.intro @Z09T @Z0bl)) (And.intro (And.intro @Z0eQ @Z0d5) (And.intro @Z0ji @Z0jK))) (And.intro (And.intro @Z0jM (And.intro @Z0iB @Z0kr)) (And.intro (And.intro @Z0gM @Z08d) (And.intro @Z02A @Z00i)))) (And.intro (And.intro (And.intro @Z0cD (And.intro @Z0nE @Z0mv)) (And.intro (And.intro @Z0nx @Z0nm) (And.intro @Z0pf @Z0ef))) (And.intro (And.intro @ZZ9 (And.intro @Z03c @Z0kn)) (And.intro (And.intro @Z0im @Z0n2) (And.intro @Z0lq @b_64)))))
end Go.AM.Ytfmnoohhhokicaa
end
end
